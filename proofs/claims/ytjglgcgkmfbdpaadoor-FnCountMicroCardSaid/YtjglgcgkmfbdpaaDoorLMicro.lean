/- The walk of the law FnCountMicro. -/
import Derived.Test.YtjglgcgkmfbdpaaDoorMi9
import Derived.Test.YtjglgcgkmfbdpaaDoorMiD
import Derived.Test.YtjglgcgkmfbdpaaDoorMicV
import Derived.Test.YtjglgcgkmfbdpaaDoorCnt2
namespace Go.Proofs.YtjglgcgkmfbdpaaDoor
open Go.RowKit

theorem evB_ok (l n : Int) : (inB l 0 2 && inB n 0 (4 * l + 2)) = evB l n := by
  rw [Bool.eq_iff_iff, Bool.and_eq_true, inB_iff, inB_iff]
  unfold evB
  rw [decide_eq_true_eq]
  omega
theorem implTermsOf_bad (l n : Int) (h : evB l n = false) (w : World) :
    Calls Tryd.prog 5 #[.int .i64 l, .int .i64 n] w fun e w' => e = .returned (.slice none 0 0) ∧ w = w' := by
  have HEV := Lib.hid (fun W => electronsValid_any l n W)
  rw [h] at HEV
  clear h
  go_enter Tryd.func5, Tryd.ntmps5
  go_wp2_with fail
  refine (HEV.out _).mono ?_
  rintro e w1 ⟨rfl, rfl⟩
  go_wp2_with fail
  go_ret
  exact ⟨rfl, rfl⟩
theorem specTermsOf_bad (l n : Int) (hl : -100 ≤ l ∧ l ≤ 100) (h : evB l n = false) (w : World) :
    Calls Tryd.prog 6 #[.int .i64 l, .int .i64 n] w fun e w' => e = .returned (.slice (some ⟨w.heap.size, 0, none⟩) 0 0) ∧ Below w.heap.size w w' := by
  have HOK := Lib.hid (fun W => l12Ok_any l n hl W)
  rw [evB_ok, h] at HOK
  have HB := Lib.hid ((Below.refl w.heap.size w).alloc (Nat.le_refl _) (.cells #[] 41))
  clear h
  go_enter Tryd.func6, Tryd.ntmps6
  go_wp2_with fail
  refine (HOK.out _).mono ?_
  rintro e w1 ⟨rfl, rfl⟩
  go_wp2_with fail
  go_ret
  exact ⟨rfl, HB.out⟩
theorem reads_zero2 (w : World) (B size : Nat) (A : Option Addr) : Reads w B size A 0 [] := ⟨by simp, fun h => absurd h (by omega)⟩

set_option maxHeartbeats 4000000 in
set_option maxRecDepth 100000 in
theorem fnCountMicro_walk (A : Option Addr) (n0 c0 : Nat) (A1 : Option Addr) (n1 c1 : Nat) (w : World) (hn : n0 ≤ maxLen) (hc : n0 ≤ c0) (hb : Bytes w w.heap.size A n0) (hn1 : n1 ≤ maxLen) (ht : Dbt w) :
    Calls Tryd.prog 3 #[.slice A n0 c0, .slice A1 n1 c1] w fun e w' => e = .returned (.bool true) ∧ Below w.heap.size w w' := by
  unfold maxLen at hn hn1
  have HD := Lib.hid (fun W (hB : Below w.heap.size w W) => ht.on hB); clear ht
  have HB := Lib.hid hb; clear hb
  have hB0 := Below.refl w.heap.size w
  by_cases hbig : 1048576 < n0
  · go_enter Tryd.func3, Tryd.ntmps3
    go_wp2_with fail
    go_ret
    exact ⟨rfl, hB0⟩
  by_cases hbig1 : 1048576 < n1
  · go_enter Tryd.func3, Tryd.ntmps3
    go_wp2_with fail
    go_ret
    exact ⟨rfl, hB0⟩
  clear hB0
  go_enter Tryd.func3, Tryd.ntmps3
  go_wp2_with fail
  refine (DrawTermsOf_any A n0 c0 w (by omega) hc HB.out).mono ?_
  rintro e w1 ⟨l, n, rfl, hl, hm, hb1⟩
  have HB1 := Lib.hid hb1; clear hb1 HB
  cases hev : evB l n
  · have HI := Lib.hid (fun W => implTermsOf_bad l n hev W)
    have HS := Lib.hid (fun W => specTermsOf_bad l n (by omega) hev W)
    clear hev
    go_wp2_with fail
    refine (HI.out _).mono ?_
    rintro e w2 ⟨rfl, rfl⟩
    go_wp2_with fail
    refine (HS.out _).mono ?_
    rintro e w2 ⟨rfl, hb2⟩
    have HB2 := Lib.hid (HB1.out.trans (hb2.mono HB1.out.size)); clear hb2
    generalize w1.heap.size = g at *
    go_wp2_with fail
    refine (sameTerms_any none (some ⟨g, 0, none⟩) 0 0 0 [] w2 (by omega) (reads_zero2 _ _ _ _) (reads_zero2 _ _ _ _)).mono ?_
    rintro e w3 ⟨rfl, hb3⟩
    have HB3 := Lib.hid (HB2.out.trans (hb3.mono HB2.out.size)); clear hb3 HB2
    go_wp2_with fail
    refine (sameTerms_any none (some ⟨g, 0, none⟩) 0 0 0 [] w3 (by omega) (reads_zero2 _ _ _ _) (reads_zero2 _ _ _ _)).mono ?_
    rintro e w4 ⟨rfl, hb4⟩
    have HB4 := Lib.hid (HB3.out.trans (hb4.mono HB3.out.size)); clear hb4 HB3
    go_wp2_with fail
    go_ret
    exact ⟨rfl, HB4.out⟩
  · obtain ⟨a1, a2, a3, a4⟩ : 0 ≤ l ∧ l ≤ 2 ∧ 0 ≤ n ∧ n ≤ 4 * l + 2 := of_decide_eq_true hev
    obtain ⟨l, rfl⟩ := Int.eq_ofNat_of_zero_le a1
    obtain ⟨n, rfl⟩ := Int.eq_ofNat_of_zero_le a3
    have hl2 : l ≤ 2 := by omega
    have hn2 : n ≤ capL l := by unfold capL; omega
    clear hev a1 a2 a3 a4
    have HI := Lib.hid (fun W (hB : Below w.heap.size w W) => implTermsOf_any l n hl2 hn2 W (HD.out W hB))
    have HS := Lib.hid (fun W => specTermsOf_any l n hl2 hn2 W)
    have HMC := Lib.hid (fun o s W (hB : Below w.heap.size w W) => implMicroCount_any l n hl2 hn2 o s W (HD.out W hB))
    have hp := trms_pos ⟨l, by omega⟩ ⟨n, capL_le hl2 hn2⟩ hn2
    have h252 := (lit_len ⟨l, by omega⟩ ⟨n, capL_le hl2 hn2⟩ hn2).1
    simp only at hp h252
    have HALL : Hid ((trms l n).all tvB = true) := by
      unfold Hid
      rw [List.all_eq_true]
      intro t ht
      have := List.all_eq_true.1 hp.2.2 t ht
      rw [decide_eq_true_eq] at this
      exact tvB_iff.2 ⟨⟨this.1, this.2.1⟩, this.2.2⟩
    have HSL := Lib.hid (sl_all hl2 hn2 ⟨n1 % 7, by omega⟩)
    simp only at HSL
    obtain ⟨ts, hTS⟩ : ∃ ts, trms l n = ts := ⟨_, rfl⟩
    obtain ⟨ms, hMS⟩ : ∃ ms, lit l n = ms := ⟨_, rfl⟩
    rw [hTS] at hp HALL HSL
    rw [hMS] at h252 HMC HSL
    have HLEN := Lib.hid hp.2.1
    have hm1 := hp.1
    have HST := Lib.hid (fun M => stF_bd ms M h252)
    have HTB := Lib.hid (fun M sp => stT_bd ms M sp)
    have H252 := Lib.hid h252
    have hm40 := hp.2.1
    have HTS := Lib.hid hTS
    clear hp h252 hTS hMS hn2
    go_wp2_with fail
    refine (HI.out _ HB1.out).mono ?_
    rintro e w2 ⟨A2, c2, m, rfl, hmc2, hlen2, hr2, hb2⟩
    rw [HTS.out] at hlen2 hr2
    have HL2 := Lib.hid hlen2
    rw [hlen2] at hm1 hm40
    have HR2 := Lib.hid (fun W (hB : Below w2.heap.size w2 W) => (hr2.below hB).more hB.size)
    have HB2 := Lib.hid (HB1.out.trans (hb2.mono HB1.out.size)); clear hb2 hr2 hlen2
    go_wp2_with fail
    refine (HS.out _).mono ?_
    rintro e w3 ⟨A3, c3, m3, rfl, hmc3, hlen3, hr3, hb3⟩
    rw [HTS.out] at hlen3 hr3
    obtain rfl : m3 = m := by rw [← hlen3, HL2.out]
    have HR3 := Lib.hid hr3
    have HK3 := Lib.hid hb3; clear hb3 hr3 hlen3
    go_wp2_with fail
    refine (sameTerms_any A2 A3 m3 c2 c3 ts w3 (by omega) (HR2.out _ HK3.out) HR3.out).mono ?_
    rintro e w4 ⟨rfl, hb4⟩
    have HK4 := Lib.hid (HK3.out.trans (hb4.mono HK3.out.size)); clear hb4 HK3 HR3
    have e0 : ((m3 : Int) == 0) = false := by simp; omega
    have i1 : (0 : Int) ≤ (n1 : Int) := by omega
    obtain ⟨q, hq⟩ : ∃ q : Nat, n1 % 7 = q := ⟨_, rfl⟩
    have hq7 : q < 7 := by omega
    have hq2 : (n1 : Int) % 7 = (q : Int) := by omega
    obtain ⟨r, hr⟩ : ∃ r : Nat, n % 2 = r := ⟨_, rfl⟩
    have hr1 : r < 2 := by omega
    have hr2 : (n : Int) % 2 = (r : Int) := by omega
    rw [hq] at HSL
    have HPM : Hid (prM n q = (q : Int) * 2 - 6 + (r : Int)) := by unfold Hid prM; rw [hr]
    clear hq hr
    go_wp2_with fail
    clear hq2 hr2 e0
    obtain ⟨M, hM⟩ : ∃ M : Int, (q : Int) * 2 - 6 + (r : Int) = M := ⟨_, rfl⟩
    rw [hM] at HPM
    rw [HPM.out] at HSL
    have hM1 : -6 ≤ M ∧ M ≤ 7 := by omega
    simp only [hM]
    clear hM HPM hq7 hr1
    go_loopw [10, 11] (fun v i wr => ∃ k : Nat, k ≤ 11 ∧ i = .int .i64 ((k : Int) - 5) ∧ v = .int .i64 (stF ms M k) ∧ Hid (Below w2.heap.size w2 wr)) (fun _ i _ => (6 - RowKit.intOf i).toNat)
    case atStart => exact ⟨0, by omega, by go_num, rfl, HK4.out⟩
    case round =>
      clear HK4
      obtain ⟨wo, rfl⟩ : ∃ wo : World, wo = wr := ⟨_, rfl⟩
      obtain ⟨k, hk, rfl, rfl, HK⟩ := hrel
      have hst := HST.out M k
      have HBo := Lib.hid (HB2.out.trans (HK.out.mono HB2.out.size))
      by_cases hlt : k < 11
      · have HSU : Hid (stF ms M (k + 1) = stF ms M k + stT ms M ((k : Int) - 5)) := rfl
        have HNX := Lib.hid (show ((k + 1 : Nat) : Int) - 5 = ((k : Int) - 5) + 1 by omega)
        have hsp : -5 ≤ (k : Int) - 5 ∧ (k : Int) - 5 ≤ 5 := by omega
        have hm2 : 6 - ((k : Int) - 5) = 11 - (k : Int) := by omega
        have HME := Lib.hid hm2; clear hm2
        generalize (k : Int) - 5 = sp at *
        generalize stF ms M k = C at *
        by_cases hd : (M - sp) % 2 = 0
        · obtain ⟨h, hh⟩ : ∃ h : Int, M - sp = 2 * h := ⟨(M - sp) / 2, by omega⟩
          have HTE : Hid (stT ms M sp = cnt ms h sp) := by unfold Hid stT; rw [if_pos hd, hh, Int.mul_ediv_cancel_left _ (by omega)]
          have e1 : ((M - sp).tmod 2 == 0) = true := by rw [hh]; simp
          have t2 : (M - sp).tdiv 2 = h := by rw [hh]; simp
          have hb1 : -6 ≤ h ∧ h ≤ 6 := by omega
          have HC := Lib.hid (HMC.out h sp wo HBo.out)
          have hcb := HTB.out M sp
          rw [HTE.out] at hcb HSU
          have h252 := H252.out
          clear hd hh HTE
          generalize cnt ms h sp = X at *
          go_wp2_with fail
          refine HC.out.mono ?_
          rintro e w5 ⟨rfl, hb5⟩
          have HK5 := Lib.hid (HK.out.trans (hb5.mono HK.out.size)); clear hb5
          go_wp2_with fail
          go_roundw
          case rel => exact ⟨k + 1, by omega, by rw [HNX.out], by rw [HSU.out], HK5.out⟩
          case measure => have := HME.out; simp [RowKit.intOf]; omega
        · have HTE : Hid (stT ms M sp = 0) := by unfold Hid stT; rw [if_neg hd]
          have e1 : ((M - sp).tmod 2 == 0) = false := by
            simp only [beq_eq_false_iff_ne]
            intro h0
            obtain ⟨c, hc⟩ := Int.dvd_of_tmod_eq_zero h0
            exact hd (by omega)
          rw [HTE.out, Int.add_zero] at HSU
          clear hd HTE
          go_wp2_with fail
          go_roundw
          case rel => exact ⟨k + 1, by omega, by rw [HNX.out], by rw [HSU.out], HK.out⟩
          case measure => have := HME.out; simp [RowKit.intOf]; omega
      · obtain rfl : k = 11 := by omega
        rw [HSL.out] at hst ⊢
        rw [show ((11 : Nat) : Int) - 5 = 6 from rfl]
        have HL2' := HL2.out
        have HCJ := Lib.hid (fun (j : Int) W (hW : Below w2.heap.size w2 W) => implCountJ_any A2 m3 c2 ts j W (by omega) HL2' (HR2.out W hW))
        have HCB := Lib.hid (fun (j : Int) => cntJ_bd ts j)
        have HLV := Lib.hid (fun a k => lvF_bd ts a (by rw [HL2']; exact hm40) k)
        have HCT : Hid (∀ j, ctJ ts j = cntJ ts j) := fun j => by unfold ctJ; rw [HALL.out]; rfl
        have HLM := Lib.hid HL2'
        clear HL2'
        obtain ⟨a, ha, hab⟩ : ∃ a : Nat, M.natAbs = a ∧ (M = (a : Int) ∨ (M = -(a : Int) ∧ 0 < a)) := ⟨M.natAbs, rfl, by omega⟩
        have ha7 : a ≤ 7 := by omega
        rw [ha] at hst ⊢
        clear ha HMC HI HS
        obtain ⟨F, hF⟩ : ∃ F, lvF ts a (25 - a) = F := ⟨_, rfl⟩
        rw [hF] at hst ⊢
        have HF := Lib.hid hF; clear hF
        rcases hab with rfl | ⟨rfl, hap⟩
        all_goals
          go_wp2_with fail
          go_loopw [12, 13] (fun v i wr => ∃ k : Nat, k ≤ 25 - a ∧ i = .int .i64 ((a : Int) + (k : Int)) ∧ v = .int .i64 (lvF ts a k) ∧ Hid (Below w2.heap.size w2 wr)) (fun _ i _ => (25 - RowKit.intOf i).toNat)
          case atStart => exact ⟨0, by omega, by go_num, rfl, HK.out⟩
          case round =>
            clear HK
            obtain ⟨k, hk, rfl, rfl, HK⟩ := hrel
            have hlv := HLV.out a k
            by_cases hlt : k < 25 - a
            · have HSU : Hid (lvF ts a (k + 1) = lvF ts a k + cntJ ts ((a : Int) + (k : Int))) := rfl
              have HC := Lib.hid (HCJ.out ((a : Int) + (k : Int)) wr HK.out)
              rw [HCT.out] at HC
              have hcb := HCB.out ((a : Int) + (k : Int))
              rw [HLM.out] at hcb
              generalize cntJ ts ((a : Int) + (k : Int)) = X at *
              generalize lvF ts a k = C at *
              have i4 : (a : Int) + (k : Int) ≤ 24 := by omega
              go_wp2_with fail
              refine HC.out.mono ?_
              rintro e w5 ⟨rfl, hb5⟩
              have HK5 := Lib.hid (HK.out.trans (hb5.mono HK.out.size)); clear hb5
              go_wp2_with fail
              go_roundw
              case rel => exact ⟨k + 1, by omega, by go_num, by rw [HSU.out], HK5.out⟩
              case measure => simp [RowKit.intOf]; omega
            · obtain rfl : k = 25 - a := by omega
              have i4 : ¬ (a : Int) + ((25 - a : Nat) : Int) ≤ 24 := by omega
              rw [HF.out]
              have e9 : (F == F) = true := by simp
              have HBF := Lib.hid (HB2.out.trans (HK.out.mono HB2.out.size))
              generalize (a : Int) + ((25 - a : Nat) : Int) = jj at *
              go_wp2_with fail
              go_ret
              exact ⟨rfl, HBF.out⟩
end Go.Proofs.YtjglgcgkmfbdpaaDoor
