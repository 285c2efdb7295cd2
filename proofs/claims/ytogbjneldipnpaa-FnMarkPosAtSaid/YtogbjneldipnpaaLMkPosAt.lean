/- The walks of laws over marks. -/
import Derived.Test.YtogbjneldipnpaaMkD2
import Derived.Test.YtogbjneldipnpaaMk6
import Derived.Test.YtogbjneldipnpaaLawKit
namespace Go.Proofs.Ytogbjneldipnpaa
open Go.RowKit
attribute [local go_sem ↓] Go.wp_at_zero Go.wp_at_succ

set_option maxHeartbeats 2000000 in
theorem fnMarkPosAt_walk (A : Option Addr) (n c : Nat) (w : World) (hn : n ≤ maxLen) (hc : n ≤ c) (hb : Bytes w w.heap.size A n) :
    Calls Try.prog 13 #[.slice A n c] w fun e w' => e = .returned (.bool true) ∧ Below w.heap.size w w' := by
  unfold maxLen at hn
  have HB := Lib.hid hb; clear hb
  by_cases hbig : 1048576 < n
  · have hB0 := Below.refl w.heap.size w
    go_enter Try.func13, Try.ntmps13
    go_wp2_with fail
    go_ret
    exact ⟨rfl, hB0⟩
  go_enter Try.func13, Try.ntmps13
  go_wp2_with fail
  refine (DrawMarkPos_any A n c w (by omega) hc HB.out).mono ?_
  rintro e w1 ⟨A1, c1, m, ms, x, rfl, hL, hxx, hb1⟩
  obtain ⟨b, off, rfl⟩ := hL.form
  have hm1 : 1 ≤ m ∧ m ≤ 5 := ⟨hL.2.2.1, hL.2.2.2.1⟩
  have hml := hL.2.1
  have hmc := hL.1
  have hRd := hL.2.2.2.2.2.1
  have HB1 := Lib.hid hb1; have HR1 := Lib.hid hRd; clear hb1 hRd hL hbig
  go_wp2_with fail
  refine (implMarkPos_any _ m c1 ms x w1 (by omega) hml HR1.out).mono ?_
  rintro e w2 ⟨rfl, hb2⟩
  have HR2 := Lib.hid ((HR1.out.below hb2).more hb2.size)
  have HB2 := Lib.hid (HB1.out.trans (hb2.mono HB1.out.size)); clear hb2 HR1 HB1
  cases hok : mvB ms && inB x (gn ms 0) (gn ms (ms.length - 1))
  · have hV : mpV ms x = .tuple #[.int .i64 0, .bool false] := by simp only [mpV, hok]; rfl
    have HV := Lib.hid hV; clear hV hok
    rw [HV.out]
    go_wp2_with fail
    refine (specMarkPos_any _ m c1 ms x w2 (by omega) hml HR2.out).mono ?_
    rintro e w3 ⟨rfl, hb3⟩
    rw [HV.out]
    have HB3 := Lib.hid (HB2.out.trans (hb3.mono HB2.out.size)); clear hb3 HR2 HB2
    go_wp2_with fail
    go_ret
    exact ⟨rfl, HB3.out⟩
  simp only [Bool.and_eq_true] at hok
  obtain ⟨hv, hx⟩ := hok
  have hx' := inB_iff.1 hx
  have HV := Lib.hid (mpV_yes hv hx)
  rw [hml] at hx'
  clear hx
  have hm := mvB_rises hv
  have hm2 := (mvB_iff.1 hv).1
  rw [hml] at hm2
  rw [HV.out]
  obtain ⟨N, hN⟩ : ∃ N, posF ms x = N := ⟨_, rfl⟩
  rw [hN] at HV ⊢
  have HM := Lib.hid hm; have HVV := Lib.hid hv; have HN := Lib.hid hN; have HML := Lib.hid hml
  clear hm hv hN hml
  go_wp2_with fail
  refine (specMarkPos_any _ m c1 ms x w2 (by omega) HML.out HR2.out).mono ?_
  rintro e w3 ⟨rfl, hb3⟩
  rw [HV.out]
  have HR3 := Lib.hid ((HR2.out.below hb3).more hb3.size)
  have HB3 := Lib.hid (HB2.out.trans (hb3.mono HB2.out.size)); clear hb3 HR2 HB2
  go_wp2_with fail
  go_loopw [9] (fun i wr => ∃ (k : Nat), k ≤ m ∧ i = .int .i64 k ∧ Below w.heap.size w wr ∧ Reads wr wr.heap.size 2 (some ⟨b, off, none⟩) m (tcells ms)) (fun i _ => m - (intOf i).toNat)
  case atStart => exact ⟨0, Nat.zero_le _, rfl, HB3.out, HR3.out⟩
  case round =>
    clear HB3 HR3
    obtain ⟨k, hk, rfl, hB, hr⟩ := hrel
    have HB := Lib.hid hB; have HR := Lib.hid hr; clear hB hr
    by_cases hlt : k < m
    · obtain ⟨b', off', e', hb', r1, r2⟩ := HR.out.mark hlt
      cases e'
      have hz := gp_zero_le HM.out (k := k) (by rw [HML.out]; omega)
      have hla := gp_le_last HM.out (k := k) (by rw [HML.out]; omega)
      have hV2 := mpV_yes (y := gn ms k) HVV.out (inB_iff.2 ⟨hz.2, hla.2⟩)
      have hle := posF_least HM.out (by rw [HML.out]; omega) (y := gn ms k) hla.2
      obtain ⟨hl1, hl2, hl3⟩ := hle
      have hv1 : posF ms (gn ms k) ≤ gp ms k := by
        rcases Int.lt_or_le (gp ms k) (posF ms (gn ms k)) with h | h
        · have := hl3 _ hz.1 h
          rw [numF_mark HM.out (by rw [HML.out]; omega)] at this
          omega
        · exact h
      have hv2 : numF ms (posF ms (gn ms k)) = gn ms k := by
        have := numF_mono HM.out (by rw [HML.out]; omega) hl1.1 hv1
        rw [numF_mark HM.out (by rw [HML.out]; omega)] at this
        omega
      have hV3 := mnV_yes (x := posF ms (gn ms k)) HVV.out (inB_iff.2 hl1)
      rw [hv2] at hV3
      have HC := Lib.hid (implMarkPos_any _ m c1 ms (gn ms k) wr (by omega) HML.out HR.out)
      have HC2 := Lib.hid (fun W (hR : Reads W W.heap.size 2 (some ⟨b, off, none⟩) m (tcells ms)) => implMarkNumber_any _ m c1 ms (posF ms (gn ms k)) W (by omega) HML.out hR)
      rw [hV2] at HC
      rw [hV3] at HC2
      clear hV2 hV3 hl1 hl2 hl3 hv2 hz hla
      generalize posF ms (gn ms k) = v at *
      generalize gp ms k = p at *
      generalize gn ms k = q at *
      have d1 : decide (p < v) = false := by simpa using hv1
      go_wp2_with fail
      refine HC.out.mono ?_
      rintro e w4 ⟨rfl, hb4⟩
      have HR4 := Lib.hid ((HR.out.below hb4).more hb4.size)
      have HB4 := Lib.hid (HB.out.trans (hb4.mono HB.out.size))
      replace r2 := (hb4.cell (p := ⟨b, off + k * 2 + 1, none⟩) hb').trans r2
      replace r1 := (hb4.cell (p := ⟨b, off + k * 2, none⟩) hb').trans r1
      replace hb' := Nat.lt_of_lt_of_le hb' hb4.size
      clear hb4 HC
      go_wp2_with fail
      refine (HC2.out _ HR4.out).mono ?_
      rintro e w5 ⟨rfl, hb5⟩
      have HR5 := Lib.hid ((HR4.out.below hb5).more hb5.size)
      have HB5 := Lib.hid (HB4.out.trans (hb5.mono HB4.out.size))
      replace r2 := (hb5.cell (p := ⟨b, off + k * 2 + 1, none⟩) hb').trans r2
      replace r1 := (hb5.cell (p := ⟨b, off + k * 2, none⟩) hb').trans r1
      clear hb5 HC2
      go_wp2_with fail
      go_roundw
      case rel => exact ⟨k + 1, by omega, by go_num, HB5.out, HR5.out⟩
      case measure => simp [intOf]; omega
    · go_wp2_with fail
      go_ret
      exact ⟨rfl, HB.out⟩
end Go.Proofs.Ytogbjneldipnpaa
