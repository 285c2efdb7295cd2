/- The walk of the law FnBlends. -/
import Derived.Test.YtmmnkdjibdlcjaaBk8
import Derived.Test.YtmmnkdjibdlcjaaLawKit
namespace Go.Proofs.Ytmmnkdjibdlcjaa
open Go.RowKit
attribute [local go_sem ↓] Go.wp_at_zero Go.wp_at_succ

theorem blM_yes' {xs : List Int} {wd : Int} (h : blOk xs wd = true) : blM xs wd = (grN xs wd xs.length : Nat) := by unfold blM; rw [h]; rfl
theorem flat_succ {gs : List (List Int)} {k : Nat} {g : List Int} (h : gs[k]? = some g) : (gs.take (k + 1)).flatten = (gs.take k).flatten ++ g := by
  rw [List.take_add_one, h]; simp
theorem flat_le {gs : List (List Int)} (k : Nat) : (gs.take k).flatten.length ≤ gs.flatten.length := by
  have h : gs.flatten = (gs.take k).flatten ++ (gs.drop k).flatten := by rw [← List.flatten_append, List.take_append_drop]
  rw [h, List.length_append]; omega

set_option maxHeartbeats 2000000 in
theorem fnBlends_walk (A : Option Addr) (n0 c0 : Nat) (w : World) (hn : n0 ≤ maxLen) (hc : n0 ≤ c0) (hb : Bytes w w.heap.size A n0) :
    Calls Try.prog 4 #[.slice A n0 c0] w fun e w' => e = .returned (.bool true) ∧ Below w.heap.size w w' := by
  unfold maxLen at hn
  have HB := Lib.hid hb; clear hb
  have hB0 := Below.refl w.heap.size w
  by_cases hbig : 1048576 < n0
  · go_enter Try.func4, Try.ntmps4
    go_wp2_with fail
    go_ret
    exact ⟨rfl, hB0⟩
  clear hB0
  go_enter Try.func4, Try.ntmps4
  go_wp2_with fail
  refine (DrawBlendsOf_any A n0 c0 w (by omega) hc HB.out).mono ?_
  rintro e w1 ⟨A2, c2, n, xs, wd, rfl, hL, h8, hin, ⟨hwd0, hwd1⟩, hb1⟩
  have HB1 := Lib.hid hb1; clear hb1 HB
  have hnc : n ≤ c2 := hL.1
  have HL := Lib.hid hL; clear hL
  have HI := Lib.hid hin
  have HI2 : Hid (InB xs 3001) := fun t ht => by have := hin t ht; omega
  clear hin
  have HT := Lib.hid HL.out.len
  go_wp2_with fail
  refine (implBlendsOf_any A2 n c2 xs wd _ h8 hnc HT.out HI2.out HL.out.reads hwd1).mono ?_
  rintro e w2 ⟨⟨A3, q, c3, rfl, hg3⟩, hb2⟩
  have HB2 := Lib.hid (HB1.out.trans (hb2.mono HB1.out.size))
  have HL2 := Lib.hid (HL.out.below hb2)
  have HG2 := Lib.hid hg3
  clear hb2 hg3 HB1 HL
  go_wp2_with fail
  refine (specBlendsOf_any A2 n c2 xs wd _ h8 HT.out HI2.out HL2.out.reads hwd0 hwd1).mono ?_
  rintro e w3 ⟨⟨A4, q4, c4, rfl, hg4⟩, hb3⟩
  have hqq : q4 = q := by rw [← hg4.len, ← HG2.out.len]
  subst hqq
  obtain ⟨q, rfl⟩ : ∃ q, q = q4 := ⟨_, rfl⟩
  have HB3 := Lib.hid (HB2.out.trans (hb3.mono HB2.out.size))
  have HL3 := Lib.hid (HL2.out.below hb3)
  have HG3 := Lib.hid (HG2.out.below hb3)
  have HW3 := Lib.hid hg4
  have hbd := blG_bd xs wd
  have hq8 : q ≤ 8 := by have := hbd.1; rw [HG3.out.len, HT.out] at this; omega
  have HGB : Hid (∀ g ∈ blG xs wd, g.length ≤ 1000) := fun g hg => by have := hbd.2 g hg; rw [HT.out] at this; omega
  clear hb3 hg4 HB2 HL2 HG2 hbd
  have HS := Lib.hid (fun W (hW : Below w3.heap.size w3 W) => sameGroups_any A3 A4 q c3 c4 _ W (by omega) HGB.out (HG3.out.below hW) (HW3.out.below hW))
  cases hok : blOk xs wd
  · clear hok
    go_wp2_with fail
    refine (HS.out _ (Below.refl _ _)).mono ?_
    rintro e w4 ⟨rfl, hb4⟩
    have HB4 := Lib.hid (HB3.out.trans (hb4.mono HB3.out.size))
    have HS4 := Lib.hid (HS.out _ hb4)
    clear hb4
    go_wp2_with fail
    refine HS4.out.mono ?_
    rintro e w5 ⟨rfl, hb5⟩
    have HB5 := Lib.hid (HB4.out.trans (hb5.mono HB4.out.size)); clear hb5
    go_wp2_with fail
    go_ret
    exact ⟨rfl, HB5.out⟩
  have hasc : ascB xs = true ∧ 0 ≤ wd := by
    have h := hok
    simp only [blOk, Bool.and_eq_true, decide_eq_true_eq] at h
    exact ⟨h.1.1, h.1.2⟩
  have HOK := Lib.hid hok
  have HASC := Lib.hid hasc.1
  have hwd := hasc.2
  clear hok hasc
  have HGL : Hid (grN xs wd n = q) := by
    unfold Hid
    rw [← grL_len, ← HG3.out.len, blG_yes HOK.out, HT.out]
  go_wp2_with fail
  refine (HS.out _ (Below.refl _ _)).mono ?_
  rintro e w4 ⟨rfl, hb4⟩
  have HB4 := Lib.hid (HB3.out.trans (hb4.mono HB3.out.size))
  have HL4 := Lib.hid (HL3.out.below hb4)
  have HG4 := Lib.hid (HG3.out.below hb4)
  clear hb4 HB3 HL3 HG3 HW3 HS
  have HFL : Hid ((blG xs wd).flatten = xs) := by
    unfold Hid
    rw [blG_yes HOK.out, gr_flat _ _ _ (Nat.le_refl _), List.take_length]
  have HNE : Hid (∀ g ∈ blG xs wd, g ≠ []) := by
    unfold Hid
    rw [blG_yes HOK.out]; exact gr_ne _ _ _
  have HM := Lib.hid (fun W (hW : Below w4.heap.size w4 W) => implBlendsMany_any A2 n c2 xs wd W h8 hnc HT.out HI2.out (HL4.out.below hW).reads (by omega))
  rw [blM_yes' HOK.out, HT.out, HGL.out] at HM
  have HO := Lib.hid (own_empty w4 3 1)
  have HBE := Lib.hid ((Below.refl w4.heap.size w4).alloc (Nat.le_refl _) (.cells #[] 3))
  go_wp2_with fail
  go_loopw [9, 10] (fun v i wr => ∃ (k m c' : Nat) (A' : Option Addr), k ≤ q ∧ i = .int .i64 k ∧ v = .slice A' m c' ∧ Hid (((blG xs wd).take k).flatten.length = m) ∧ m ≤ 8 ∧ m ≤ c' ∧ Hid (wr.ownsRow w4.heap.size 3 1 (.slice A' m c') m (icells ((blG xs wd).take k).flatten)) ∧ Hid (Below w4.heap.size w4 wr)) (fun _ i _ => q - (intOf i).toNat)
  case atStart => exact ⟨0, 0, _, _, Nat.zero_le _, rfl, rfl, rfl, by omega, Nat.le_refl _, HO.out, HBE.out⟩
  case round =>
    clear HO HBE
    obtain ⟨k, m, c', A', hk, rfl, rfl, HM0, hm8, hmc, HW, HBR⟩ := hrel
    by_cases hlt : k < q
    · obtain ⟨b, off, A5, c5, g, rfl, hb, hg, hx, hc5, hr5⟩ := (HG4.out.below HBR.out).at hlt
      have hgl : g.length ≠ 0 := by
        have := HNE.out g (List.mem_of_getElem? hg)
        intro h; exact this (List.eq_nil_of_length_eq_zero h)
      have hle := flat_le (gs := blG xs wd) (k + 1)
      rw [HFL.out, HT.out, flat_succ hg, List.length_append, HM0.out] at hle
      have HFS := Lib.hid (flat_succ hg)
      have HR5 := Lib.hid hr5
      clear hg hr5
      obtain ⟨gl, HGLN⟩ : ∃ gl, Hid (g.length = gl) := ⟨_, rfl⟩
      rw [HGLN.out] at hx hc5 hgl hle HR5
      have e1 : ((gl : Int) == 0) = false := by simp; omega
      have i1 : (0 : Int) ≤ (k : Int) := by omega
      have i2 : (k : Int) < (q : Int) := by omega
      have hsz := HBR.out.size
      go_wp2_with (at_builtin; refine wpList_appR _ rfl (.tmp 65) (.tmp 69) _ rfl w4.heap.size 3 1 8 elInt A' c' m _ rfl HW.out wr.heap.size A5 gl c5 (icells g) rfl HR5.out (icells_one g) (m + gl) rfl (by omega) (by omega) hsz ?_)
      intro A6 c6 w6 hown6 hc6 hb6 _
      have HW6 : Hid (w6.ownsRow w4.heap.size 3 1 (.slice A6 (m + gl) c6) (m + gl) (icells ((blG xs wd).take (k + 1)).flatten)) := by
        unfold Hid
        rw [HFS.out]
        have : icells (((blG xs wd).take k).flatten ++ g) = icells ((blG xs wd).take k).flatten ++ icells g := by simp [icells]
        rw [this]; exact hown6
      have HM6 : Hid (((blG xs wd).take (k + 1)).flatten.length = m + gl) := by unfold Hid; rw [HFS.out, List.length_append, HM0.out, HGLN.out]
      have HB6 := Lib.hid (HBR.out.trans hb6)
      clear hown6 hb6
      go_wp2_with fail
      go_roundw
      case rel => exact ⟨k + 1, m + gl, c6, A6, by omega, by go_num, rfl, HM6.out, by omega, hc6, HW6.out, HB6.out⟩
      case measure => simp [intOf]; omega
    · obtain rfl : k = q := by omega
      have htk : (blG xs wd).take k = blG xs wd := List.take_of_length_le (by rw [HG4.out.len]; exact Nat.le_refl _)
      have hmn : m = n := by rw [← HM0.out, htk, HFL.out, HT.out]
      subst hmn
      have hrr := own_reads HW.out
      rw [htk, HFL.out] at hrr
      have HSI := Lib.hid (sameInts_any A' A2 m c' c2 xs wr (by omega) hrr (HL4.out.below HBR.out).reads)
      clear htk hrr
      have e2 : ((k : Int) == (k : Int)) = true := by simp
      go_wp2_with fail
      refine HSI.out.mono ?_
      rintro e w7 ⟨rfl, hb7⟩
      have HB7 := Lib.hid (HBR.out.trans (hb7.mono HBR.out.size)); clear hb7
      go_wp2_with fail
      refine (HM.out _ HB7.out).mono ?_
      rintro e w8 ⟨rfl, hb8⟩
      have HB8 := Lib.hid ((HB4.out.trans (HB7.out.mono HB4.out.size)).trans (hb8.mono (HB4.out.trans (HB7.out.mono HB4.out.size)).size)); clear hb8
      go_wp2_with fail
      go_ret
      exact ⟨rfl, HB8.out⟩
end Go.Proofs.Ytmmnkdjibdlcjaa
