/- The walk of the law FnBlendsMore. -/
import Derived.Test.YtmmnkdjibdlcjaaBk8
import Derived.Test.YtmmnkdjibdlcjaaLawKit
namespace Go.Proofs.Ytmmnkdjibdlcjaa
open Go.RowKit
attribute [local go_sem ↓] Go.wp_at_zero Go.wp_at_succ

theorem grN_wide {xs : List Int} {wd : Int} (h : InB xs 3000) (hwd : 3000 ≤ wd) (k : Nat) (hk : k ≤ xs.length) : grN xs wd k ≤ 1 := by
  induction k with
  | zero => exact Nat.zero_le _
  | succ k ih =>
    unfold grN
    cases k with
    | zero => rw [nwB_zero]; simp [grN]
    | succ k =>
      have h1 := h.at (k := k + 1) (by omega)
      have h2 := h.at (k := k) (by omega)
      rw [nwB_succ, if_neg (by simp; omega)]
      exact ih (by omega)
theorem blM_yes {xs : List Int} {wd : Int} (h : blOk xs wd = true) : blM xs wd = (grN xs wd xs.length : Nat) := by unfold blM; rw [h]; rfl

set_option maxHeartbeats 2000000 in
theorem fnBlendsMore_walk (A : Option Addr) (n0 c0 : Nat) (w : World) (hn : n0 ≤ maxLen) (hc : n0 ≤ c0) (hb : Bytes w w.heap.size A n0) :
    Calls Try.prog 5 #[.slice A n0 c0] w fun e w' => e = .returned (.bool true) ∧ Below w.heap.size w w' := by
  unfold maxLen at hn
  have HB := Lib.hid hb; clear hb
  have hB0 := Below.refl w.heap.size w
  by_cases hbig : 1048576 < n0
  · go_enter Try.func5, Try.ntmps5
    go_wp2_with fail
    go_ret
    exact ⟨rfl, hB0⟩
  clear hB0
  go_enter Try.func5, Try.ntmps5
  go_wp2_with fail
  refine (DrawBlendsOf_any A n0 c0 w (by omega) hc HB.out).mono ?_
  rintro e w1 ⟨A2, c2, n, xs, wd, rfl, hL, h8, hin, ⟨hwd0, hwd1⟩, hb1⟩
  have HB1 := Lib.hid hb1; clear hb1 HB
  have hnc : n ≤ c2 := hL.1
  have HL := Lib.hid hL; clear hL
  have HI := Lib.hid hin
  have HI2 : Hid (InB xs 3001) := fun t ht => by have := hin t ht; omega
  clear hin
  have HT := Lib.hid HL.out.len
  go_wp2_with fail
  refine (implBlendsOf_any A2 n c2 xs wd _ h8 hnc HT.out HI2.out HL.out.reads hwd1).mono ?_
  rintro e w2 ⟨⟨A3, q, c3, rfl, hg3⟩, hb2⟩
  have HB2 := Lib.hid (HB1.out.trans (hb2.mono HB1.out.size))
  have HL2 := Lib.hid (HL.out.below hb2)
  have HG2 := Lib.hid hg3
  clear hb2 hg3 HB1 HL
  go_wp2_with fail
  refine (specBlendsOf_any A2 n c2 xs wd _ h8 HT.out HI2.out HL2.out.reads hwd0 hwd1).mono ?_
  rintro e w3 ⟨⟨A4, q4, c4, rfl, hg4⟩, hb3⟩
  have hqq : q4 = q := by rw [← hg4.len, ← HG2.out.len]
  subst hqq
  obtain ⟨q, rfl⟩ : ∃ q, q = q4 := ⟨_, rfl⟩
  have HB3 := Lib.hid (HB2.out.trans (hb3.mono HB2.out.size))
  have HL3 := Lib.hid (HL2.out.below hb3)
  have HG3 := Lib.hid (HG2.out.below hb3)
  have HW3 := Lib.hid hg4
  have hbd := blG_bd xs wd
  have hq8 : q ≤ 8 := by have := hbd.1; rw [HG3.out.len, HT.out] at this; omega
  have HGB : Hid (∀ g ∈ blG xs wd, g.length ≤ 1000) := fun g hg => by have := hbd.2 g hg; rw [HT.out] at this; omega
  clear hb3 hg4 HB2 HL2 HG2 hbd
  have HS := Lib.hid (fun W (hW : Below w3.heap.size w3 W) => sameGroups_any A3 A4 q c3 c4 _ W (by omega) HGB.out (HG3.out.below hW) (HW3.out.below hW))
  cases hok : blOk xs wd
  · clear hok
    go_wp2_with fail
    refine (HS.out _ (Below.refl _ _)).mono ?_
    rintro e w4 ⟨rfl, hb4⟩
    have HB4 := Lib.hid (HB3.out.trans (hb4.mono HB3.out.size))
    have HS4 := Lib.hid (HS.out _ hb4)
    clear hb4
    go_wp2_with fail
    refine HS4.out.mono ?_
    rintro e w5 ⟨rfl, hb5⟩
    have HB5 := Lib.hid (HB4.out.trans (hb5.mono HB4.out.size)); clear hb5
    go_wp2_with fail
    go_ret
    exact ⟨rfl, HB5.out⟩
  have hasc : ascB xs = true ∧ 0 ≤ wd := by
    have h := hok
    simp only [blOk, Bool.and_eq_true, decide_eq_true_eq] at h
    exact ⟨h.1.1, h.1.2⟩
  have HOK := Lib.hid hok
  have HASC := Lib.hid hasc.1
  have hwd := hasc.2
  clear hok hasc
  have HGL : Hid (grN xs wd n = q) := by
    unfold Hid
    rw [← grL_len, ← HG3.out.len, blG_yes HOK.out, HT.out]
  go_wp2_with fail
  refine (HS.out _ (Below.refl _ _)).mono ?_
  rintro e w4 ⟨rfl, hb4⟩
  have HB4 := Lib.hid (HB3.out.trans (hb4.mono HB3.out.size))
  have HL4 := Lib.hid (HL3.out.below hb4)
  have HG4 := Lib.hid (HG3.out.below hb4)
  clear hb4 HB3 HL3 HG3 HW3 HS
  by_cases hw2 : wd = 200000
  · have hq1 : q ≤ 1 := by rw [← HGL.out]; exact grN_wide HI.out (by omega) n (by rw [HT.out]; exact Nat.le_refl _)
    have e1 : (wd == 200000) = true := by simp [hw2]
    have i1 : (q : Int) ≤ 1 := by omega
    clear hw2
    go_wp2_with fail
    go_ret
    exact ⟨rfl, HB4.out⟩
  have e1 : (wd == 200000) = false := by simpa using hw2
  clear hw2
  have hlt2 : wd < 200000 := by have h : wd ≠ 200000 := by simpa using e1
                                omega
  have HM1 := Lib.hid (fun W (hW : Below w4.heap.size w4 W) => implBlendsMany_any A2 n c2 xs (wd + 1) W h8 hnc HT.out HI2.out (HL4.out.below hW).reads (by omega))
  have HM2 := Lib.hid (fun W (hW : Below w4.heap.size w4 W) => implBlendsMany_any A2 n c2 xs 0 W h8 hnc HT.out HI2.out (HL4.out.below hW).reads (by omega))
  rw [blM_yes (blOk_yes HASC.out (by omega) (by omega)), HT.out] at HM1
  rw [blM_yes (blOk_yes HASC.out (Int.le_refl 0) (by omega)), grN_zero HASC.out _ (Nat.le_refl _), HT.out] at HM2
  have hgm := grN_more xs wd n
  rw [HGL.out] at hgm
  generalize grN xs (wd + 1) n = g at *
  have i1 : (0 : Int) ≤ (g : Int) := by omega
  have i2 : (g : Int) ≤ (q : Int) := by omega
  have e2 : ((n : Int) == (n : Int)) = true := by simp
  go_wp2_with fail
  refine (HM1.out _ (Below.refl _ _)).mono ?_
  rintro e w5 ⟨rfl, hb5⟩
  have HB5 := Lib.hid (HB4.out.trans (hb5.mono HB4.out.size))
  have HM5 := Lib.hid (HM2.out _ hb5)
  clear hb5
  go_wp2_with fail
  refine HM5.out.mono ?_
  rintro e w6 ⟨rfl, hb6⟩
  have HB6 := Lib.hid (HB5.out.trans (hb6.mono HB5.out.size)); clear hb6
  go_wp2_with fail
  go_ret
  exact ⟨rfl, HB6.out⟩
end Go.Proofs.Ytmmnkdjibdlcjaa
