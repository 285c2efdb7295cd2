/- The walk of the law FnBlendsMany. -/
import Derived.Test.YtmmnkdjibdlcjaaBk8
import Derived.Test.YtmmnkdjibdlcjaaLawKit
namespace Go.Proofs.Ytmmnkdjibdlcjaa
open Go.RowKit
attribute [local go_sem ↓] Go.wp_at_zero Go.wp_at_succ

set_option maxHeartbeats 2000000 in
theorem fnBlendsMany_walk (A : Option Addr) (n0 c0 : Nat) (w : World) (hn : n0 ≤ maxLen) (hc : n0 ≤ c0) (hb : Bytes w w.heap.size A n0) :
    Calls Try.prog 3 #[.slice A n0 c0] w fun e w' => e = .returned (.bool true) ∧ Below w.heap.size w w' := by
  unfold maxLen at hn
  have HB := Lib.hid hb; clear hb
  have hB0 := Below.refl w.heap.size w
  by_cases hbig : 1048576 < n0
  · go_enter Try.func3, Try.ntmps3
    go_wp2_with fail
    go_ret
    exact ⟨rfl, hB0⟩
  clear hB0
  go_enter Try.func3, Try.ntmps3
  go_wp2_with fail
  refine (DrawBlendsOf_any A n0 c0 w (by omega) hc HB.out).mono ?_
  rintro e w1 ⟨A2, c2, n, xs, wd, rfl, hL, h8, hin, ⟨hwd0, hwd1⟩, hb1⟩
  have HB1 := Lib.hid hb1; clear hb1 HB
  have hnc : n ≤ c2 := hL.1
  have HL := Lib.hid hL; clear hL
  have HI := Lib.hid hin
  have HI2 : Hid (InB xs 3001) := fun t ht => by have := hin t ht; omega
  clear hin
  have HT := Lib.hid HL.out.len
  go_wp2_with fail
  refine (implBlendsOf_any A2 n c2 xs wd _ h8 hnc HT.out HI2.out HL.out.reads hwd1).mono ?_
  rintro e w2 ⟨⟨A3, q, c3, rfl, hg3⟩, hb2⟩
  have HB2 := Lib.hid (HB1.out.trans (hb2.mono HB1.out.size))
  have HL2 := Lib.hid (HL.out.below hb2)
  have HG2 := Lib.hid hg3
  clear hb2 hg3 HB1 HL
  go_wp2_with fail
  refine (specBlendsOf_any A2 n c2 xs wd _ h8 HT.out HI2.out HL2.out.reads hwd0 hwd1).mono ?_
  rintro e w3 ⟨⟨A4, q4, c4, rfl, hg4⟩, hb3⟩
  have hqq : q4 = q := by rw [← hg4.len, ← HG2.out.len]
  subst hqq
  obtain ⟨q, rfl⟩ : ∃ q, q = q4 := ⟨_, rfl⟩
  have HB3 := Lib.hid (HB2.out.trans (hb3.mono HB2.out.size))
  have HL3 := Lib.hid (HL2.out.below hb3)
  have HG3 := Lib.hid (HG2.out.below hb3)
  have HW3 := Lib.hid hg4
  have hbd := blG_bd xs wd
  have hq8 : q ≤ 8 := by have := hbd.1; rw [HG3.out.len, HT.out] at this; omega
  have HGB : Hid (∀ g ∈ blG xs wd, g.length ≤ 1000) := fun g hg => by have := hbd.2 g hg; rw [HT.out] at this; omega
  clear hb3 hg4 HB2 HL2 HG2 hbd
  have HS := Lib.hid (fun W (hW : Below w3.heap.size w3 W) => sameGroups_any A3 A4 q c3 c4 _ W (by omega) HGB.out (HG3.out.below hW) (HW3.out.below hW))
  cases hok : blOk xs wd
  · clear hok
    go_wp2_with fail
    refine (HS.out _ (Below.refl _ _)).mono ?_
    rintro e w4 ⟨rfl, hb4⟩
    have HB4 := Lib.hid (HB3.out.trans (hb4.mono HB3.out.size))
    have HS4 := Lib.hid (HS.out _ hb4)
    clear hb4
    go_wp2_with fail
    refine HS4.out.mono ?_
    rintro e w5 ⟨rfl, hb5⟩
    have HB5 := Lib.hid (HB4.out.trans (hb5.mono HB4.out.size)); clear hb5
    go_wp2_with fail
    go_ret
    exact ⟨rfl, HB5.out⟩
  have hasc : ascB xs = true ∧ 0 ≤ wd := by
    have h := hok
    simp only [blOk, Bool.and_eq_true, decide_eq_true_eq] at h
    exact ⟨h.1.1, h.1.2⟩
  have HOK := Lib.hid hok
  have HASC := Lib.hid hasc.1
  have hwd := hasc.2
  clear hok hasc
  have HGL : Hid (grN xs wd n = q) := by
    unfold Hid
    rw [← grL_len, ← HG3.out.len, blG_yes HOK.out, HT.out]
  go_wp2_with fail
  refine (HS.out _ (Below.refl _ _)).mono ?_
  rintro e w4 ⟨rfl, hb4⟩
  have HB4 := Lib.hid (HB3.out.trans (hb4.mono HB3.out.size))
  have HL4 := Lib.hid (HL3.out.below hb4)
  have HG4 := Lib.hid (HG3.out.below hb4)
  clear hb4 HB3 HL3 HG3 HW3 HS
  by_cases hn0 : n = 0
  · subst hn0
    have hq0 : q = 0 := by rw [← HGL.out]; rfl
    subst hq0
    go_wp2_with fail
    go_loopw [9, 10] (fun v i wr => v = .int .i64 0 ∧ i = .int .i64 1 ∧ wr = w4) (fun _ _ _ => 0)
    case atStart => exact ⟨rfl, rfl, rfl⟩
    case round =>
      obtain ⟨rfl, rfl, rfl⟩ := hrel
      go_wp2_with fail
      go_ret
      exact ⟨rfl, HB4.out⟩
  have m1 : min (1 : Int) (n : Int) = 1 := by omega
  go_wp2_with fail
  clear m1
  go_loopw [9, 10] (fun v i wr => ∃ k : Nat, 1 ≤ k ∧ k ≤ n ∧ i = .int .i64 k ∧ v = .int .i64 (grN xs wd k : Nat) ∧ Hid (Below w4.heap.size w4 wr)) (fun _ i _ => n - (intOf i).toNat)
  case atStart => exact ⟨1, by omega, by omega, rfl, by rw [grN_one]; rfl, Below.refl _ _⟩
  case round =>
    obtain ⟨k, hk1, hk, rfl, rfl, HB⟩ := hrel
    have hgn := grN_le xs wd k
    by_cases hlt : k < n
    · obtain ⟨j, rfl⟩ : ∃ j, k = j + 1 := ⟨k - 1, by omega⟩
      obtain ⟨b, off, rfl, hb, hx⟩ := (HL4.out.below HB.out).reads.int hlt
      obtain ⟨b', off', e', hb', hy⟩ := (HL4.out.below HB.out).reads.int (show j < n by omega)
      cases e'
      have bx := HI.out.at (k := j + 1) (by rw [HT.out]; exact hlt)
      have by' := HI.out.at (k := j) (by rw [HT.out]; omega)
      have HNW := Lib.hid (nwB_succ (xs := xs) (wd := wd) (k := j))
      have HST : Hid (grN xs wd (j + 1 + 1) = if nwB xs wd (j + 1) = true then grN xs wd (j + 1) + 1 else grN xs wd (j + 1)) := rfl
      generalize gi xs (j + 1) = x at *
      generalize gi xs j = y at *
      generalize grN xs wd (j + 1) = g at *
      have i3 : (0 : Int) ≤ (j : Int) + 1 := by omega
      have i4 : IntKind.i64.wrap ((j : Int) + 1 - 1) = (j : Int) := (IntWalk.i64_in _ (by omega)).trans (by omega)
      have i5 : (0 : Int) ≤ (j : Int) := by omega
      have i6 : (j : Int) < (n : Int) := by omega
      have i7 : IntKind.i64.wrap (x - y) = x - y := IntWalk.i64_in _ (by omega)
      have i8 : (j : Int) + 1 < (n : Int) := by omega
      have i9 : (g : Int) ≤ 8 := by omega
      by_cases hgap : wd < x - y
      · have d1 : decide (wd < x - y) = true := decide_eq_true hgap
        go_wp2_with fail
        go_quiet (fail)
        clear i4 i7
        go_wp2_with fail
        go_roundw
        case rel => exact ⟨j + 1 + 1, by omega, by omega, by go_num, by rw [HST.out, HNW.out, if_pos d1]; go_num, below_drewN HB.out _⟩
        case measure => simp [intOf]; omega
      · have d1 : decide (wd < x - y) = false := decide_eq_false hgap
        go_wp2_with fail
        go_quiet (fail)
        clear i4 i7
        go_wp2_with fail
        go_roundw
        case rel => exact ⟨j + 1 + 1, by omega, by omega, by go_num, by rw [HST.out, HNW.out, d1]; rfl, below_drewN HB.out _⟩
        case measure => simp [intOf]; omega
    · obtain rfl : k = n := by omega
      rw [HGL.out]
      have e1 : ((q : Int) == (q : Int)) = true := by simp
      go_wp2_with fail
      go_ret
      exact ⟨rfl, HB4.out.trans (HB.out.mono HB4.out.size)⟩
end Go.Proofs.Ytmmnkdjibdlcjaa
