/- The walk of the law FnExactSeriesLine; comparing rationals. -/
import Derived.Test.YtaaiklhkhgennaaSer1
namespace Go.Proofs.Ytaaiklhkhgennaa
open Go.RowKit
attribute [local go_sem ↓] Go.wp_at_zero Go.wp_at_succ

theorem eqRat_same (a b : Int) (w : World) :
    Calls Try.prog 17 #[.agg #[.int .i64 a, .int .i64 b], .agg #[.int .i64 a, .int .i64 b]] w fun e w' => e = .returned (.bool true) ∧ Below w.heap.size w w' := by
  have HB : Hid (∀ o1 o2, Below w.heap.size w ((w.alloc o1).alloc o2)) := fun o1 o2 => (((Below.refl _ _).alloc (Nat.le_refl _) _).alloc (by simp) _)
  have e1 : (a != a) = false := by simp
  have e2 : (b != b) = false := by simp
  go_enter Try.func17, Try.ntmps17
  go_wp2_with fail
  go_ret
  exact ⟨rfl, HB.out _ _⟩

set_option maxHeartbeats 2000000 in
theorem fnExactSeriesLine_walk (n m : Int) (w : World) (_ : -9223372036854775808 ≤ n ∧ n ≤ 9223372036854775807) (_ : -9223372036854775808 ≤ m ∧ m ≤ 9223372036854775807) :
    Calls Try.prog 3 #[.int .i64 n, .int .i64 m] w fun e w' => e = .returned (.bool true) ∧ Below w.heap.size w w' := by
  have HS := Lib.hid (fun W => specSeriesLine_any n m W)
  have HI := Lib.hid (fun W => implSeriesLine_any n m W)
  obtain ⟨r1, r2, ok, hser⟩ : ∃ r1 r2 ok, serB n m = ((r1, r2), ok) := ⟨_, _, _, rfl⟩
  rw [hser] at HS HI
  clear hser
  go_enter Try.func3, Try.ntmps3
  go_wp2_with fail
  refine (HS.out _).mono ?_
  rintro e w1 ⟨rfl, hb1⟩
  have HB1 := Lib.hid hb1; clear hb1
  rw [okV_form]
  have HX := Lib.hid (Blk.new w1 23 #[.int .i64 r1, .int .i64 r2])
  have HB2 := Lib.hid (HB1.out.alloc HB1.out.size (.cells #[.int .i64 r1, .int .i64 r2] 23))
  go_wp2_with fail
  refine (HI.out _).mono ?_
  rintro e w2 ⟨rfl, hb2⟩
  rw [okV_form]
  have hs2 := hb2.size
  simp only [World.size_alloc] at hs2
  have HX2 := Lib.hid (HX.out.sub hb2)
  have HB3 := Lib.hid (HB2.out.trans (hb2.mono HB2.out.size)); clear hb2
  have HB4 := Lib.hid (HB3.out.alloc HB3.out.size (.cells #[.int .i64 r1, .int .i64 r2] 23))
  obtain ⟨x1, x2, _, _⟩ := blk2 HX2.out
  have q1 : w1.heap.size < w2.heap.size := by omega
  go_wp2_with fail
  refine (eqRat_same r1 r2 _).mono ?_
  rintro e w3 ⟨rfl, hb3⟩
  have HB5 := Lib.hid (HB4.out.trans (hb3.mono HB4.out.size)); clear hb3
  cases ok
  all_goals
    go_wp2_with fail
    go_ret
    exact ⟨rfl, HB5.out⟩

theorem isNaN_any (n : Int) (w : World) : Calls Try.prog 54 #[.int .i64 n] w fun e w' => e = .returned (.bool false) ∧ w' = w := by
  have e1 : (n != n) = false := by simp
  go_enter Try.func54, Try.ntmps54
  go_wp2_with fail
  go_ret
  exact ⟨rfl, rfl⟩
def cmpI (a b : Int) : Int := if a < b then -1 else if b < a then 1 else 0
theorem cmp_any (a b : Int) (w : World) : Calls Try.prog 49 #[.int .i64 a, .int .i64 b] w fun e w' => e = .returned (.int .i64 (cmpI a b)) ∧ w' = w := by
  by_cases h1 : a < b
  · go_enter Try.func49, Try.ntmps49
    go_wp2_with (go_at_call 54; refine (isNaN_any _ _).mono ?_; rintro e w' ⟨rfl, rfl⟩)
    go_ret
    exact ⟨ret_int (by unfold cmpI; rw [if_pos h1]), rfl⟩
  · by_cases h2 : b < a
    · go_enter Try.func49, Try.ntmps49
      go_wp2_with (go_at_call 54; refine (isNaN_any _ _).mono ?_; rintro e w' ⟨rfl, rfl⟩)
      go_ret
      exact ⟨ret_int (by unfold cmpI; rw [if_neg (by omega), if_pos h2]), rfl⟩
    · go_enter Try.func49, Try.ntmps49
      go_wp2_with (go_at_call 54; refine (isNaN_any _ _).mono ?_; rintro e w' ⟨rfl, rfl⟩)
      go_ret
      exact ⟨ret_int (by unfold cmpI; rw [if_neg (by omega), if_neg (by omega)]), rfl⟩
end Go.Proofs.Ytaaiklhkhgennaa
