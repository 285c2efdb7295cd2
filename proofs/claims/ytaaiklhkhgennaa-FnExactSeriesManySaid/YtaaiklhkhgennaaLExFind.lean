/- The walk of the law FnExactSeriesFind. -/
import Derived.Test.YtaaiklhkhgennaaFind
namespace Go.Proofs.Ytaaiklhkhgennaa
open Go.RowKit
attribute [local go_sem ↓] Go.wp_at_zero Go.wp_at_succ

theorem toRat_any (a b : Int) (w : World) :
    Calls Try.prog 19 #[.agg #[.int .i64 a, .int .i64 b]] w fun e w' => e = .returned (.agg #[.int .i64 a, .int .i64 b]) ∧ Below w.heap.size w w' := by
  go_enter Try.func19, Try.ntmps19
  go_wp2_with fail
  refine bodyPost_ret (v := .agg #[.int .i64 a, .int .i64 b]) (by simp [results, Try.results19, go_sem]) rfl ⟨rfl, ?_⟩
  repeat (first | exact Below.refl _ _ | refine Below.alloc ?_ (by simp; try omega) _ | refine Below.setCell ?_ (by simp; try omega) _)

set_option maxHeartbeats 2000000 in
theorem fnExactSeriesFind_walk (a b : Int) (w : World) (_ : -9223372036854775808 ≤ a ∧ a ≤ 9223372036854775807) (_ : -9223372036854775808 ≤ b ∧ b ≤ 9223372036854775807) :
    Calls Try.prog 4 #[.agg #[.int .i64 a, .int .i64 b]] w fun e w' => e = .returned (.bool true) ∧ Below w.heap.size w w' := by
  have HB0 := Lib.hid ((Below.refl w.heap.size w).alloc (Nat.le_refl _) (.cells #[.int .i64 a, .int .i64 b] 28))
  have HX0 := Lib.hid (Blk.new w 28 #[.int .i64 a, .int .i64 b])
  go_enter Try.func4, Try.ntmps4
  go_wp2_with fail
  refine (toRat_any a b _).mono ?_
  rintro e w1 ⟨rfl, hb1⟩
  have HB1 := Lib.hid (HB0.out.trans (hb1.mono HB0.out.size))
  have HX1 := Lib.hid (HX0.out.sub hb1); clear hb1 HB0 HX0
  go_wp2_with fail
  refine (specSeriesFind_any a b _).mono ?_
  rintro e w2 ⟨n, m, ok, rfl, hs, hb2⟩
  have HB2 := Lib.hid (HB1.out.trans (hb2.mono HB1.out.size))
  have HX2 := Lib.hid (HX1.out.sub hb2); clear hb2 HB1 HX1
  have HS := Lib.hid hs; clear hs
  obtain ⟨x1, x2, _, _⟩ := blk2 HX2.out
  go_wp2_with fail
  refine (toRat_any a b _).mono ?_
  rintro e w3 ⟨rfl, hb3⟩
  have HB3 := Lib.hid (HB2.out.trans (hb3.mono HB2.out.size)); clear hb3 HB2 x1 x2 HX2
  go_wp2_with fail
  refine (implSeriesFind_any a b _).mono ?_
  rintro e w4 ⟨n', m', ok', rfl, hs', hb4⟩
  have HB4 := Lib.hid (HB3.out.trans (hb4.mono HB3.out.size)); clear hb4 HB3
  obtain ⟨h1, h2, h3⟩ := sf_unique HS.out hs'
  subst h1 h2 h3
  clear hs' HS
  have e1 : (n != n) = false := by simp
  have e2 : (m != m) = false := by simp
  cases ok
  all_goals
    go_wp2_with fail
    go_ret
    exact ⟨rfl, HB4.out⟩
end Go.Proofs.Ytaaiklhkhgennaa
