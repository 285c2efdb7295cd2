/- The walk of a law over series. -/
import Derived.Test.YtaaiklhkhgennaaSer3
import Derived.Test.YtaaiklhkhgennaaSer4
import Derived.Test.YtaaiklhkhgennaaFind
import Derived.Test.YtaaiklhkhgennaaLawKit
namespace Go.Proofs.Ytaaiklhkhgennaa
open Go.RowKit
attribute [local go_sem ↓] Go.wp_at_zero Go.wp_at_succ

set_option maxHeartbeats 2000000 in
theorem fnSeriesFindLine_walk (A : Option Addr) (n0 c0 : Nat) (w : World) (hn : n0 ≤ maxLen) (hc : n0 ≤ c0) (hb : Bytes w w.heap.size A n0) :
    Calls Try.prog 7 #[.slice A n0 c0] w fun e w' => e = .returned (.bool true) ∧ Below w.heap.size w w' := by
  unfold maxLen at hn
  have HB := Lib.hid hb; clear hb
  have hB0 := Below.refl w.heap.size w
  by_cases hbign0 : 1048576 < n0
  · go_enter Try.func7, Try.ntmps7
    go_wp2_with fail
    go_ret
    exact ⟨rfl, hB0⟩
  clear hB0
  go_enter Try.func7, Try.ntmps7
  go_wp2_with fail
  refine (DrawSeriesLine_any A n0 c0 w (by omega) hc HB.out).mono ?_
  rintro e w1 ⟨n, m, rfl, hbd, hb1⟩
  have HB1 := Lib.hid hb1; clear hb1
  have HI := Lib.hid (fun W => implSeriesLine_any n m W)
  have HS := Lib.hid (fun W => specSeriesLine_any n m W)
  obtain ⟨r1, r2, ok, hser⟩ : ∃ r1 r2 ok, serB n m = ((r1, r2), ok) := ⟨_, _, _, rfl⟩
  rw [hser] at HS HI
  have HSER := Lib.hid hser; clear hser
  go_wp2_with fail
  refine (HI.out _).mono ?_
  rintro e w2 ⟨rfl, hb2⟩
  rw [okV_form]
  have HB2 := Lib.hid (HB1.out.trans (hb2.mono HB1.out.size)); clear hb2
  have HX := Lib.hid (Blk.new w2 23 #[.int .i64 r1, .int .i64 r2])
  have HB3 := Lib.hid (HB2.out.alloc HB2.out.size (.cells #[.int .i64 r1, .int .i64 r2] 23))
  go_wp2_with fail
  refine (HS.out _).mono ?_
  rintro e w3 ⟨rfl, hb3⟩
  rw [okV_form]
  have hs3 := hb3.size
  simp only [World.size_alloc] at hs3
  have HX3 := Lib.hid (HX.out.sub hb3)
  have HB4 := Lib.hid (HB3.out.trans (hb3.mono HB3.out.size)); clear hb3 HX HB3 HB2
  obtain ⟨x1, x2, _, _⟩ := blk2 HX3.out
  have q1 : w2.heap.size < w3.heap.size := by omega
  have HB5 := Lib.hid (HB4.out.alloc HB4.out.size (.cells #[.int .i64 r1, .int .i64 r2] 23))
  have eq1 : (r1 == r1) = true := by simp
  have eq2 : (r2 == r2) = true := by simp
  have ne1 : (r1 != r1) = false := by simp
  have ne2 : (r2 != r2) = false := by simp
  cases ok
  · go_wp2_with fail
    go_ret
    exact ⟨rfl, HB5.out⟩
  have hrange : 1 ≤ n ∧ n < m ∧ m ≤ 60 := by
    have h := HSER.out
    unfold serB at h
    split at h
    · assumption
    · cases h
  have HF := Lib.hid (fun W => implSeriesFind_any r1 r2 W)
  have hx1 : (serB n m).1 = (r1, r2) := by rw [HSER.out]
  have HX1 := Lib.hid hx1; clear hx1
  go_wp2_with fail
  refine (HF.out _).mono ?_
  rintro e w4 ⟨a, b, p, rfl, hsf, hb4⟩
  obtain ⟨rfl, hab, hle, hserab⟩ := sf_hit hsf hrange HX1.out
  have HL := Lib.hid (fun W => implSeriesLine_any a b W)
  rw [hserab] at HL
  have dle : decide (a ≤ n) = true := decide_eq_true hle
  clear hsf hserab HX1
  clear x1 x2
  have HX4_0 := Lib.hid ((HX3.out.alloc _).sub hb4)
  obtain ⟨x0a, x0b, _, _⟩ := blk2 HX4_0.out
  have q0 := HX4_0.out.lt
  have HB_4 := Lib.hid (HB5.out.trans (hb4.mono HB5.out.size)); clear hb4
  clear HX3
  go_wp2_with fail
  refine (HL.out _).mono ?_
  rintro e w5 ⟨rfl, hb5⟩
  rw [okV_form]
  clear x0a x0b q0
  have HX5_0 := Lib.hid (HX4_0.out.sub hb5)
  obtain ⟨x0a, x0b, _, _⟩ := blk2 HX5_0.out
  have q0 := HX5_0.out.lt
  have HB_5 := Lib.hid (HB_4.out.trans (hb5.mono HB_4.out.size)); clear hb5
  clear HX4_0
  have HB_5a := Lib.hid (HB_5.out.alloc HB_5.out.size (.cells #[.int .i64 r1, .int .i64 r2] 23))
  have HN_5 := Lib.hid (Blk.new w5 23 #[.int .i64 r1, .int .i64 r2])
  go_wp2_with fail
  go_ret
  exact ⟨rfl, HB_5a.out⟩
end Go.Proofs.Ytaaiklhkhgennaa
