/- The walk of a law over series. -/
import Derived.Test.YtaaiklhkhgennaaSer3
import Derived.Test.YtaaiklhkhgennaaSer4
import Derived.Test.YtaaiklhkhgennaaSerP
import Derived.Test.YtaaiklhkhgennaaLawKit
namespace Go.Proofs.Ytaaiklhkhgennaa
open Go.RowKit
attribute [local go_sem ↓] Go.wp_at_zero Go.wp_at_succ

set_option maxHeartbeats 2000000 in
theorem fnSeries_walk (A : Option Addr) (n0 c0 : Nat) (w : World) (hn : n0 ≤ maxLen) (hc : n0 ≤ c0) (hb : Bytes w w.heap.size A n0) :
    Calls Try.prog 8 #[.slice A n0 c0] w fun e w' => e = .returned (.bool true) ∧ Below w.heap.size w w' := by
  unfold maxLen at hn
  have HB := Lib.hid hb; clear hb
  have hB0 := Below.refl w.heap.size w
  by_cases hbign0 : 1048576 < n0
  · go_enter Try.func8, Try.ntmps8
    go_wp2_with fail
    go_ret
    exact ⟨rfl, hB0⟩
  clear hB0
  go_enter Try.func8, Try.ntmps8
  go_wp2_with fail
  refine (DrawSeriesLine_any A n0 c0 w (by omega) hc HB.out).mono ?_
  rintro e w1 ⟨n, m, rfl, hbd, hb1⟩
  have HB1 := Lib.hid hb1; clear hb1
  have HI := Lib.hid (fun W => implSeriesLine_any n m W)
  have HS := Lib.hid (fun W => specSeriesLine_any n m W)
  obtain ⟨r1, r2, ok, hser⟩ : ∃ r1 r2 ok, serB n m = ((r1, r2), ok) := ⟨_, _, _, rfl⟩
  rw [hser] at HS HI
  have HSER := Lib.hid hser; clear hser
  go_wp2_with fail
  refine (HI.out _).mono ?_
  rintro e w2 ⟨rfl, hb2⟩
  rw [okV_form]
  have HB2 := Lib.hid (HB1.out.trans (hb2.mono HB1.out.size)); clear hb2
  have HX := Lib.hid (Blk.new w2 23 #[.int .i64 r1, .int .i64 r2])
  have HB3 := Lib.hid (HB2.out.alloc HB2.out.size (.cells #[.int .i64 r1, .int .i64 r2] 23))
  go_wp2_with fail
  refine (HS.out _).mono ?_
  rintro e w3 ⟨rfl, hb3⟩
  rw [okV_form]
  have hs3 := hb3.size
  simp only [World.size_alloc] at hs3
  have HX3 := Lib.hid (HX.out.sub hb3)
  have HB4 := Lib.hid (HB3.out.trans (hb3.mono HB3.out.size)); clear hb3 HX HB3 HB2
  obtain ⟨x1, x2, _, _⟩ := blk2 HX3.out
  have q1 : w2.heap.size < w3.heap.size := by omega
  have HB5 := Lib.hid (HB4.out.alloc HB4.out.size (.cells #[.int .i64 r1, .int .i64 r2] 23))
  have eq1 : (r1 == r1) = true := by simp
  have eq2 : (r2 == r2) = true := by simp
  have ne1 : (r1 != r1) = false := by simp
  have ne2 : (r2 != r2) = false := by simp
  cases ok
  · go_wp2_with fail
    go_ret
    exact ⟨rfl, HB5.out⟩
  have hrange : 1 ≤ n ∧ n < m ∧ m ≤ 60 := by
    have h := HSER.out
    unfold serB at h
    split at h
    · assumption
    · cases h
  have hp := ser1 hrange
  rw [HSER.out] at hp
  obtain ⟨_, _, hp1, hp2, hp3⟩ := hp
  simp only at hp1 hp2 hp3
  obtain ⟨sa, sb, sc, sd⟩ := ser_bd (n := n) (m := m) (by omega) (by omega) (by omega) (by omega)
  have HRO := Lib.hid (fun W => implRatOf_any 1 (n * n) W)
  rw [hp3] at HRO
  have HRL := Lib.hid (fun W => implRatLess_any r1 r2 1 (n * n) W)
  rw [hp1] at HRL
  have d1 : decide (0 < r1) = true := by simpa using hp2
  clear hp1 hp3
  go_wp2_with fail
  generalize n * n = nn at *
  refine (HRO.out _).mono ?_
  rintro e w4 ⟨rfl, hb4⟩
  rw [okV_form]
  have hs4 := hb4.size
  simp only [World.size_alloc] at hs4
  have HX4 := Lib.hid ((HX3.out.alloc _).sub hb4)
  have HB6 := Lib.hid (HB5.out.trans (hb4.mono HB5.out.size)); clear hb4
  have HB7 := Lib.hid (HB6.out.alloc HB6.out.size (.cells #[.int .i64 1, .int .i64 nn] 23))
  have HX5 := Lib.hid (HX4.out.alloc (.cells #[.int .i64 1, .int .i64 nn] 23))
  clear x1 x2
  obtain ⟨x1, x2, _, _⟩ := blk2 HX4.out
  have q2 : w2.heap.size < w4.heap.size := by omega
  go_wp2_with fail
  refine (HRL.out _).mono ?_
  rintro e w5 ⟨rfl, hb5⟩
  have HB8 := Lib.hid (HB7.out.trans (hb5.mono HB7.out.size))
  clear x1 x2
  obtain ⟨x1, x2, _, _⟩ := blk2 (HX5.out.sub hb5)
  clear hb5
  go_wp2_with fail
  go_ret
  exact ⟨rfl, HB8.out⟩
end Go.Proofs.Ytaaiklhkhgennaa
