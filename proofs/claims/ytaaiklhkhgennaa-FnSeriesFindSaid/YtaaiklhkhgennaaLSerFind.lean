/- The walk of a law over series. -/
import Derived.Test.YtaaiklhkhgennaaDrawSer
import Derived.Test.YtaaiklhkhgennaaMany
import Derived.Test.YtaaiklhkhgennaaSerM
import Derived.Test.YtaaiklhkhgennaaLawKit
namespace Go.Proofs.Ytaaiklhkhgennaa
open Go.RowKit
attribute [local go_sem ↓] Go.wp_at_zero Go.wp_at_succ

set_option maxHeartbeats 2000000 in
theorem fnSeriesFind_walk (A : Option Addr) (n0 c0 : Nat) (w : World) (hn : n0 ≤ maxLen) (hc : n0 ≤ c0) (hb : Bytes w w.heap.size A n0) :
    Calls Try.prog 12 #[.slice A n0 c0] w fun e w' => e = .returned (.bool true) ∧ Below w.heap.size w w' := by
  unfold maxLen at hn
  have HB := Lib.hid hb; clear hb
  have hB0 := Below.refl w.heap.size w
  by_cases hbig : 1048576 < n0
  · go_enter Try.func12, Try.ntmps12
    go_wp2_with fail
    go_ret
    exact ⟨rfl, hB0⟩
  clear hB0
  go_enter Try.func12, Try.ntmps12
  go_wp2_with fail
  refine (DrawSeriesFind_any A n0 c0 w (by omega) hc HB.out).mono ?_
  rintro e w1 ⟨a, b, rfl, hb1⟩
  have HB1 := Lib.hid hb1; clear hb1 HB
  have HG2 := Lib.hid (HB1.out.alloc HB1.out.size (.cells #[.int .i64 a, .int .i64 b] 23))
  have HX2_n := Lib.hid (Blk.new w1 23 #[.int .i64 a, .int .i64 b])
  clear HB1
  go_wp2_with fail
  refine (implSeriesFind_any a b _).mono ?_
  rintro e w3 ⟨n, m, ok, rfl, hs, hg3⟩
  have HX3_0 := Lib.hid (HX2_n.out.sub hg3)
  have HG3 := Lib.hid (HG2.out.trans (hg3.mono HG2.out.size)); clear hg3
  clear HX2_n HG2
  have le3 := HG3.out.size
  obtain ⟨y0a, y0b, y0c, y0d⟩ := blk2 HX3_0.out
  have q0 := HX3_0.out.lt
  go_wp2_with fail
  refine (specSeriesFind_any a b _).mono ?_
  rintro e w4 ⟨n', m', ok', rfl, hs', hg4⟩
  clear y0a y0b y0c y0d q0
  have HX4_0 := Lib.hid (HX3_0.out.sub hg4)
  have HG4 := Lib.hid (HG3.out.trans (hg4.mono HG3.out.size)); clear hg4
  clear HX3_0 HG3
  have le4 := HG4.out.size
  obtain ⟨h1, h2, h3⟩ := sf_unique hs hs'
  subst h1 h2 h3
  clear hs'
  have e1 : (n != n) = false := by simp
  have e2 : (m != m) = false := by simp
  have e3 : (n == n) = true := by simp
  have e4 : (m == m) = true := by simp
  cases ok
  · go_wp2_with fail
    go_ret
    exact ⟨rfl, HG4.out⟩
  obtain ⟨hr, hx⟩ : (1 ≤ n ∧ n < m ∧ m ≤ 60) ∧ (serB n m).1 = (a, b) := by rcases hs with ⟨_, h1, h2, _⟩ | ⟨h, _⟩; exact ⟨h1, h2⟩; cases h
  have HL := Lib.hid (fun W => implSeriesLine_any n m W)
  rw [ser_yes hr, hx] at HL
  clear hx hs
  go_wp2_with fail
  refine (HL.out _).mono ?_
  rintro e w5 ⟨rfl, hg5⟩
  rw [okV_form]
  have HX5_0 := Lib.hid (HX4_0.out.sub hg5)
  have HG5 := Lib.hid (HG4.out.trans (hg5.mono HG4.out.size)); clear hg5
  clear HX4_0 HG4
  have le5 := HG5.out.size
  obtain ⟨y0a, y0b, y0c, y0d⟩ := blk2 HX5_0.out
  have q0 := HX5_0.out.lt
  have f1 : (a == a) = true := by simp
  have f2 : (b == b) = true := by simp
  have HG6 := Lib.hid (HG5.out.alloc HG5.out.size (.cells #[.int .i64 a, .int .i64 b] 23))
  have HX6_0 := Lib.hid (HX5_0.out.alloc (.cells #[.int .i64 a, .int .i64 b] 23))
  have HX6_n := Lib.hid (Blk.new w5 23 #[.int .i64 a, .int .i64 b])
  clear HX5_0 HG5
  go_wp2_with fail
  go_ret
  exact ⟨rfl, HG6.out⟩
end Go.Proofs.Ytaaiklhkhgennaa
