/- The walk of a law over series. -/
import Derived.Test.YtaaiklhkhgennaaSer3
import Derived.Test.YtaaiklhkhgennaaSer4
import Derived.Test.YtaaiklhkhgennaaSerP2
import Derived.Test.YtaaiklhkhgennaaLawKit
namespace Go.Proofs.Ytaaiklhkhgennaa
open Go.RowKit
attribute [local go_sem ↓] Go.wp_at_zero Go.wp_at_succ

set_option maxHeartbeats 2000000 in
theorem fnSeriesDouble_walk (A : Option Addr) (n0 c0 : Nat) (w : World) (hn : n0 ≤ maxLen) (hc : n0 ≤ c0) (hb : Bytes w w.heap.size A n0) :
    Calls Try.prog 5 #[.slice A n0 c0] w fun e w' => e = .returned (.bool true) ∧ Below w.heap.size w w' := by
  unfold maxLen at hn
  have HB := Lib.hid hb; clear hb
  have hB0 := Below.refl w.heap.size w
  by_cases hbign0 : 1048576 < n0
  · go_enter Try.func5, Try.ntmps5
    go_wp2_with fail
    go_ret
    exact ⟨rfl, hB0⟩
  clear hB0
  go_enter Try.func5, Try.ntmps5
  go_wp2_with fail
  refine (DrawSeriesLine_any A n0 c0 w (by omega) hc HB.out).mono ?_
  rintro e w1 ⟨n, m, rfl, hbd, hb1⟩
  have HB1 := Lib.hid hb1; clear hb1
  have HI := Lib.hid (fun W => implSeriesLine_any n m W)
  have HS := Lib.hid (fun W => specSeriesLine_any n m W)
  obtain ⟨r1, r2, ok, hser⟩ : ∃ r1 r2 ok, serB n m = ((r1, r2), ok) := ⟨_, _, _, rfl⟩
  rw [hser] at HS HI
  have HSER := Lib.hid hser; clear hser
  go_wp2_with fail
  refine (HI.out _).mono ?_
  rintro e w2 ⟨rfl, hb2⟩
  rw [okV_form]
  have HB2 := Lib.hid (HB1.out.trans (hb2.mono HB1.out.size)); clear hb2
  have HX := Lib.hid (Blk.new w2 23 #[.int .i64 r1, .int .i64 r2])
  have HB3 := Lib.hid (HB2.out.alloc HB2.out.size (.cells #[.int .i64 r1, .int .i64 r2] 23))
  go_wp2_with fail
  refine (HS.out _).mono ?_
  rintro e w3 ⟨rfl, hb3⟩
  rw [okV_form]
  have hs3 := hb3.size
  simp only [World.size_alloc] at hs3
  have HX3 := Lib.hid (HX.out.sub hb3)
  have HB4 := Lib.hid (HB3.out.trans (hb3.mono HB3.out.size)); clear hb3 HX HB3 HB2
  obtain ⟨x1, x2, _, _⟩ := blk2 HX3.out
  have q1 : w2.heap.size < w3.heap.size := by omega
  have HB5 := Lib.hid (HB4.out.alloc HB4.out.size (.cells #[.int .i64 r1, .int .i64 r2] 23))
  have eq1 : (r1 == r1) = true := by simp
  have eq2 : (r2 == r2) = true := by simp
  have ne1 : (r1 != r1) = false := by simp
  have ne2 : (r2 != r2) = false := by simp
  cases ok
  · go_wp2_with fail
    go_ret
    exact ⟨rfl, HB5.out⟩
  have hrange : 1 ≤ n ∧ n < m ∧ m ≤ 60 := by
    have h := HSER.out
    unfold serB at h
    split at h
    · assumption
    · cases h
  have HL := Lib.hid (fun W => implSeriesLine_any (2 * n) (2 * m) W)
  obtain ⟨a1, a2, p, hHL⟩ : ∃ a1 a2 p, serB (2 * n) (2 * m) = ((a1, a2), p) := ⟨_, _, _, rfl⟩
  rw [hHL] at HL
  have HM := Lib.hid (fun W => implRatMul_any r1 r2 1 4 W)
  obtain ⟨b1, b2, q, hHM⟩ : ∃ b1 b2 q, mulB (r1, r2) (1, 4) = ((b1, b2), q) := ⟨_, _, _, rfl⟩
  rw [hHM] at HM
  by_cases h30 : 60 < 2 * m
  · obtain rfl : p = false := by rw [ser_no (by omega)] at hHL; cases hHL; rfl
    clear hHL hHM
    go_wp2_with fail
    refine (HL.out _).mono ?_
    rintro e w4 ⟨rfl, hb4⟩
    rw [okV_form]
    clear x1 x2
    have HX4_0 := Lib.hid ((HX3.out.alloc _).sub hb4)
    obtain ⟨x0a, x0b, _, _⟩ := blk2 HX4_0.out
    have q0 := HX4_0.out.lt
    have HB_4 := Lib.hid (HB5.out.trans (hb4.mono HB5.out.size)); clear hb4
    clear HX3
    have HB_4a := Lib.hid (HB_4.out.alloc HB_4.out.size (.cells #[.int .i64 a1, .int .i64 a2] 23))
    have HN_4 := Lib.hid (Blk.new w4 23 #[.int .i64 a1, .int .i64 a2])
    go_wp2_with fail
    refine (HM.out _).mono ?_
    rintro e w5 ⟨rfl, hb5⟩
    rw [okV_form]
    clear x0a x0b q0
    have HX5_0 := Lib.hid ((HX4_0.out.alloc _).sub hb5)
    obtain ⟨x0a, x0b, _, _⟩ := blk2 HX5_0.out
    have q0 := HX5_0.out.lt
    have HX5_1 := Lib.hid (HN_4.out.sub hb5)
    obtain ⟨x1a, x1b, _, _⟩ := blk2 HX5_1.out
    have q1 := HX5_1.out.lt
    have HB_5 := Lib.hid (HB_4a.out.trans (hb5.mono HB_4a.out.size)); clear hb5
    clear HX4_0 HN_4
    have HB_5a := Lib.hid (HB_5.out.alloc HB_5.out.size (.cells #[.int .i64 b1, .int .i64 b2] 23))
    have HN_5 := Lib.hid (Blk.new w5 23 #[.int .i64 b1, .int .i64 b2])
    go_wp2_with fail
    go_ret
    exact ⟨rfl, HB_5a.out⟩
  have hd := ser_dbl hrange (by omega)
  rw [HSER.out, hHL] at hd
  simp only [hHM] at hd
  obtain ⟨rfl, hd⟩ := hd
  obtain ⟨⟨rfl, rfl⟩, rfl⟩ : (b1 = a1 ∧ b2 = a2) ∧ q = true := by simpa using hd
  have f1 : (b1 == b1) = true := by simp
  have f2 : (b2 == b2) = true := by simp
  clear hd hHL hHM
  go_wp2_with fail
  refine (HL.out _).mono ?_
  rintro e w4 ⟨rfl, hb4⟩
  rw [okV_form]
  clear x1 x2
  have HX4_0 := Lib.hid ((HX3.out.alloc _).sub hb4)
  obtain ⟨x0a, x0b, _, _⟩ := blk2 HX4_0.out
  have q0 := HX4_0.out.lt
  have HB_4 := Lib.hid (HB5.out.trans (hb4.mono HB5.out.size)); clear hb4
  clear HX3
  have HB_4a := Lib.hid (HB_4.out.alloc HB_4.out.size (.cells #[.int .i64 b1, .int .i64 b2] 23))
  have HN_4 := Lib.hid (Blk.new w4 23 #[.int .i64 b1, .int .i64 b2])
  go_wp2_with fail
  refine (HM.out _).mono ?_
  rintro e w5 ⟨rfl, hb5⟩
  rw [okV_form]
  clear x0a x0b q0
  have HX5_0 := Lib.hid ((HX4_0.out.alloc _).sub hb5)
  obtain ⟨x0a, x0b, _, _⟩ := blk2 HX5_0.out
  have q0 := HX5_0.out.lt
  have HX5_1 := Lib.hid (HN_4.out.sub hb5)
  obtain ⟨x1a, x1b, _, _⟩ := blk2 HX5_1.out
  have q1 := HX5_1.out.lt
  have HB_5 := Lib.hid (HB_4a.out.trans (hb5.mono HB_4a.out.size)); clear hb5
  clear HX4_0 HN_4
  have HB_5a := Lib.hid (HB_5.out.alloc HB_5.out.size (.cells #[.int .i64 b1, .int .i64 b2] 23))
  have HN_5 := Lib.hid (Blk.new w5 23 #[.int .i64 b1, .int .i64 b2])
  go_wp2_with fail
  go_ret
  exact ⟨rfl, HB_5a.out⟩
end Go.Proofs.Ytaaiklhkhgennaa
