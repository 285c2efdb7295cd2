/- The walk of a law over series. -/
import Derived.Test.YtaaiklhkhgennaaSer3
import Derived.Test.YtaaiklhkhgennaaSer4
import Derived.Test.YtaaiklhkhgennaaSerP2
import Derived.Test.YtaaiklhkhgennaaLawKit
namespace Go.Proofs.Ytaaiklhkhgennaa
open Go.RowKit
attribute [local go_sem ↓] Go.wp_at_zero Go.wp_at_succ

set_option maxHeartbeats 2000000 in
theorem fnSeriesRises_walk (A : Option Addr) (n0 c0 : Nat) (w : World) (hn : n0 ≤ maxLen) (hc : n0 ≤ c0) (hb : Bytes w w.heap.size A n0) :
    Calls Try.prog 11 #[.slice A n0 c0] w fun e w' => e = .returned (.bool true) ∧ Below w.heap.size w w' := by
  unfold maxLen at hn
  have HB := Lib.hid hb; clear hb
  have hB0 := Below.refl w.heap.size w
  by_cases hbign0 : 1048576 < n0
  · go_enter Try.func11, Try.ntmps11
    go_wp2_with fail
    go_ret
    exact ⟨rfl, hB0⟩
  clear hB0
  go_enter Try.func11, Try.ntmps11
  go_wp2_with fail
  refine (DrawSeriesLine_any A n0 c0 w (by omega) hc HB.out).mono ?_
  rintro e w1 ⟨n, m, rfl, hbd, hb1⟩
  have HB1 := Lib.hid hb1; clear hb1
  have HI := Lib.hid (fun W => implSeriesLine_any n m W)
  have HS := Lib.hid (fun W => specSeriesLine_any n m W)
  obtain ⟨r1, r2, ok, hser⟩ : ∃ r1 r2 ok, serB n m = ((r1, r2), ok) := ⟨_, _, _, rfl⟩
  rw [hser] at HS HI
  have HSER := Lib.hid hser; clear hser
  go_wp2_with fail
  refine (HI.out _).mono ?_
  rintro e w2 ⟨rfl, hb2⟩
  rw [okV_form]
  have HB2 := Lib.hid (HB1.out.trans (hb2.mono HB1.out.size)); clear hb2
  have HX := Lib.hid (Blk.new w2 23 #[.int .i64 r1, .int .i64 r2])
  have HB3 := Lib.hid (HB2.out.alloc HB2.out.size (.cells #[.int .i64 r1, .int .i64 r2] 23))
  go_wp2_with fail
  refine (HS.out _).mono ?_
  rintro e w3 ⟨rfl, hb3⟩
  rw [okV_form]
  have hs3 := hb3.size
  simp only [World.size_alloc] at hs3
  have HX3 := Lib.hid (HX.out.sub hb3)
  have HB4 := Lib.hid (HB3.out.trans (hb3.mono HB3.out.size)); clear hb3 HX HB3 HB2
  obtain ⟨x1, x2, _, _⟩ := blk2 HX3.out
  have q1 : w2.heap.size < w3.heap.size := by omega
  have HB5 := Lib.hid (HB4.out.alloc HB4.out.size (.cells #[.int .i64 r1, .int .i64 r2] 23))
  have eq1 : (r1 == r1) = true := by simp
  have eq2 : (r2 == r2) = true := by simp
  have ne1 : (r1 != r1) = false := by simp
  have ne2 : (r2 != r2) = false := by simp
  cases ok
  · go_wp2_with fail
    go_ret
    exact ⟨rfl, HB5.out⟩
  have hrange : 1 ≤ n ∧ n < m ∧ m ≤ 60 := by
    have h := HSER.out
    unfold serB at h
    split at h
    · assumption
    · cases h
  have HL := Lib.hid (fun W => implSeriesLine_any n (m + 1) W)
  obtain ⟨a1, a2, p, hHL⟩ : ∃ a1 a2 p, serB n (m + 1) = ((a1, a2), p) := ⟨_, _, _, rfl⟩
  rw [hHL] at HL
  by_cases h60 : m = 60
  · obtain rfl : p = false := by rw [ser_no (by omega)] at hHL; cases hHL; rfl
    have e60 : (m == 60) = true := by simpa using h60
    clear hHL h60
    go_wp2_with fail
    refine (HL.out _).mono ?_
    rintro e w4 ⟨rfl, hb4⟩
    rw [okV_form]
    clear x1 x2
    have HX4_0 := Lib.hid ((HX3.out.alloc _).sub hb4)
    obtain ⟨x0a, x0b, _, _⟩ := blk2 HX4_0.out
    have q0 := HX4_0.out.lt
    have HB_4 := Lib.hid (HB5.out.trans (hb4.mono HB5.out.size)); clear hb4
    clear HX3
    have HB_4a := Lib.hid (HB_4.out.alloc HB_4.out.size (.cells #[.int .i64 a1, .int .i64 a2] 23))
    have HN_4 := Lib.hid (Blk.new w4 23 #[.int .i64 a1, .int .i64 a2])
    go_wp2_with fail
    go_ret
    exact ⟨rfl, HB_4a.out⟩
  have e60 : (m == 60) = false := by simpa using h60
  have hyes := ser_yes (n := n) (m := m + 1) (by omega)
  rw [hHL] at hyes
  obtain rfl : p = true := by cases hyes; rfl
  have hr := ser_rise hrange (by omega)
  rw [HSER.out, hHL] at hr
  have HRL := Lib.hid (fun W => implRatLess_any r1 r2 a1 a2 W)
  simp only at hr
  rw [hr] at HRL
  by_cases hn1 : m = n + 1
  · have en1 : (m == n + 1) = true := by simpa using hn1
    clear hHL h60 hyes hr hn1
    go_wp2_with fail
    refine (HL.out _).mono ?_
    rintro e w4 ⟨rfl, hb4⟩
    rw [okV_form]
    clear x1 x2
    have HX4_0 := Lib.hid ((HX3.out.alloc _).sub hb4)
    obtain ⟨x0a, x0b, _, _⟩ := blk2 HX4_0.out
    have q0 := HX4_0.out.lt
    have HB_4 := Lib.hid (HB5.out.trans (hb4.mono HB5.out.size)); clear hb4
    clear HX3
    have HB_4a := Lib.hid (HB_4.out.alloc HB_4.out.size (.cells #[.int .i64 a1, .int .i64 a2] 23))
    have HN_4 := Lib.hid (Blk.new w4 23 #[.int .i64 a1, .int .i64 a2])
    go_wp2_with fail
    refine (HRL.out _).mono ?_
    rintro e w5 ⟨rfl, hb5⟩
    clear x0a x0b q0
    have HX5_0 := Lib.hid ((HX4_0.out.alloc _).sub hb5)
    obtain ⟨x0a, x0b, _, _⟩ := blk2 HX5_0.out
    have q0 := HX5_0.out.lt
    have HX5_1 := Lib.hid (HN_4.out.sub hb5)
    obtain ⟨x1a, x1b, _, _⟩ := blk2 HX5_1.out
    have q1 := HX5_1.out.lt
    have HB_5 := Lib.hid (HB_4a.out.trans (hb5.mono HB_4a.out.size)); clear hb5
    clear HX4_0 HN_4
    go_wp2_with fail
    go_ret
    exact ⟨rfl, HB_5.out⟩
  have en1 : (m == n + 1) = false := by simpa using hn1
  have HL2 := Lib.hid (fun W => implSeriesLine_any n (m - 1) W)
  obtain ⟨c1, c2, p2, hHL2⟩ : ∃ c1 c2 p2, serB n (m - 1) = ((c1, c2), p2) := ⟨_, _, _, rfl⟩
  rw [hHL2] at HL2
  have hyes2 := ser_yes (n := n) (m := m - 1) (by omega)
  rw [hHL2] at hyes2
  obtain rfl : p2 = true := by cases hyes2; rfl
  have hc := ser_closer hrange (by omega) (by omega)
  rw [HSER.out, hHL, hHL2] at hc
  simp only at hc
  have hbr : -9223372036854775807 ≤ r1 ∧ r1 ≤ 9223372036854775807 := by have := (ser1 hrange).2.1; rw [HSER.out] at this; have := rvB_bd this; omega
  have hbc : -9223372036854775807 ≤ c1 ∧ c1 ≤ 9223372036854775807 := by have := (ser1 (n := n) (m := m - 1) (by omega)).2.1; rw [hHL2] at this; have := rvB_bd this; omega
  have HS1 := Lib.hid (fun W => implRatSub_any a1 a2 r1 r2 W hbr)
  have HS2 := Lib.hid (fun W => implRatSub_any r1 r2 c1 c2 W hbc)
  obtain ⟨d1, d2, q, hHS1⟩ : ∃ d1 d2 q, subB (a1, a2) (r1, r2) = ((d1, d2), q) := ⟨_, _, _, rfl⟩
  obtain ⟨f1, f2, q2, hHS2⟩ : ∃ f1 f2 q2, subB (r1, r2) (c1, c2) = ((f1, f2), q2) := ⟨_, _, _, rfl⟩
  rw [hHS1] at HS1
  rw [hHS2] at HS2
  rw [hHS1, hHS2] at hc
  simp only at hc
  have HRL2 := Lib.hid (fun W => implRatLess_any d1 d2 f1 f2 W)
  clear hHL hHL2 h60 hyes hyes2 hr hn1 hHS1 hHS2
  cases q
  · clear HRL2 hc
    go_wp2_with fail
    refine (HL.out _).mono ?_
    rintro e w4 ⟨rfl, hb4⟩
    rw [okV_form]
    clear x1 x2
    have HX4_0 := Lib.hid ((HX3.out.alloc _).sub hb4)
    obtain ⟨x0a, x0b, _, _⟩ := blk2 HX4_0.out
    have q0 := HX4_0.out.lt
    have HB_4 := Lib.hid (HB5.out.trans (hb4.mono HB5.out.size)); clear hb4
    clear HX3
    have HB_4a := Lib.hid (HB_4.out.alloc HB_4.out.size (.cells #[.int .i64 a1, .int .i64 a2] 23))
    have HN_4 := Lib.hid (Blk.new w4 23 #[.int .i64 a1, .int .i64 a2])
    go_wp2_with fail
    refine (HL2.out _).mono ?_
    rintro e w5 ⟨rfl, hb5⟩
    rw [okV_form]
    clear x0a x0b q0
    have HX5_0 := Lib.hid ((HX4_0.out.alloc _).sub hb5)
    obtain ⟨x0a, x0b, _, _⟩ := blk2 HX5_0.out
    have q0 := HX5_0.out.lt
    have HX5_1 := Lib.hid (HN_4.out.sub hb5)
    obtain ⟨x1a, x1b, _, _⟩ := blk2 HX5_1.out
    have q1 := HX5_1.out.lt
    have HB_5 := Lib.hid (HB_4a.out.trans (hb5.mono HB_4a.out.size)); clear hb5
    clear HX4_0 HN_4
    have HB_5a := Lib.hid (HB_5.out.alloc HB_5.out.size (.cells #[.int .i64 c1, .int .i64 c2] 23))
    have HN_5 := Lib.hid (Blk.new w5 23 #[.int .i64 c1, .int .i64 c2])
    go_wp2_with fail
    refine (HS1.out _).mono ?_
    rintro e w6 ⟨rfl, hb6⟩
    rw [okV_form]
    clear x0a x0b q0 x1a x1b q1
    have HX6_0 := Lib.hid ((HX5_0.out.alloc _).sub hb6)
    obtain ⟨x0a, x0b, _, _⟩ := blk2 HX6_0.out
    have q0 := HX6_0.out.lt
    have HX6_1 := Lib.hid ((HX5_1.out.alloc _).sub hb6)
    obtain ⟨x1a, x1b, _, _⟩ := blk2 HX6_1.out
    have q1 := HX6_1.out.lt
    have HX6_2 := Lib.hid (HN_5.out.sub hb6)
    obtain ⟨x2a, x2b, _, _⟩ := blk2 HX6_2.out
    have q2 := HX6_2.out.lt
    have HB_6 := Lib.hid (HB_5a.out.trans (hb6.mono HB_5a.out.size)); clear hb6
    clear HX5_0 HX5_1 HN_5
    have HB_6a := Lib.hid (HB_6.out.alloc HB_6.out.size (.cells #[.int .i64 d1, .int .i64 d2] 23))
    have HN_6 := Lib.hid (Blk.new w6 23 #[.int .i64 d1, .int .i64 d2])
    go_wp2_with fail
    refine (HS2.out _).mono ?_
    rintro e w7 ⟨rfl, hb7⟩
    rw [okV_form]
    clear x0a x0b q0 x1a x1b q1 x2a x2b q2
    have HX7_0 := Lib.hid ((HX6_0.out.alloc _).sub hb7)
    obtain ⟨x0a, x0b, _, _⟩ := blk2 HX7_0.out
    have q0 := HX7_0.out.lt
    have HX7_1 := Lib.hid ((HX6_1.out.alloc _).sub hb7)
    obtain ⟨x1a, x1b, _, _⟩ := blk2 HX7_1.out
    have q1 := HX7_1.out.lt
    have HX7_2 := Lib.hid ((HX6_2.out.alloc _).sub hb7)
    obtain ⟨x2a, x2b, _, _⟩ := blk2 HX7_2.out
    have q2 := HX7_2.out.lt
    have HX7_3 := Lib.hid (HN_6.out.sub hb7)
    obtain ⟨x3a, x3b, _, _⟩ := blk2 HX7_3.out
    have q3 := HX7_3.out.lt
    have HB_7 := Lib.hid (HB_6a.out.trans (hb7.mono HB_6a.out.size)); clear hb7
    clear HX6_0 HX6_1 HX6_2 HN_6
    have HB_7a := Lib.hid (HB_7.out.alloc HB_7.out.size (.cells #[.int .i64 f1, .int .i64 f2] 23))
    have HN_7 := Lib.hid (Blk.new w7 23 #[.int .i64 f1, .int .i64 f2])
    go_wp2_with fail
    refine (HRL.out _).mono ?_
    rintro e w8 ⟨rfl, hb8⟩
    clear x0a x0b q0 x1a x1b q1 x2a x2b q2 x3a x3b q3
    have HX8_0 := Lib.hid ((HX7_0.out.alloc _).sub hb8)
    obtain ⟨x0a, x0b, _, _⟩ := blk2 HX8_0.out
    have q0 := HX8_0.out.lt
    have HX8_1 := Lib.hid ((HX7_1.out.alloc _).sub hb8)
    obtain ⟨x1a, x1b, _, _⟩ := blk2 HX8_1.out
    have q1 := HX8_1.out.lt
    have HX8_2 := Lib.hid ((HX7_2.out.alloc _).sub hb8)
    obtain ⟨x2a, x2b, _, _⟩ := blk2 HX8_2.out
    have q2 := HX8_2.out.lt
    have HX8_3 := Lib.hid ((HX7_3.out.alloc _).sub hb8)
    obtain ⟨x3a, x3b, _, _⟩ := blk2 HX8_3.out
    have q3 := HX8_3.out.lt
    have HX8_4 := Lib.hid (HN_7.out.sub hb8)
    obtain ⟨x4a, x4b, _, _⟩ := blk2 HX8_4.out
    have q4 := HX8_4.out.lt
    have HB_8 := Lib.hid (HB_7a.out.trans (hb8.mono HB_7a.out.size)); clear hb8
    clear HX7_0 HX7_1 HX7_2 HX7_3 HN_7
    go_wp2_with fail
    go_ret
    exact ⟨rfl, HB_8.out⟩
  cases q2
  · clear HRL2 hc
    go_wp2_with fail
    refine (HL.out _).mono ?_
    rintro e w4 ⟨rfl, hb4⟩
    rw [okV_form]
    clear x1 x2
    have HX4_0 := Lib.hid ((HX3.out.alloc _).sub hb4)
    obtain ⟨x0a, x0b, _, _⟩ := blk2 HX4_0.out
    have q0 := HX4_0.out.lt
    have HB_4 := Lib.hid (HB5.out.trans (hb4.mono HB5.out.size)); clear hb4
    clear HX3
    have HB_4a := Lib.hid (HB_4.out.alloc HB_4.out.size (.cells #[.int .i64 a1, .int .i64 a2] 23))
    have HN_4 := Lib.hid (Blk.new w4 23 #[.int .i64 a1, .int .i64 a2])
    go_wp2_with fail
    refine (HL2.out _).mono ?_
    rintro e w5 ⟨rfl, hb5⟩
    rw [okV_form]
    clear x0a x0b q0
    have HX5_0 := Lib.hid ((HX4_0.out.alloc _).sub hb5)
    obtain ⟨x0a, x0b, _, _⟩ := blk2 HX5_0.out
    have q0 := HX5_0.out.lt
    have HX5_1 := Lib.hid (HN_4.out.sub hb5)
    obtain ⟨x1a, x1b, _, _⟩ := blk2 HX5_1.out
    have q1 := HX5_1.out.lt
    have HB_5 := Lib.hid (HB_4a.out.trans (hb5.mono HB_4a.out.size)); clear hb5
    clear HX4_0 HN_4
    have HB_5a := Lib.hid (HB_5.out.alloc HB_5.out.size (.cells #[.int .i64 c1, .int .i64 c2] 23))
    have HN_5 := Lib.hid (Blk.new w5 23 #[.int .i64 c1, .int .i64 c2])
    go_wp2_with fail
    refine (HS1.out _).mono ?_
    rintro e w6 ⟨rfl, hb6⟩
    rw [okV_form]
    clear x0a x0b q0 x1a x1b q1
    have HX6_0 := Lib.hid ((HX5_0.out.alloc _).sub hb6)
    obtain ⟨x0a, x0b, _, _⟩ := blk2 HX6_0.out
    have q0 := HX6_0.out.lt
    have HX6_1 := Lib.hid ((HX5_1.out.alloc _).sub hb6)
    obtain ⟨x1a, x1b, _, _⟩ := blk2 HX6_1.out
    have q1 := HX6_1.out.lt
    have HX6_2 := Lib.hid (HN_5.out.sub hb6)
    obtain ⟨x2a, x2b, _, _⟩ := blk2 HX6_2.out
    have q2 := HX6_2.out.lt
    have HB_6 := Lib.hid (HB_5a.out.trans (hb6.mono HB_5a.out.size)); clear hb6
    clear HX5_0 HX5_1 HN_5
    have HB_6a := Lib.hid (HB_6.out.alloc HB_6.out.size (.cells #[.int .i64 d1, .int .i64 d2] 23))
    have HN_6 := Lib.hid (Blk.new w6 23 #[.int .i64 d1, .int .i64 d2])
    go_wp2_with fail
    refine (HS2.out _).mono ?_
    rintro e w7 ⟨rfl, hb7⟩
    rw [okV_form]
    clear x0a x0b q0 x1a x1b q1 x2a x2b q2
    have HX7_0 := Lib.hid ((HX6_0.out.alloc _).sub hb7)
    obtain ⟨x0a, x0b, _, _⟩ := blk2 HX7_0.out
    have q0 := HX7_0.out.lt
    have HX7_1 := Lib.hid ((HX6_1.out.alloc _).sub hb7)
    obtain ⟨x1a, x1b, _, _⟩ := blk2 HX7_1.out
    have q1 := HX7_1.out.lt
    have HX7_2 := Lib.hid ((HX6_2.out.alloc _).sub hb7)
    obtain ⟨x2a, x2b, _, _⟩ := blk2 HX7_2.out
    have q2 := HX7_2.out.lt
    have HX7_3 := Lib.hid (HN_6.out.sub hb7)
    obtain ⟨x3a, x3b, _, _⟩ := blk2 HX7_3.out
    have q3 := HX7_3.out.lt
    have HB_7 := Lib.hid (HB_6a.out.trans (hb7.mono HB_6a.out.size)); clear hb7
    clear HX6_0 HX6_1 HX6_2 HN_6
    have HB_7a := Lib.hid (HB_7.out.alloc HB_7.out.size (.cells #[.int .i64 f1, .int .i64 f2] 23))
    have HN_7 := Lib.hid (Blk.new w7 23 #[.int .i64 f1, .int .i64 f2])
    go_wp2_with fail
    refine (HRL.out _).mono ?_
    rintro e w8 ⟨rfl, hb8⟩
    clear x0a x0b q0 x1a x1b q1 x2a x2b q2 x3a x3b q3
    have HX8_0 := Lib.hid ((HX7_0.out.alloc _).sub hb8)
    obtain ⟨x0a, x0b, _, _⟩ := blk2 HX8_0.out
    have q0 := HX8_0.out.lt
    have HX8_1 := Lib.hid ((HX7_1.out.alloc _).sub hb8)
    obtain ⟨x1a, x1b, _, _⟩ := blk2 HX8_1.out
    have q1 := HX8_1.out.lt
    have HX8_2 := Lib.hid ((HX7_2.out.alloc _).sub hb8)
    obtain ⟨x2a, x2b, _, _⟩ := blk2 HX8_2.out
    have q2 := HX8_2.out.lt
    have HX8_3 := Lib.hid ((HX7_3.out.alloc _).sub hb8)
    obtain ⟨x3a, x3b, _, _⟩ := blk2 HX8_3.out
    have q3 := HX8_3.out.lt
    have HX8_4 := Lib.hid (HN_7.out.sub hb8)
    obtain ⟨x4a, x4b, _, _⟩ := blk2 HX8_4.out
    have q4 := HX8_4.out.lt
    have HB_8 := Lib.hid (HB_7a.out.trans (hb8.mono HB_7a.out.size)); clear hb8
    clear HX7_0 HX7_1 HX7_2 HX7_3 HN_7
    go_wp2_with fail
    go_ret
    exact ⟨rfl, HB_8.out⟩
  simp only [Bool.not_true, Bool.false_or] at hc
  rw [hc] at HRL2
  clear hc
  go_wp2_with fail
  refine (HL.out _).mono ?_
  rintro e w4 ⟨rfl, hb4⟩
  rw [okV_form]
  clear x1 x2
  have HX4_0 := Lib.hid ((HX3.out.alloc _).sub hb4)
  obtain ⟨x0a, x0b, _, _⟩ := blk2 HX4_0.out
  have q0 := HX4_0.out.lt
  have HB_4 := Lib.hid (HB5.out.trans (hb4.mono HB5.out.size)); clear hb4
  clear HX3
  have HB_4a := Lib.hid (HB_4.out.alloc HB_4.out.size (.cells #[.int .i64 a1, .int .i64 a2] 23))
  have HN_4 := Lib.hid (Blk.new w4 23 #[.int .i64 a1, .int .i64 a2])
  go_wp2_with fail
  refine (HL2.out _).mono ?_
  rintro e w5 ⟨rfl, hb5⟩
  rw [okV_form]
  clear x0a x0b q0
  have HX5_0 := Lib.hid ((HX4_0.out.alloc _).sub hb5)
  obtain ⟨x0a, x0b, _, _⟩ := blk2 HX5_0.out
  have q0 := HX5_0.out.lt
  have HX5_1 := Lib.hid (HN_4.out.sub hb5)
  obtain ⟨x1a, x1b, _, _⟩ := blk2 HX5_1.out
  have q1 := HX5_1.out.lt
  have HB_5 := Lib.hid (HB_4a.out.trans (hb5.mono HB_4a.out.size)); clear hb5
  clear HX4_0 HN_4
  have HB_5a := Lib.hid (HB_5.out.alloc HB_5.out.size (.cells #[.int .i64 c1, .int .i64 c2] 23))
  have HN_5 := Lib.hid (Blk.new w5 23 #[.int .i64 c1, .int .i64 c2])
  go_wp2_with fail
  refine (HS1.out _).mono ?_
  rintro e w6 ⟨rfl, hb6⟩
  rw [okV_form]
  clear x0a x0b q0 x1a x1b q1
  have HX6_0 := Lib.hid ((HX5_0.out.alloc _).sub hb6)
  obtain ⟨x0a, x0b, _, _⟩ := blk2 HX6_0.out
  have q0 := HX6_0.out.lt
  have HX6_1 := Lib.hid ((HX5_1.out.alloc _).sub hb6)
  obtain ⟨x1a, x1b, _, _⟩ := blk2 HX6_1.out
  have q1 := HX6_1.out.lt
  have HX6_2 := Lib.hid (HN_5.out.sub hb6)
  obtain ⟨x2a, x2b, _, _⟩ := blk2 HX6_2.out
  have q2 := HX6_2.out.lt
  have HB_6 := Lib.hid (HB_5a.out.trans (hb6.mono HB_5a.out.size)); clear hb6
  clear HX5_0 HX5_1 HN_5
  have HB_6a := Lib.hid (HB_6.out.alloc HB_6.out.size (.cells #[.int .i64 d1, .int .i64 d2] 23))
  have HN_6 := Lib.hid (Blk.new w6 23 #[.int .i64 d1, .int .i64 d2])
  go_wp2_with fail
  refine (HS2.out _).mono ?_
  rintro e w7 ⟨rfl, hb7⟩
  rw [okV_form]
  clear x0a x0b q0 x1a x1b q1 x2a x2b q2
  have HX7_0 := Lib.hid ((HX6_0.out.alloc _).sub hb7)
  obtain ⟨x0a, x0b, _, _⟩ := blk2 HX7_0.out
  have q0 := HX7_0.out.lt
  have HX7_1 := Lib.hid ((HX6_1.out.alloc _).sub hb7)
  obtain ⟨x1a, x1b, _, _⟩ := blk2 HX7_1.out
  have q1 := HX7_1.out.lt
  have HX7_2 := Lib.hid ((HX6_2.out.alloc _).sub hb7)
  obtain ⟨x2a, x2b, _, _⟩ := blk2 HX7_2.out
  have q2 := HX7_2.out.lt
  have HX7_3 := Lib.hid (HN_6.out.sub hb7)
  obtain ⟨x3a, x3b, _, _⟩ := blk2 HX7_3.out
  have q3 := HX7_3.out.lt
  have HB_7 := Lib.hid (HB_6a.out.trans (hb7.mono HB_6a.out.size)); clear hb7
  clear HX6_0 HX6_1 HX6_2 HN_6
  have HB_7a := Lib.hid (HB_7.out.alloc HB_7.out.size (.cells #[.int .i64 f1, .int .i64 f2] 23))
  have HN_7 := Lib.hid (Blk.new w7 23 #[.int .i64 f1, .int .i64 f2])
  go_wp2_with fail
  refine (HRL.out _).mono ?_
  rintro e w8 ⟨rfl, hb8⟩
  clear x0a x0b q0 x1a x1b q1 x2a x2b q2 x3a x3b q3
  have HX8_0 := Lib.hid ((HX7_0.out.alloc _).sub hb8)
  obtain ⟨x0a, x0b, _, _⟩ := blk2 HX8_0.out
  have q0 := HX8_0.out.lt
  have HX8_1 := Lib.hid ((HX7_1.out.alloc _).sub hb8)
  obtain ⟨x1a, x1b, _, _⟩ := blk2 HX8_1.out
  have q1 := HX8_1.out.lt
  have HX8_2 := Lib.hid ((HX7_2.out.alloc _).sub hb8)
  obtain ⟨x2a, x2b, _, _⟩ := blk2 HX8_2.out
  have q2 := HX8_2.out.lt
  have HX8_3 := Lib.hid ((HX7_3.out.alloc _).sub hb8)
  obtain ⟨x3a, x3b, _, _⟩ := blk2 HX8_3.out
  have q3 := HX8_3.out.lt
  have HX8_4 := Lib.hid (HN_7.out.sub hb8)
  obtain ⟨x4a, x4b, _, _⟩ := blk2 HX8_4.out
  have q4 := HX8_4.out.lt
  have HB_8 := Lib.hid (HB_7a.out.trans (hb8.mono HB_7a.out.size)); clear hb8
  clear HX7_0 HX7_1 HX7_2 HX7_3 HN_7
  go_wp2_with fail
  refine (HRL2.out _).mono ?_
  rintro e w9 ⟨rfl, hb9⟩
  clear x0a x0b q0 x1a x1b q1 x2a x2b q2 x3a x3b q3 x4a x4b q4
  have HX9_0 := Lib.hid (HX8_0.out.sub hb9)
  obtain ⟨x0a, x0b, _, _⟩ := blk2 HX9_0.out
  have q0 := HX9_0.out.lt
  have HX9_1 := Lib.hid (HX8_1.out.sub hb9)
  obtain ⟨x1a, x1b, _, _⟩ := blk2 HX9_1.out
  have q1 := HX9_1.out.lt
  have HX9_2 := Lib.hid (HX8_2.out.sub hb9)
  obtain ⟨x2a, x2b, _, _⟩ := blk2 HX9_2.out
  have q2 := HX9_2.out.lt
  have HX9_3 := Lib.hid (HX8_3.out.sub hb9)
  obtain ⟨x3a, x3b, _, _⟩ := blk2 HX9_3.out
  have q3 := HX9_3.out.lt
  have HX9_4 := Lib.hid (HX8_4.out.sub hb9)
  obtain ⟨x4a, x4b, _, _⟩ := blk2 HX9_4.out
  have q4 := HX9_4.out.lt
  have HB_9 := Lib.hid (HB_8.out.trans (hb9.mono HB_8.out.size)); clear hb9
  clear HX8_0 HX8_1 HX8_2 HX8_3 HX8_4
  go_wp2_with fail
  go_ret
  exact ⟨rfl, HB_9.out⟩
end Go.Proofs.Ytaaiklhkhgennaa
