/- The walk of a law over series. -/
import Derived.Test.YtaaiklhkhgennaaSer3
import Derived.Test.YtaaiklhkhgennaaSer4
import Derived.Test.YtaaiklhkhgennaaSerP2
import Derived.Test.YtaaiklhkhgennaaLawKit
namespace Go.Proofs.Ytaaiklhkhgennaa
open Go.RowKit
attribute [local go_sem ↓] Go.wp_at_zero Go.wp_at_succ

set_option maxHeartbeats 2000000 in
theorem fnSeriesOrder_walk (A : Option Addr) (n0 c0 : Nat) (A1 : Option Addr) (n1 c1 : Nat) (w : World) (hn : n0 ≤ maxLen) (hc : n0 ≤ c0) (hb : Bytes w w.heap.size A n0) (hn1 : n1 ≤ maxLen) (_ : n1 ≤ c1) (_ : Bytes w w.heap.size A1 n1) :
    Calls Try.prog 9 #[.slice A n0 c0, .slice A1 n1 c1] w fun e w' => e = .returned (.bool true) ∧ Below w.heap.size w w' := by
  unfold maxLen at hn hn1
  have HB := Lib.hid hb; clear hb
  have hB0 := Below.refl w.heap.size w
  by_cases hbign0 : 1048576 < n0
  · go_enter Try.func9, Try.ntmps9
    go_wp2_with fail
    go_ret
    exact ⟨rfl, hB0⟩
  by_cases hbign1 : 1048576 < n1
  · go_enter Try.func9, Try.ntmps9
    go_wp2_with fail
    go_ret
    exact ⟨rfl, hB0⟩
  clear hB0
  go_enter Try.func9, Try.ntmps9
  go_wp2_with fail
  refine (DrawSeriesLine_any A n0 c0 w (by omega) hc HB.out).mono ?_
  rintro e w1 ⟨n, m, rfl, hbd, hb1⟩
  have HB1 := Lib.hid hb1; clear hb1
  have HI := Lib.hid (fun W => implSeriesLine_any n m W)
  have HS := Lib.hid (fun W => specSeriesLine_any n m W)
  obtain ⟨r1, r2, ok, hser⟩ : ∃ r1 r2 ok, serB n m = ((r1, r2), ok) := ⟨_, _, _, rfl⟩
  rw [hser] at HS HI
  have HSER := Lib.hid hser; clear hser
  go_wp2_with fail
  refine (HI.out _).mono ?_
  rintro e w2 ⟨rfl, hb2⟩
  rw [okV_form]
  have HB2 := Lib.hid (HB1.out.trans (hb2.mono HB1.out.size)); clear hb2
  have HX := Lib.hid (Blk.new w2 23 #[.int .i64 r1, .int .i64 r2])
  have HB3 := Lib.hid (HB2.out.alloc HB2.out.size (.cells #[.int .i64 r1, .int .i64 r2] 23))
  go_wp2_with fail
  refine (HS.out _).mono ?_
  rintro e w3 ⟨rfl, hb3⟩
  rw [okV_form]
  have hs3 := hb3.size
  simp only [World.size_alloc] at hs3
  have HX3 := Lib.hid (HX.out.sub hb3)
  have HB4 := Lib.hid (HB3.out.trans (hb3.mono HB3.out.size)); clear hb3 HX HB3 HB2
  obtain ⟨x1, x2, _, _⟩ := blk2 HX3.out
  have q1 : w2.heap.size < w3.heap.size := by omega
  have HB5 := Lib.hid (HB4.out.alloc HB4.out.size (.cells #[.int .i64 r1, .int .i64 r2] 23))
  have eq1 : (r1 == r1) = true := by simp
  have eq2 : (r2 == r2) = true := by simp
  have ne1 : (r1 != r1) = false := by simp
  have ne2 : (r2 != r2) = false := by simp
  cases ok
  · go_wp2_with fail
    go_ret
    exact ⟨rfl, HB5.out⟩
  have hrange : 1 ≤ n ∧ n < m ∧ m ≤ 60 := by
    have h := HSER.out
    unfold serB at h
    split at h
    · assumption
    · cases h
  have hmod : 0 ≤ (n1 : Int) % 10 ∧ (n1 : Int) % 10 ≤ 9 := by omega
  have hcase : 60 < m + 1 + (n1 : Int) % 10 ∨ m + 1 + (n1 : Int) % 10 < 60 ∨ (¬ 60 < m + 1 + (n1 : Int) % 10 ∧ ¬ m + 1 + (n1 : Int) % 10 < 60) := by omega
  rcases hcase with hmin | hmin | ⟨hmin, hmin2⟩
  · have HL := Lib.hid (fun W => implSeriesLine_any n 60 W)
    obtain ⟨a1, a2, p, hHL⟩ : ∃ a1 a2 p, serB n 60 = ((a1, a2), p) := ⟨_, _, _, rfl⟩
    rw [hHL] at HL
    have hyes := ser_yes (n := n) (m := 60) (by omega)
    rw [hHL] at hyes
    obtain rfl : p = true := by cases hyes; rfl
    have HL2 := Lib.hid (fun W => implSeriesLine_any (n + 1) m W)
    obtain ⟨c1, c2, p2, hHL2⟩ : ∃ c1 c2 p2, serB (n + 1) m = ((c1, c2), p2) := ⟨_, _, _, rfl⟩
    rw [hHL2] at HL2
    have HRL := Lib.hid (fun W => implRatLess_any r1 r2 a1 a2 W)
    have HRL2 := Lib.hid (fun W => implRatLess_any c1 c2 r1 r2 W)
    have hlow : n + 1 < m → rlB (c1, c2) (r1, r2) = true := fun h => by
      have := ser_low hrange h
      rw [HSER.out, hHL2] at this
      exact this
    have hp2 : p2 = decide (n + 1 < m) := by
      by_cases h : n + 1 < m
      · have := ser_yes (n := n + 1) (m := m) (by omega)
        rw [hHL2] at this
        rw [decide_eq_true h]; cases this; rfl
      · have := ser_no (n := n + 1) (m := m) (by omega)
        rw [hHL2] at this
        rw [decide_eq_false h]; cases this; rfl
    have hrl : m < 60 → rlB (r1, r2) (a1, a2) = true := fun h => by
      have := ser_lt (n := n) (m := m) (k := 60) (by omega) (by omega)
      rw [HSER.out, hHL] at this
      exact this
    clear hHL hHL2 hyes
    by_cases h60 : m = 60
    · have e60 : (m == 60) = true := by simpa using h60
      by_cases hlo : n + 1 < m
      · have dlo : decide (n + 1 < m) = true := decide_eq_true hlo
        obtain rfl : p2 = true := by rw [hp2, dlo]
        rw [hlow hlo] at HRL2
        clear hlow hrl hp2 h60
        go_wp2_with fail
        refine (HL.out _).mono ?_
        rintro e w4 ⟨rfl, hb4⟩
        rw [okV_form]
        clear x1 x2
        have HX4_0 := Lib.hid ((HX3.out.alloc _).sub hb4)
        obtain ⟨x0a, x0b, _, _⟩ := blk2 HX4_0.out
        have q0 := HX4_0.out.lt
        have HB_4 := Lib.hid (HB5.out.trans (hb4.mono HB5.out.size)); clear hb4
        clear HX3
        have HB_4a := Lib.hid (HB_4.out.alloc HB_4.out.size (.cells #[.int .i64 a1, .int .i64 a2] 23))
        have HN_4 := Lib.hid (Blk.new w4 23 #[.int .i64 a1, .int .i64 a2])
        go_wp2_with fail
        refine (HL2.out _).mono ?_
        rintro e w5 ⟨rfl, hb5⟩
        rw [okV_form]
        clear x0a x0b q0
        have HX5_0 := Lib.hid ((HX4_0.out.alloc _).sub hb5)
        obtain ⟨x0a, x0b, _, _⟩ := blk2 HX5_0.out
        have q0 := HX5_0.out.lt
        have HX5_1 := Lib.hid (HN_4.out.sub hb5)
        obtain ⟨x1a, x1b, _, _⟩ := blk2 HX5_1.out
        have q1 := HX5_1.out.lt
        have HB_5 := Lib.hid (HB_4a.out.trans (hb5.mono HB_4a.out.size)); clear hb5
        clear HX4_0 HN_4
        have HB_5a := Lib.hid (HB_5.out.alloc HB_5.out.size (.cells #[.int .i64 c1, .int .i64 c2] 23))
        have HN_5 := Lib.hid (Blk.new w5 23 #[.int .i64 c1, .int .i64 c2])
        go_wp2_with fail
        refine (HRL2.out _).mono ?_
        rintro e w6 ⟨rfl, hb6⟩
        clear x0a x0b q0 x1a x1b q1
        have HX6_0 := Lib.hid ((HX5_0.out.alloc _).sub hb6)
        obtain ⟨x0a, x0b, _, _⟩ := blk2 HX6_0.out
        have q0 := HX6_0.out.lt
        have HX6_1 := Lib.hid ((HX5_1.out.alloc _).sub hb6)
        obtain ⟨x1a, x1b, _, _⟩ := blk2 HX6_1.out
        have q1 := HX6_1.out.lt
        have HX6_2 := Lib.hid (HN_5.out.sub hb6)
        obtain ⟨x2a, x2b, _, _⟩ := blk2 HX6_2.out
        have q2 := HX6_2.out.lt
        have HB_6 := Lib.hid (HB_5a.out.trans (hb6.mono HB_5a.out.size)); clear hb6
        clear HX5_0 HX5_1 HN_5
        go_wp2_with fail
        go_ret
        exact ⟨rfl, HB_6.out⟩
      · have dlo : decide (n + 1 < m) = false := decide_eq_false hlo
        obtain rfl : p2 = false := by rw [hp2, dlo]
        clear hlow hrl hp2 h60
        go_wp2_with fail
        refine (HL.out _).mono ?_
        rintro e w4 ⟨rfl, hb4⟩
        rw [okV_form]
        clear x1 x2
        have HX4_0 := Lib.hid ((HX3.out.alloc _).sub hb4)
        obtain ⟨x0a, x0b, _, _⟩ := blk2 HX4_0.out
        have q0 := HX4_0.out.lt
        have HB_4 := Lib.hid (HB5.out.trans (hb4.mono HB5.out.size)); clear hb4
        clear HX3
        have HB_4a := Lib.hid (HB_4.out.alloc HB_4.out.size (.cells #[.int .i64 a1, .int .i64 a2] 23))
        have HN_4 := Lib.hid (Blk.new w4 23 #[.int .i64 a1, .int .i64 a2])
        go_wp2_with fail
        refine (HL2.out _).mono ?_
        rintro e w5 ⟨rfl, hb5⟩
        rw [okV_form]
        clear x0a x0b q0
        have HX5_0 := Lib.hid ((HX4_0.out.alloc _).sub hb5)
        obtain ⟨x0a, x0b, _, _⟩ := blk2 HX5_0.out
        have q0 := HX5_0.out.lt
        have HX5_1 := Lib.hid (HN_4.out.sub hb5)
        obtain ⟨x1a, x1b, _, _⟩ := blk2 HX5_1.out
        have q1 := HX5_1.out.lt
        have HB_5 := Lib.hid (HB_4a.out.trans (hb5.mono HB_4a.out.size)); clear hb5
        clear HX4_0 HN_4
        have HB_5a := Lib.hid (HB_5.out.alloc HB_5.out.size (.cells #[.int .i64 c1, .int .i64 c2] 23))
        have HN_5 := Lib.hid (Blk.new w5 23 #[.int .i64 c1, .int .i64 c2])
        go_wp2_with fail
        go_ret
        exact ⟨rfl, HB_5a.out⟩
    · have e60 : (m == 60) = false := by simpa using h60
      rw [hrl (by omega)] at HRL
      by_cases hlo : n + 1 < m
      · have dlo : decide (n + 1 < m) = true := decide_eq_true hlo
        obtain rfl : p2 = true := by rw [hp2, dlo]
        rw [hlow hlo] at HRL2
        clear hlow hrl hp2 h60
        go_wp2_with fail
        refine (HL.out _).mono ?_
        rintro e w4 ⟨rfl, hb4⟩
        rw [okV_form]
        clear x1 x2
        have HX4_0 := Lib.hid ((HX3.out.alloc _).sub hb4)
        obtain ⟨x0a, x0b, _, _⟩ := blk2 HX4_0.out
        have q0 := HX4_0.out.lt
        have HB_4 := Lib.hid (HB5.out.trans (hb4.mono HB5.out.size)); clear hb4
        clear HX3
        have HB_4a := Lib.hid (HB_4.out.alloc HB_4.out.size (.cells #[.int .i64 a1, .int .i64 a2] 23))
        have HN_4 := Lib.hid (Blk.new w4 23 #[.int .i64 a1, .int .i64 a2])
        go_wp2_with fail
        refine (HL2.out _).mono ?_
        rintro e w5 ⟨rfl, hb5⟩
        rw [okV_form]
        clear x0a x0b q0
        have HX5_0 := Lib.hid ((HX4_0.out.alloc _).sub hb5)
        obtain ⟨x0a, x0b, _, _⟩ := blk2 HX5_0.out
        have q0 := HX5_0.out.lt
        have HX5_1 := Lib.hid (HN_4.out.sub hb5)
        obtain ⟨x1a, x1b, _, _⟩ := blk2 HX5_1.out
        have q1 := HX5_1.out.lt
        have HB_5 := Lib.hid (HB_4a.out.trans (hb5.mono HB_4a.out.size)); clear hb5
        clear HX4_0 HN_4
        have HB_5a := Lib.hid (HB_5.out.alloc HB_5.out.size (.cells #[.int .i64 c1, .int .i64 c2] 23))
        have HN_5 := Lib.hid (Blk.new w5 23 #[.int .i64 c1, .int .i64 c2])
        go_wp2_with fail
        refine (HRL.out _).mono ?_
        rintro e w6 ⟨rfl, hb6⟩
        clear x0a x0b q0 x1a x1b q1
        have HX6_0 := Lib.hid ((HX5_0.out.alloc _).sub hb6)
        obtain ⟨x0a, x0b, _, _⟩ := blk2 HX6_0.out
        have q0 := HX6_0.out.lt
        have HX6_1 := Lib.hid ((HX5_1.out.alloc _).sub hb6)
        obtain ⟨x1a, x1b, _, _⟩ := blk2 HX6_1.out
        have q1 := HX6_1.out.lt
        have HX6_2 := Lib.hid (HN_5.out.sub hb6)
        obtain ⟨x2a, x2b, _, _⟩ := blk2 HX6_2.out
        have q2 := HX6_2.out.lt
        have HB_6 := Lib.hid (HB_5a.out.trans (hb6.mono HB_5a.out.size)); clear hb6
        clear HX5_0 HX5_1 HN_5
        go_wp2_with fail
        refine (HRL2.out _).mono ?_
        rintro e w7 ⟨rfl, hb7⟩
        clear x0a x0b q0 x1a x1b q1 x2a x2b q2
        have HX7_0 := Lib.hid (HX6_0.out.sub hb7)
        obtain ⟨x0a, x0b, _, _⟩ := blk2 HX7_0.out
        have q0 := HX7_0.out.lt
        have HX7_1 := Lib.hid (HX6_1.out.sub hb7)
        obtain ⟨x1a, x1b, _, _⟩ := blk2 HX7_1.out
        have q1 := HX7_1.out.lt
        have HX7_2 := Lib.hid (HX6_2.out.sub hb7)
        obtain ⟨x2a, x2b, _, _⟩ := blk2 HX7_2.out
        have q2 := HX7_2.out.lt
        have HB_7 := Lib.hid (HB_6.out.trans (hb7.mono HB_6.out.size)); clear hb7
        clear HX6_0 HX6_1 HX6_2
        go_wp2_with fail
        go_ret
        exact ⟨rfl, HB_7.out⟩
      · have dlo : decide (n + 1 < m) = false := decide_eq_false hlo
        obtain rfl : p2 = false := by rw [hp2, dlo]
        clear hlow hrl hp2 h60
        go_wp2_with fail
        refine (HL.out _).mono ?_
        rintro e w4 ⟨rfl, hb4⟩
        rw [okV_form]
        clear x1 x2
        have HX4_0 := Lib.hid ((HX3.out.alloc _).sub hb4)
        obtain ⟨x0a, x0b, _, _⟩ := blk2 HX4_0.out
        have q0 := HX4_0.out.lt
        have HB_4 := Lib.hid (HB5.out.trans (hb4.mono HB5.out.size)); clear hb4
        clear HX3
        have HB_4a := Lib.hid (HB_4.out.alloc HB_4.out.size (.cells #[.int .i64 a1, .int .i64 a2] 23))
        have HN_4 := Lib.hid (Blk.new w4 23 #[.int .i64 a1, .int .i64 a2])
        go_wp2_with fail
        refine (HL2.out _).mono ?_
        rintro e w5 ⟨rfl, hb5⟩
        rw [okV_form]
        clear x0a x0b q0
        have HX5_0 := Lib.hid ((HX4_0.out.alloc _).sub hb5)
        obtain ⟨x0a, x0b, _, _⟩ := blk2 HX5_0.out
        have q0 := HX5_0.out.lt
        have HX5_1 := Lib.hid (HN_4.out.sub hb5)
        obtain ⟨x1a, x1b, _, _⟩ := blk2 HX5_1.out
        have q1 := HX5_1.out.lt
        have HB_5 := Lib.hid (HB_4a.out.trans (hb5.mono HB_4a.out.size)); clear hb5
        clear HX4_0 HN_4
        have HB_5a := Lib.hid (HB_5.out.alloc HB_5.out.size (.cells #[.int .i64 c1, .int .i64 c2] 23))
        have HN_5 := Lib.hid (Blk.new w5 23 #[.int .i64 c1, .int .i64 c2])
        go_wp2_with fail
        refine (HRL.out _).mono ?_
        rintro e w6 ⟨rfl, hb6⟩
        clear x0a x0b q0 x1a x1b q1
        have HX6_0 := Lib.hid ((HX5_0.out.alloc _).sub hb6)
        obtain ⟨x0a, x0b, _, _⟩ := blk2 HX6_0.out
        have q0 := HX6_0.out.lt
        have HX6_1 := Lib.hid ((HX5_1.out.alloc _).sub hb6)
        obtain ⟨x1a, x1b, _, _⟩ := blk2 HX6_1.out
        have q1 := HX6_1.out.lt
        have HX6_2 := Lib.hid (HN_5.out.sub hb6)
        obtain ⟨x2a, x2b, _, _⟩ := blk2 HX6_2.out
        have q2 := HX6_2.out.lt
        have HB_6 := Lib.hid (HB_5a.out.trans (hb6.mono HB_5a.out.size)); clear hb6
        clear HX5_0 HX5_1 HN_5
        go_wp2_with fail
        go_ret
        exact ⟨rfl, HB_6.out⟩
  · have HL := Lib.hid (fun W => implSeriesLine_any n (m + 1 + (n1 : Int) % 10) W)
    obtain ⟨a1, a2, p, hHL⟩ : ∃ a1 a2 p, serB n (m + 1 + (n1 : Int) % 10) = ((a1, a2), p) := ⟨_, _, _, rfl⟩
    rw [hHL] at HL
    have hyes := ser_yes (n := n) (m := (m + 1 + (n1 : Int) % 10)) (by omega)
    rw [hHL] at hyes
    obtain rfl : p = true := by cases hyes; rfl
    have HL2 := Lib.hid (fun W => implSeriesLine_any (n + 1) m W)
    obtain ⟨c1, c2, p2, hHL2⟩ : ∃ c1 c2 p2, serB (n + 1) m = ((c1, c2), p2) := ⟨_, _, _, rfl⟩
    rw [hHL2] at HL2
    have HRL := Lib.hid (fun W => implRatLess_any r1 r2 a1 a2 W)
    have HRL2 := Lib.hid (fun W => implRatLess_any c1 c2 r1 r2 W)
    have hlow : n + 1 < m → rlB (c1, c2) (r1, r2) = true := fun h => by
      have := ser_low hrange h
      rw [HSER.out, hHL2] at this
      exact this
    have hp2 : p2 = decide (n + 1 < m) := by
      by_cases h : n + 1 < m
      · have := ser_yes (n := n + 1) (m := m) (by omega)
        rw [hHL2] at this
        rw [decide_eq_true h]; cases this; rfl
      · have := ser_no (n := n + 1) (m := m) (by omega)
        rw [hHL2] at this
        rw [decide_eq_false h]; cases this; rfl
    have hrl : m < 60 → rlB (r1, r2) (a1, a2) = true := fun h => by
      have := ser_lt (n := n) (m := m) (k := (m + 1 + (n1 : Int) % 10)) (by omega) (by omega)
      rw [HSER.out, hHL] at this
      exact this
    clear hHL hHL2 hyes
    by_cases h60 : m = 60
    · have e60 : (m == 60) = true := by simpa using h60
      by_cases hlo : n + 1 < m
      · have dlo : decide (n + 1 < m) = true := decide_eq_true hlo
        obtain rfl : p2 = true := by rw [hp2, dlo]
        rw [hlow hlo] at HRL2
        clear hlow hrl hp2 h60
        go_wp2_with fail
        refine (HL.out _).mono ?_
        rintro e w4 ⟨rfl, hb4⟩
        rw [okV_form]
        clear x1 x2
        have HX4_0 := Lib.hid ((HX3.out.alloc _).sub hb4)
        obtain ⟨x0a, x0b, _, _⟩ := blk2 HX4_0.out
        have q0 := HX4_0.out.lt
        have HB_4 := Lib.hid (HB5.out.trans (hb4.mono HB5.out.size)); clear hb4
        clear HX3
        have HB_4a := Lib.hid (HB_4.out.alloc HB_4.out.size (.cells #[.int .i64 a1, .int .i64 a2] 23))
        have HN_4 := Lib.hid (Blk.new w4 23 #[.int .i64 a1, .int .i64 a2])
        go_wp2_with fail
        refine (HL2.out _).mono ?_
        rintro e w5 ⟨rfl, hb5⟩
        rw [okV_form]
        clear x0a x0b q0
        have HX5_0 := Lib.hid ((HX4_0.out.alloc _).sub hb5)
        obtain ⟨x0a, x0b, _, _⟩ := blk2 HX5_0.out
        have q0 := HX5_0.out.lt
        have HX5_1 := Lib.hid (HN_4.out.sub hb5)
        obtain ⟨x1a, x1b, _, _⟩ := blk2 HX5_1.out
        have q1 := HX5_1.out.lt
        have HB_5 := Lib.hid (HB_4a.out.trans (hb5.mono HB_4a.out.size)); clear hb5
        clear HX4_0 HN_4
        have HB_5a := Lib.hid (HB_5.out.alloc HB_5.out.size (.cells #[.int .i64 c1, .int .i64 c2] 23))
        have HN_5 := Lib.hid (Blk.new w5 23 #[.int .i64 c1, .int .i64 c2])
        go_wp2_with fail
        refine (HRL2.out _).mono ?_
        rintro e w6 ⟨rfl, hb6⟩
        clear x0a x0b q0 x1a x1b q1
        have HX6_0 := Lib.hid ((HX5_0.out.alloc _).sub hb6)
        obtain ⟨x0a, x0b, _, _⟩ := blk2 HX6_0.out
        have q0 := HX6_0.out.lt
        have HX6_1 := Lib.hid ((HX5_1.out.alloc _).sub hb6)
        obtain ⟨x1a, x1b, _, _⟩ := blk2 HX6_1.out
        have q1 := HX6_1.out.lt
        have HX6_2 := Lib.hid (HN_5.out.sub hb6)
        obtain ⟨x2a, x2b, _, _⟩ := blk2 HX6_2.out
        have q2 := HX6_2.out.lt
        have HB_6 := Lib.hid (HB_5a.out.trans (hb6.mono HB_5a.out.size)); clear hb6
        clear HX5_0 HX5_1 HN_5
        go_wp2_with fail
        go_ret
        exact ⟨rfl, HB_6.out⟩
      · have dlo : decide (n + 1 < m) = false := decide_eq_false hlo
        obtain rfl : p2 = false := by rw [hp2, dlo]
        clear hlow hrl hp2 h60
        go_wp2_with fail
        refine (HL.out _).mono ?_
        rintro e w4 ⟨rfl, hb4⟩
        rw [okV_form]
        clear x1 x2
        have HX4_0 := Lib.hid ((HX3.out.alloc _).sub hb4)
        obtain ⟨x0a, x0b, _, _⟩ := blk2 HX4_0.out
        have q0 := HX4_0.out.lt
        have HB_4 := Lib.hid (HB5.out.trans (hb4.mono HB5.out.size)); clear hb4
        clear HX3
        have HB_4a := Lib.hid (HB_4.out.alloc HB_4.out.size (.cells #[.int .i64 a1, .int .i64 a2] 23))
        have HN_4 := Lib.hid (Blk.new w4 23 #[.int .i64 a1, .int .i64 a2])
        go_wp2_with fail
        refine (HL2.out _).mono ?_
        rintro e w5 ⟨rfl, hb5⟩
        rw [okV_form]
        clear x0a x0b q0
        have HX5_0 := Lib.hid ((HX4_0.out.alloc _).sub hb5)
        obtain ⟨x0a, x0b, _, _⟩ := blk2 HX5_0.out
        have q0 := HX5_0.out.lt
        have HX5_1 := Lib.hid (HN_4.out.sub hb5)
        obtain ⟨x1a, x1b, _, _⟩ := blk2 HX5_1.out
        have q1 := HX5_1.out.lt
        have HB_5 := Lib.hid (HB_4a.out.trans (hb5.mono HB_4a.out.size)); clear hb5
        clear HX4_0 HN_4
        have HB_5a := Lib.hid (HB_5.out.alloc HB_5.out.size (.cells #[.int .i64 c1, .int .i64 c2] 23))
        have HN_5 := Lib.hid (Blk.new w5 23 #[.int .i64 c1, .int .i64 c2])
        go_wp2_with fail
        go_ret
        exact ⟨rfl, HB_5a.out⟩
    · have e60 : (m == 60) = false := by simpa using h60
      rw [hrl (by omega)] at HRL
      by_cases hlo : n + 1 < m
      · have dlo : decide (n + 1 < m) = true := decide_eq_true hlo
        obtain rfl : p2 = true := by rw [hp2, dlo]
        rw [hlow hlo] at HRL2
        clear hlow hrl hp2 h60
        go_wp2_with fail
        refine (HL.out _).mono ?_
        rintro e w4 ⟨rfl, hb4⟩
        rw [okV_form]
        clear x1 x2
        have HX4_0 := Lib.hid ((HX3.out.alloc _).sub hb4)
        obtain ⟨x0a, x0b, _, _⟩ := blk2 HX4_0.out
        have q0 := HX4_0.out.lt
        have HB_4 := Lib.hid (HB5.out.trans (hb4.mono HB5.out.size)); clear hb4
        clear HX3
        have HB_4a := Lib.hid (HB_4.out.alloc HB_4.out.size (.cells #[.int .i64 a1, .int .i64 a2] 23))
        have HN_4 := Lib.hid (Blk.new w4 23 #[.int .i64 a1, .int .i64 a2])
        go_wp2_with fail
        refine (HL2.out _).mono ?_
        rintro e w5 ⟨rfl, hb5⟩
        rw [okV_form]
        clear x0a x0b q0
        have HX5_0 := Lib.hid ((HX4_0.out.alloc _).sub hb5)
        obtain ⟨x0a, x0b, _, _⟩ := blk2 HX5_0.out
        have q0 := HX5_0.out.lt
        have HX5_1 := Lib.hid (HN_4.out.sub hb5)
        obtain ⟨x1a, x1b, _, _⟩ := blk2 HX5_1.out
        have q1 := HX5_1.out.lt
        have HB_5 := Lib.hid (HB_4a.out.trans (hb5.mono HB_4a.out.size)); clear hb5
        clear HX4_0 HN_4
        have HB_5a := Lib.hid (HB_5.out.alloc HB_5.out.size (.cells #[.int .i64 c1, .int .i64 c2] 23))
        have HN_5 := Lib.hid (Blk.new w5 23 #[.int .i64 c1, .int .i64 c2])
        go_wp2_with fail
        refine (HRL.out _).mono ?_
        rintro e w6 ⟨rfl, hb6⟩
        clear x0a x0b q0 x1a x1b q1
        have HX6_0 := Lib.hid ((HX5_0.out.alloc _).sub hb6)
        obtain ⟨x0a, x0b, _, _⟩ := blk2 HX6_0.out
        have q0 := HX6_0.out.lt
        have HX6_1 := Lib.hid ((HX5_1.out.alloc _).sub hb6)
        obtain ⟨x1a, x1b, _, _⟩ := blk2 HX6_1.out
        have q1 := HX6_1.out.lt
        have HX6_2 := Lib.hid (HN_5.out.sub hb6)
        obtain ⟨x2a, x2b, _, _⟩ := blk2 HX6_2.out
        have q2 := HX6_2.out.lt
        have HB_6 := Lib.hid (HB_5a.out.trans (hb6.mono HB_5a.out.size)); clear hb6
        clear HX5_0 HX5_1 HN_5
        go_wp2_with fail
        refine (HRL2.out _).mono ?_
        rintro e w7 ⟨rfl, hb7⟩
        clear x0a x0b q0 x1a x1b q1 x2a x2b q2
        have HX7_0 := Lib.hid (HX6_0.out.sub hb7)
        obtain ⟨x0a, x0b, _, _⟩ := blk2 HX7_0.out
        have q0 := HX7_0.out.lt
        have HX7_1 := Lib.hid (HX6_1.out.sub hb7)
        obtain ⟨x1a, x1b, _, _⟩ := blk2 HX7_1.out
        have q1 := HX7_1.out.lt
        have HX7_2 := Lib.hid (HX6_2.out.sub hb7)
        obtain ⟨x2a, x2b, _, _⟩ := blk2 HX7_2.out
        have q2 := HX7_2.out.lt
        have HB_7 := Lib.hid (HB_6.out.trans (hb7.mono HB_6.out.size)); clear hb7
        clear HX6_0 HX6_1 HX6_2
        go_wp2_with fail
        go_ret
        exact ⟨rfl, HB_7.out⟩
      · have dlo : decide (n + 1 < m) = false := decide_eq_false hlo
        obtain rfl : p2 = false := by rw [hp2, dlo]
        clear hlow hrl hp2 h60
        go_wp2_with fail
        refine (HL.out _).mono ?_
        rintro e w4 ⟨rfl, hb4⟩
        rw [okV_form]
        clear x1 x2
        have HX4_0 := Lib.hid ((HX3.out.alloc _).sub hb4)
        obtain ⟨x0a, x0b, _, _⟩ := blk2 HX4_0.out
        have q0 := HX4_0.out.lt
        have HB_4 := Lib.hid (HB5.out.trans (hb4.mono HB5.out.size)); clear hb4
        clear HX3
        have HB_4a := Lib.hid (HB_4.out.alloc HB_4.out.size (.cells #[.int .i64 a1, .int .i64 a2] 23))
        have HN_4 := Lib.hid (Blk.new w4 23 #[.int .i64 a1, .int .i64 a2])
        go_wp2_with fail
        refine (HL2.out _).mono ?_
        rintro e w5 ⟨rfl, hb5⟩
        rw [okV_form]
        clear x0a x0b q0
        have HX5_0 := Lib.hid ((HX4_0.out.alloc _).sub hb5)
        obtain ⟨x0a, x0b, _, _⟩ := blk2 HX5_0.out
        have q0 := HX5_0.out.lt
        have HX5_1 := Lib.hid (HN_4.out.sub hb5)
        obtain ⟨x1a, x1b, _, _⟩ := blk2 HX5_1.out
        have q1 := HX5_1.out.lt
        have HB_5 := Lib.hid (HB_4a.out.trans (hb5.mono HB_4a.out.size)); clear hb5
        clear HX4_0 HN_4
        have HB_5a := Lib.hid (HB_5.out.alloc HB_5.out.size (.cells #[.int .i64 c1, .int .i64 c2] 23))
        have HN_5 := Lib.hid (Blk.new w5 23 #[.int .i64 c1, .int .i64 c2])
        go_wp2_with fail
        refine (HRL.out _).mono ?_
        rintro e w6 ⟨rfl, hb6⟩
        clear x0a x0b q0 x1a x1b q1
        have HX6_0 := Lib.hid ((HX5_0.out.alloc _).sub hb6)
        obtain ⟨x0a, x0b, _, _⟩ := blk2 HX6_0.out
        have q0 := HX6_0.out.lt
        have HX6_1 := Lib.hid ((HX5_1.out.alloc _).sub hb6)
        obtain ⟨x1a, x1b, _, _⟩ := blk2 HX6_1.out
        have q1 := HX6_1.out.lt
        have HX6_2 := Lib.hid (HN_5.out.sub hb6)
        obtain ⟨x2a, x2b, _, _⟩ := blk2 HX6_2.out
        have q2 := HX6_2.out.lt
        have HB_6 := Lib.hid (HB_5a.out.trans (hb6.mono HB_5a.out.size)); clear hb6
        clear HX5_0 HX5_1 HN_5
        go_wp2_with fail
        go_ret
        exact ⟨rfl, HB_6.out⟩
  · have HL := Lib.hid (fun W => implSeriesLine_any n 60 W)
    obtain ⟨a1, a2, p, hHL⟩ : ∃ a1 a2 p, serB n 60 = ((a1, a2), p) := ⟨_, _, _, rfl⟩
    rw [hHL] at HL
    have hyes := ser_yes (n := n) (m := 60) (by omega)
    rw [hHL] at hyes
    obtain rfl : p = true := by cases hyes; rfl
    have HL2 := Lib.hid (fun W => implSeriesLine_any (n + 1) m W)
    obtain ⟨c1, c2, p2, hHL2⟩ : ∃ c1 c2 p2, serB (n + 1) m = ((c1, c2), p2) := ⟨_, _, _, rfl⟩
    rw [hHL2] at HL2
    have HRL := Lib.hid (fun W => implRatLess_any r1 r2 a1 a2 W)
    have HRL2 := Lib.hid (fun W => implRatLess_any c1 c2 r1 r2 W)
    have hlow : n + 1 < m → rlB (c1, c2) (r1, r2) = true := fun h => by
      have := ser_low hrange h
      rw [HSER.out, hHL2] at this
      exact this
    have hp2 : p2 = decide (n + 1 < m) := by
      by_cases h : n + 1 < m
      · have := ser_yes (n := n + 1) (m := m) (by omega)
        rw [hHL2] at this
        rw [decide_eq_true h]; cases this; rfl
      · have := ser_no (n := n + 1) (m := m) (by omega)
        rw [hHL2] at this
        rw [decide_eq_false h]; cases this; rfl
    have hrl : m < 60 → rlB (r1, r2) (a1, a2) = true := fun h => by
      have := ser_lt (n := n) (m := m) (k := 60) (by omega) (by omega)
      rw [HSER.out, hHL] at this
      exact this
    clear hHL hHL2 hyes
    by_cases h60 : m = 60
    · have e60 : (m == 60) = true := by simpa using h60
      by_cases hlo : n + 1 < m
      · have dlo : decide (n + 1 < m) = true := decide_eq_true hlo
        obtain rfl : p2 = true := by rw [hp2, dlo]
        rw [hlow hlo] at HRL2
        clear hlow hrl hp2 h60
        go_wp2_with fail
        refine (HL.out _).mono ?_
        rintro e w4 ⟨rfl, hb4⟩
        rw [okV_form]
        clear x1 x2
        have HX4_0 := Lib.hid ((HX3.out.alloc _).sub hb4)
        obtain ⟨x0a, x0b, _, _⟩ := blk2 HX4_0.out
        have q0 := HX4_0.out.lt
        have HB_4 := Lib.hid (HB5.out.trans (hb4.mono HB5.out.size)); clear hb4
        clear HX3
        have HB_4a := Lib.hid (HB_4.out.alloc HB_4.out.size (.cells #[.int .i64 a1, .int .i64 a2] 23))
        have HN_4 := Lib.hid (Blk.new w4 23 #[.int .i64 a1, .int .i64 a2])
        go_wp2_with fail
        refine (HL2.out _).mono ?_
        rintro e w5 ⟨rfl, hb5⟩
        rw [okV_form]
        clear x0a x0b q0
        have HX5_0 := Lib.hid ((HX4_0.out.alloc _).sub hb5)
        obtain ⟨x0a, x0b, _, _⟩ := blk2 HX5_0.out
        have q0 := HX5_0.out.lt
        have HX5_1 := Lib.hid (HN_4.out.sub hb5)
        obtain ⟨x1a, x1b, _, _⟩ := blk2 HX5_1.out
        have q1 := HX5_1.out.lt
        have HB_5 := Lib.hid (HB_4a.out.trans (hb5.mono HB_4a.out.size)); clear hb5
        clear HX4_0 HN_4
        have HB_5a := Lib.hid (HB_5.out.alloc HB_5.out.size (.cells #[.int .i64 c1, .int .i64 c2] 23))
        have HN_5 := Lib.hid (Blk.new w5 23 #[.int .i64 c1, .int .i64 c2])
        go_wp2_with fail
        refine (HRL2.out _).mono ?_
        rintro e w6 ⟨rfl, hb6⟩
        clear x0a x0b q0 x1a x1b q1
        have HX6_0 := Lib.hid ((HX5_0.out.alloc _).sub hb6)
        obtain ⟨x0a, x0b, _, _⟩ := blk2 HX6_0.out
        have q0 := HX6_0.out.lt
        have HX6_1 := Lib.hid ((HX5_1.out.alloc _).sub hb6)
        obtain ⟨x1a, x1b, _, _⟩ := blk2 HX6_1.out
        have q1 := HX6_1.out.lt
        have HX6_2 := Lib.hid (HN_5.out.sub hb6)
        obtain ⟨x2a, x2b, _, _⟩ := blk2 HX6_2.out
        have q2 := HX6_2.out.lt
        have HB_6 := Lib.hid (HB_5a.out.trans (hb6.mono HB_5a.out.size)); clear hb6
        clear HX5_0 HX5_1 HN_5
        go_wp2_with fail
        go_ret
        exact ⟨rfl, HB_6.out⟩
      · have dlo : decide (n + 1 < m) = false := decide_eq_false hlo
        obtain rfl : p2 = false := by rw [hp2, dlo]
        clear hlow hrl hp2 h60
        go_wp2_with fail
        refine (HL.out _).mono ?_
        rintro e w4 ⟨rfl, hb4⟩
        rw [okV_form]
        clear x1 x2
        have HX4_0 := Lib.hid ((HX3.out.alloc _).sub hb4)
        obtain ⟨x0a, x0b, _, _⟩ := blk2 HX4_0.out
        have q0 := HX4_0.out.lt
        have HB_4 := Lib.hid (HB5.out.trans (hb4.mono HB5.out.size)); clear hb4
        clear HX3
        have HB_4a := Lib.hid (HB_4.out.alloc HB_4.out.size (.cells #[.int .i64 a1, .int .i64 a2] 23))
        have HN_4 := Lib.hid (Blk.new w4 23 #[.int .i64 a1, .int .i64 a2])
        go_wp2_with fail
        refine (HL2.out _).mono ?_
        rintro e w5 ⟨rfl, hb5⟩
        rw [okV_form]
        clear x0a x0b q0
        have HX5_0 := Lib.hid ((HX4_0.out.alloc _).sub hb5)
        obtain ⟨x0a, x0b, _, _⟩ := blk2 HX5_0.out
        have q0 := HX5_0.out.lt
        have HX5_1 := Lib.hid (HN_4.out.sub hb5)
        obtain ⟨x1a, x1b, _, _⟩ := blk2 HX5_1.out
        have q1 := HX5_1.out.lt
        have HB_5 := Lib.hid (HB_4a.out.trans (hb5.mono HB_4a.out.size)); clear hb5
        clear HX4_0 HN_4
        have HB_5a := Lib.hid (HB_5.out.alloc HB_5.out.size (.cells #[.int .i64 c1, .int .i64 c2] 23))
        have HN_5 := Lib.hid (Blk.new w5 23 #[.int .i64 c1, .int .i64 c2])
        go_wp2_with fail
        go_ret
        exact ⟨rfl, HB_5a.out⟩
    · have e60 : (m == 60) = false := by simpa using h60
      rw [hrl (by omega)] at HRL
      by_cases hlo : n + 1 < m
      · have dlo : decide (n + 1 < m) = true := decide_eq_true hlo
        obtain rfl : p2 = true := by rw [hp2, dlo]
        rw [hlow hlo] at HRL2
        clear hlow hrl hp2 h60
        go_wp2_with fail
        refine (HL.out _).mono ?_
        rintro e w4 ⟨rfl, hb4⟩
        rw [okV_form]
        clear x1 x2
        have HX4_0 := Lib.hid ((HX3.out.alloc _).sub hb4)
        obtain ⟨x0a, x0b, _, _⟩ := blk2 HX4_0.out
        have q0 := HX4_0.out.lt
        have HB_4 := Lib.hid (HB5.out.trans (hb4.mono HB5.out.size)); clear hb4
        clear HX3
        have HB_4a := Lib.hid (HB_4.out.alloc HB_4.out.size (.cells #[.int .i64 a1, .int .i64 a2] 23))
        have HN_4 := Lib.hid (Blk.new w4 23 #[.int .i64 a1, .int .i64 a2])
        go_wp2_with fail
        refine (HL2.out _).mono ?_
        rintro e w5 ⟨rfl, hb5⟩
        rw [okV_form]
        clear x0a x0b q0
        have HX5_0 := Lib.hid ((HX4_0.out.alloc _).sub hb5)
        obtain ⟨x0a, x0b, _, _⟩ := blk2 HX5_0.out
        have q0 := HX5_0.out.lt
        have HX5_1 := Lib.hid (HN_4.out.sub hb5)
        obtain ⟨x1a, x1b, _, _⟩ := blk2 HX5_1.out
        have q1 := HX5_1.out.lt
        have HB_5 := Lib.hid (HB_4a.out.trans (hb5.mono HB_4a.out.size)); clear hb5
        clear HX4_0 HN_4
        have HB_5a := Lib.hid (HB_5.out.alloc HB_5.out.size (.cells #[.int .i64 c1, .int .i64 c2] 23))
        have HN_5 := Lib.hid (Blk.new w5 23 #[.int .i64 c1, .int .i64 c2])
        go_wp2_with fail
        refine (HRL.out _).mono ?_
        rintro e w6 ⟨rfl, hb6⟩
        clear x0a x0b q0 x1a x1b q1
        have HX6_0 := Lib.hid ((HX5_0.out.alloc _).sub hb6)
        obtain ⟨x0a, x0b, _, _⟩ := blk2 HX6_0.out
        have q0 := HX6_0.out.lt
        have HX6_1 := Lib.hid ((HX5_1.out.alloc _).sub hb6)
        obtain ⟨x1a, x1b, _, _⟩ := blk2 HX6_1.out
        have q1 := HX6_1.out.lt
        have HX6_2 := Lib.hid (HN_5.out.sub hb6)
        obtain ⟨x2a, x2b, _, _⟩ := blk2 HX6_2.out
        have q2 := HX6_2.out.lt
        have HB_6 := Lib.hid (HB_5a.out.trans (hb6.mono HB_5a.out.size)); clear hb6
        clear HX5_0 HX5_1 HN_5
        go_wp2_with fail
        refine (HRL2.out _).mono ?_
        rintro e w7 ⟨rfl, hb7⟩
        clear x0a x0b q0 x1a x1b q1 x2a x2b q2
        have HX7_0 := Lib.hid (HX6_0.out.sub hb7)
        obtain ⟨x0a, x0b, _, _⟩ := blk2 HX7_0.out
        have q0 := HX7_0.out.lt
        have HX7_1 := Lib.hid (HX6_1.out.sub hb7)
        obtain ⟨x1a, x1b, _, _⟩ := blk2 HX7_1.out
        have q1 := HX7_1.out.lt
        have HX7_2 := Lib.hid (HX6_2.out.sub hb7)
        obtain ⟨x2a, x2b, _, _⟩ := blk2 HX7_2.out
        have q2 := HX7_2.out.lt
        have HB_7 := Lib.hid (HB_6.out.trans (hb7.mono HB_6.out.size)); clear hb7
        clear HX6_0 HX6_1 HX6_2
        go_wp2_with fail
        go_ret
        exact ⟨rfl, HB_7.out⟩
      · have dlo : decide (n + 1 < m) = false := decide_eq_false hlo
        obtain rfl : p2 = false := by rw [hp2, dlo]
        clear hlow hrl hp2 h60
        go_wp2_with fail
        refine (HL.out _).mono ?_
        rintro e w4 ⟨rfl, hb4⟩
        rw [okV_form]
        clear x1 x2
        have HX4_0 := Lib.hid ((HX3.out.alloc _).sub hb4)
        obtain ⟨x0a, x0b, _, _⟩ := blk2 HX4_0.out
        have q0 := HX4_0.out.lt
        have HB_4 := Lib.hid (HB5.out.trans (hb4.mono HB5.out.size)); clear hb4
        clear HX3
        have HB_4a := Lib.hid (HB_4.out.alloc HB_4.out.size (.cells #[.int .i64 a1, .int .i64 a2] 23))
        have HN_4 := Lib.hid (Blk.new w4 23 #[.int .i64 a1, .int .i64 a2])
        go_wp2_with fail
        refine (HL2.out _).mono ?_
        rintro e w5 ⟨rfl, hb5⟩
        rw [okV_form]
        clear x0a x0b q0
        have HX5_0 := Lib.hid ((HX4_0.out.alloc _).sub hb5)
        obtain ⟨x0a, x0b, _, _⟩ := blk2 HX5_0.out
        have q0 := HX5_0.out.lt
        have HX5_1 := Lib.hid (HN_4.out.sub hb5)
        obtain ⟨x1a, x1b, _, _⟩ := blk2 HX5_1.out
        have q1 := HX5_1.out.lt
        have HB_5 := Lib.hid (HB_4a.out.trans (hb5.mono HB_4a.out.size)); clear hb5
        clear HX4_0 HN_4
        have HB_5a := Lib.hid (HB_5.out.alloc HB_5.out.size (.cells #[.int .i64 c1, .int .i64 c2] 23))
        have HN_5 := Lib.hid (Blk.new w5 23 #[.int .i64 c1, .int .i64 c2])
        go_wp2_with fail
        refine (HRL.out _).mono ?_
        rintro e w6 ⟨rfl, hb6⟩
        clear x0a x0b q0 x1a x1b q1
        have HX6_0 := Lib.hid ((HX5_0.out.alloc _).sub hb6)
        obtain ⟨x0a, x0b, _, _⟩ := blk2 HX6_0.out
        have q0 := HX6_0.out.lt
        have HX6_1 := Lib.hid ((HX5_1.out.alloc _).sub hb6)
        obtain ⟨x1a, x1b, _, _⟩ := blk2 HX6_1.out
        have q1 := HX6_1.out.lt
        have HX6_2 := Lib.hid (HN_5.out.sub hb6)
        obtain ⟨x2a, x2b, _, _⟩ := blk2 HX6_2.out
        have q2 := HX6_2.out.lt
        have HB_6 := Lib.hid (HB_5a.out.trans (hb6.mono HB_5a.out.size)); clear hb6
        clear HX5_0 HX5_1 HN_5
        go_wp2_with fail
        go_ret
        exact ⟨rfl, HB_6.out⟩
end Go.Proofs.Ytaaiklhkhgennaa
