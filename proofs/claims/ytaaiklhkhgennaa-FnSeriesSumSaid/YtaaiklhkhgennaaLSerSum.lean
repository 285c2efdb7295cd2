/- The walk of a law over series. -/
import Derived.Test.YtaaiklhkhgennaaSer3
import Derived.Test.YtaaiklhkhgennaaSer4
import Derived.Test.YtaaiklhkhgennaaSerP3
import Derived.Test.YtaaiklhkhgennaaLawKit
namespace Go.Proofs.Ytaaiklhkhgennaa
open Go.RowKit
attribute [local go_sem ↓] Go.wp_at_zero Go.wp_at_succ

set_option maxHeartbeats 2000000 in
theorem fnSeriesSum_walk (A : Option Addr) (n0 c0 : Nat) (A1 : Option Addr) (n1 c1 : Nat) (w : World) (hn : n0 ≤ maxLen) (hc : n0 ≤ c0) (hb : Bytes w w.heap.size A n0) (hn1 : n1 ≤ maxLen) (_ : n1 ≤ c1) (_ : Bytes w w.heap.size A1 n1) :
    Calls Try.prog 6 #[.slice A n0 c0, .slice A1 n1 c1] w fun e w' => e = .returned (.bool true) ∧ Below w.heap.size w w' := by
  unfold maxLen at hn hn1
  have HB := Lib.hid hb; clear hb
  have hB0 := Below.refl w.heap.size w
  by_cases hbign0 : 1048576 < n0
  · go_enter Try.func6, Try.ntmps6
    go_wp2_with fail
    go_ret
    exact ⟨rfl, hB0⟩
  by_cases hbign1 : 1048576 < n1
  · go_enter Try.func6, Try.ntmps6
    go_wp2_with fail
    go_ret
    exact ⟨rfl, hB0⟩
  clear hB0
  go_enter Try.func6, Try.ntmps6
  go_wp2_with fail
  refine (DrawSeriesLine_any A n0 c0 w (by omega) hc HB.out).mono ?_
  rintro e w1 ⟨n, m, rfl, hbd, hb1⟩
  have HB1 := Lib.hid hb1; clear hb1
  have HI := Lib.hid (fun W => implSeriesLine_any n m W)
  have HS := Lib.hid (fun W => specSeriesLine_any n m W)
  obtain ⟨r1, r2, ok, hser⟩ : ∃ r1 r2 ok, serB n m = ((r1, r2), ok) := ⟨_, _, _, rfl⟩
  rw [hser] at HS HI
  have HSER := Lib.hid hser; clear hser
  go_wp2_with fail
  refine (HI.out _).mono ?_
  rintro e w2 ⟨rfl, hb2⟩
  rw [okV_form]
  have HB2 := Lib.hid (HB1.out.trans (hb2.mono HB1.out.size)); clear hb2
  have HX := Lib.hid (Blk.new w2 23 #[.int .i64 r1, .int .i64 r2])
  have HB3 := Lib.hid (HB2.out.alloc HB2.out.size (.cells #[.int .i64 r1, .int .i64 r2] 23))
  go_wp2_with fail
  refine (HS.out _).mono ?_
  rintro e w3 ⟨rfl, hb3⟩
  rw [okV_form]
  have hs3 := hb3.size
  simp only [World.size_alloc] at hs3
  have HX3 := Lib.hid (HX.out.sub hb3)
  have HB4 := Lib.hid (HB3.out.trans (hb3.mono HB3.out.size)); clear hb3 HX HB3 HB2
  obtain ⟨x1, x2, _, _⟩ := blk2 HX3.out
  have q1 : w2.heap.size < w3.heap.size := by omega
  have HB5 := Lib.hid (HB4.out.alloc HB4.out.size (.cells #[.int .i64 r1, .int .i64 r2] 23))
  have eq1 : (r1 == r1) = true := by simp
  have eq2 : (r2 == r2) = true := by simp
  have ne1 : (r1 != r1) = false := by simp
  have ne2 : (r2 != r2) = false := by simp
  cases ok
  · go_wp2_with fail
    go_ret
    exact ⟨rfl, HB5.out⟩
  have hrange : 1 ≤ n ∧ n < m ∧ m ≤ 60 := by
    have h := HSER.out
    unfold serB at h
    split at h
    · assumption
    · cases h
  by_cases hn1 : m = n + 1
  · have en1 : (m == n + 1) = true := by simpa using hn1
    have HV := Lib.hid (fun W => implRatValid_any r1 r2 W)
    have hv := (ser1 hrange).2.1
    rw [HSER.out] at hv
    simp only at hv
    rw [hv] at HV
    clear hv hn1
    go_wp2_with fail
    refine (HV.out _).mono ?_
    rintro e w4 ⟨rfl, hb4⟩
    clear x1 x2
    have HX4_0 := Lib.hid ((HX3.out.alloc _).sub hb4)
    obtain ⟨x0a, x0b, _, _⟩ := blk2 HX4_0.out
    have q0 := HX4_0.out.lt
    have HB_4 := Lib.hid (HB5.out.trans (hb4.mono HB5.out.size)); clear hb4
    clear HX3
    go_wp2_with fail
    go_ret
    exact ⟨rfl, HB_4.out⟩
  have en1 : (m == n + 1) = false := by simpa using hn1
  have hdiv : 1 ≤ m - n - 1 := by omega
  have hm0 := Int.emod_nonneg (n1 : Int) (show m - n - 1 ≠ 0 by omega)
  have hm1 := Int.emod_lt_of_pos (n1 : Int) (show 0 < m - n - 1 by omega)
  have u7 : ¬ (m - n - 1 = 0) := by omega
  obtain ⟨k, hk⟩ : ∃ k : Int, n + 1 + (n1 : Int) % (m - n - 1) = k := ⟨_, rfl⟩
  have hkr : n < k ∧ k < m := by omega
  have HK := Lib.hid hk; clear hk
  have HL := Lib.hid (fun W => implSeriesLine_any n k W)
  obtain ⟨a1, a2, p, hHL⟩ : ∃ a1 a2 p, serB n k = ((a1, a2), p) := ⟨_, _, _, rfl⟩
  rw [hHL] at HL
  have HL2 := Lib.hid (fun W => implSeriesLine_any k m W)
  obtain ⟨c1, c2, p2, hHL2⟩ : ∃ c1 c2 p2, serB k m = ((c1, c2), p2) := ⟨_, _, _, rfl⟩
  rw [hHL2] at HL2
  have hyes := ser_yes (n := n) (m := k) (by omega)
  rw [hHL] at hyes
  obtain rfl : p = true := by cases hyes; rfl
  have hyes2 := ser_yes (n := k) (m := m) (by omega)
  rw [hHL2] at hyes2
  obtain rfl : p2 = true := by cases hyes2; rfl
  have HA := Lib.hid (fun W => implRatAdd_any a1 a2 c1 c2 W)
  obtain ⟨z1, z2, q, hHA⟩ : ∃ z1 z2 q, addB (a1, a2) (c1, c2) = ((z1, z2), q) := ⟨_, _, _, rfl⟩
  rw [hHA] at HA
  have hsum : q = true → z1 = r1 ∧ z2 = r2 := fun hq => by
    have := ser_sum (n := n) (k := k) (m := m) (by omega) (z := (z1, z2)) (by rw [hHL, hHL2]; rw [← hq]; exact hHA)
    rw [HSER.out] at this
    injection this with h1 h2
    exact ⟨h1, h2⟩
  clear hHL hHL2 hHA hyes hyes2
  cases q
  · clear hsum
    go_wp2_with fail
    rw [HK.out]
    go_wp2_with fail
    refine (HL.out _).mono ?_
    rintro e w4 ⟨rfl, hb4⟩
    rw [okV_form]
    clear x1 x2
    have HX4_0 := Lib.hid ((HX3.out.alloc _).sub hb4)
    obtain ⟨x0a, x0b, _, _⟩ := blk2 HX4_0.out
    have q0 := HX4_0.out.lt
    have HB_4 := Lib.hid (HB5.out.trans (hb4.mono HB5.out.size)); clear hb4
    clear HX3
    have HB_4a := Lib.hid (HB_4.out.alloc HB_4.out.size (.cells #[.int .i64 a1, .int .i64 a2] 23))
    have HN_4 := Lib.hid (Blk.new w4 23 #[.int .i64 a1, .int .i64 a2])
    go_wp2_with fail
    refine (HL2.out _).mono ?_
    rintro e w5 ⟨rfl, hb5⟩
    rw [okV_form]
    clear x0a x0b q0
    have HX5_0 := Lib.hid ((HX4_0.out.alloc _).sub hb5)
    obtain ⟨x0a, x0b, _, _⟩ := blk2 HX5_0.out
    have q0 := HX5_0.out.lt
    have HX5_1 := Lib.hid (HN_4.out.sub hb5)
    obtain ⟨x1a, x1b, _, _⟩ := blk2 HX5_1.out
    have q1 := HX5_1.out.lt
    have HB_5 := Lib.hid (HB_4a.out.trans (hb5.mono HB_4a.out.size)); clear hb5
    clear HX4_0 HN_4
    have HB_5a := Lib.hid (HB_5.out.alloc HB_5.out.size (.cells #[.int .i64 c1, .int .i64 c2] 23))
    have HN_5 := Lib.hid (Blk.new w5 23 #[.int .i64 c1, .int .i64 c2])
    go_wp2_with fail
    refine (HA.out _).mono ?_
    rintro e w6 ⟨rfl, hb6⟩
    rw [okV_form]
    clear x0a x0b q0 x1a x1b q1
    have HX6_0 := Lib.hid ((HX5_0.out.alloc _).sub hb6)
    obtain ⟨x0a, x0b, _, _⟩ := blk2 HX6_0.out
    have q0 := HX6_0.out.lt
    have HX6_1 := Lib.hid ((HX5_1.out.alloc _).sub hb6)
    obtain ⟨x1a, x1b, _, _⟩ := blk2 HX6_1.out
    have q1 := HX6_1.out.lt
    have HX6_2 := Lib.hid (HN_5.out.sub hb6)
    obtain ⟨x2a, x2b, _, _⟩ := blk2 HX6_2.out
    have q2 := HX6_2.out.lt
    have HB_6 := Lib.hid (HB_5a.out.trans (hb6.mono HB_5a.out.size)); clear hb6
    clear HX5_0 HX5_1 HN_5
    have HB_6a := Lib.hid (HB_6.out.alloc HB_6.out.size (.cells #[.int .i64 z1, .int .i64 z2] 23))
    have HN_6 := Lib.hid (Blk.new w6 23 #[.int .i64 z1, .int .i64 z2])
    go_wp2_with fail
    go_ret
    exact ⟨rfl, HB_6a.out⟩
  obtain ⟨rfl, rfl⟩ := hsum rfl
  clear hsum
  go_wp2_with fail
  rw [HK.out]
  go_wp2_with fail
  refine (HL.out _).mono ?_
  rintro e w4 ⟨rfl, hb4⟩
  rw [okV_form]
  clear x1 x2
  have HX4_0 := Lib.hid ((HX3.out.alloc _).sub hb4)
  obtain ⟨x0a, x0b, _, _⟩ := blk2 HX4_0.out
  have q0 := HX4_0.out.lt
  have HB_4 := Lib.hid (HB5.out.trans (hb4.mono HB5.out.size)); clear hb4
  clear HX3
  have HB_4a := Lib.hid (HB_4.out.alloc HB_4.out.size (.cells #[.int .i64 a1, .int .i64 a2] 23))
  have HN_4 := Lib.hid (Blk.new w4 23 #[.int .i64 a1, .int .i64 a2])
  go_wp2_with fail
  refine (HL2.out _).mono ?_
  rintro e w5 ⟨rfl, hb5⟩
  rw [okV_form]
  clear x0a x0b q0
  have HX5_0 := Lib.hid ((HX4_0.out.alloc _).sub hb5)
  obtain ⟨x0a, x0b, _, _⟩ := blk2 HX5_0.out
  have q0 := HX5_0.out.lt
  have HX5_1 := Lib.hid (HN_4.out.sub hb5)
  obtain ⟨x1a, x1b, _, _⟩ := blk2 HX5_1.out
  have q1 := HX5_1.out.lt
  have HB_5 := Lib.hid (HB_4a.out.trans (hb5.mono HB_4a.out.size)); clear hb5
  clear HX4_0 HN_4
  have HB_5a := Lib.hid (HB_5.out.alloc HB_5.out.size (.cells #[.int .i64 c1, .int .i64 c2] 23))
  have HN_5 := Lib.hid (Blk.new w5 23 #[.int .i64 c1, .int .i64 c2])
  go_wp2_with fail
  refine (HA.out _).mono ?_
  rintro e w6 ⟨rfl, hb6⟩
  rw [okV_form]
  clear x0a x0b q0 x1a x1b q1
  have HX6_0 := Lib.hid ((HX5_0.out.alloc _).sub hb6)
  obtain ⟨x0a, x0b, _, _⟩ := blk2 HX6_0.out
  have q0 := HX6_0.out.lt
  have HX6_1 := Lib.hid ((HX5_1.out.alloc _).sub hb6)
  obtain ⟨x1a, x1b, _, _⟩ := blk2 HX6_1.out
  have q1 := HX6_1.out.lt
  have HX6_2 := Lib.hid (HN_5.out.sub hb6)
  obtain ⟨x2a, x2b, _, _⟩ := blk2 HX6_2.out
  have q2 := HX6_2.out.lt
  have HB_6 := Lib.hid (HB_5a.out.trans (hb6.mono HB_5a.out.size)); clear hb6
  clear HX5_0 HX5_1 HN_5
  have HB_6a := Lib.hid (HB_6.out.alloc HB_6.out.size (.cells #[.int .i64 z1, .int .i64 z2] 23))
  have HN_6 := Lib.hid (Blk.new w6 23 #[.int .i64 z1, .int .i64 z2])
  go_wp2_with fail
  go_ret
  exact ⟨rfl, HB_6a.out⟩
end Go.Proofs.Ytaaiklhkhgennaa
