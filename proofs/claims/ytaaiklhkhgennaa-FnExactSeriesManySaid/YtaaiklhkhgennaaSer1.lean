/- The line of a series. -/
import Derived.Test.YtaaiklhkhgennaaRat3
namespace Go.Proofs.Ytaaiklhkhgennaa
open Go.RowKit
attribute [local go_sem ↓] Go.wp_at_zero Go.wp_at_succ

theorem ret_val {a b : Value} (h : a = b) : Ending.returned a = .returned b := by rw [h]
theorem okV_form (r : T2 × Bool) : okV r = .tuple #[.agg #[.int .i64 r.1.1, .int .i64 r.1.2], .bool r.2] := rfl

set_option maxHeartbeats 2000000 in
theorem specRatOf_any (num den : Int) (w : World) (n0 : den ≠ 0) (n1 : -4000000000000000000 ≤ num ∧ num ≤ 4000000000000000000) (n2 : -4000000000000000000 ≤ den ∧ den ≤ 4000000000000000000) :
    Calls Try.prog 34 #[.int .i64 num, .int .i64 den] w fun e w' => e = .returned (okV (ratOf num den)) ∧ Below w.heap.size w w' := by
  have he : ratOf num den = mkB num den := by
    unfold ratOf
    rw [if_neg]
    rintro (h | h | h)
    · exact n0 h
    · rw [inB_iff.2 n1] at h; cases h
    · rw [inB_iff.2 n2] at h; cases h
  rw [he]; clear he
  have HM := Lib.hid (fun W => specMake_any num den W n0 n1.1 n1.2 n2.1 n2.2)
  have HD := Lib.hid (Blk.new w 23 #[.int .i64 0, .int .i64 0])
  have HB1 := Lib.hid ((Below.refl w.heap.size w).alloc (Nat.le_refl _) (.cells #[.int .i64 0, .int .i64 0] 23))
  have h1 := Lib.hid (inB_iff.2 n1)
  have h2 := Lib.hid (inB_iff.2 n2)
  have dz : (den == 0) = false := by simpa using n0
  generalize mkB num den = r at *
  go_enter Try.func34, Try.ntmps34
  go_wp2_with fail
  refine (l6In_any _ _ _ _).mono ?_
  rintro e w1 ⟨rfl, rfl⟩
  rw [h1.out]
  go_wp2_with fail
  refine (l6In_any _ _ _ _).mono ?_
  rintro e w1 ⟨rfl, rfl⟩
  rw [h2.out]
  go_wp2_with fail
  refine (HM.out _).mono ?_
  rintro e w3 ⟨rfl, hb3⟩
  rw [okV_form]
  have HB3 := Lib.hid (HB1.out.trans (hb3.mono HB1.out.size))
  have HX4 := Lib.hid (HD.out.sub hb3)
  obtain ⟨y1, y2, y3, y4⟩ := blk2 HX4.out
  have HZ := Lib.hid ((HX4.out.set 0 (.int .i64 r.1.1)).set 1 (.int .i64 r.1.2))
  have HB4 := Lib.hid ((HB3.out.setCell (p := ⟨w.heap.size, 0, none⟩) (Nat.le_refl _) (.int .i64 r.1.1)).setCell (p := ⟨w.heap.size, 1, none⟩) (Nat.le_refl _) (.int .i64 r.1.2))
  go_wp2_with fail
  refine bodyPost_ret (results_rat_tmp rfl _ _ w.heap.size _ _ rfl HZ.out Try.underlying23 rfl (by kernel_rfl)) rfl ?_
  exact ⟨rfl, HB4.out⟩

/-- The line between two levels. -/
def serB (n m : Int) : T2 × Bool := if 1 ≤ n ∧ n < m ∧ m ≤ 60 then ratOf (m * m - n * n) (n * n * m * m) else ((0, 0), false)
theorem ser_bd {n m : Int} (h1 : 1 ≤ n) (h2 : n ≤ 60) (h3 : 1 ≤ m) (h4 : m ≤ 60) :
    (1 ≤ n * n ∧ n * n ≤ 3600) ∧ (1 ≤ m * m ∧ m * m ≤ 3600) ∧ (1 ≤ n * n * m ∧ n * n * m ≤ 216000) ∧ (1 ≤ n * n * m * m ∧ n * n * m * m ≤ 12960000) := by
  have a1 : 1 * 1 ≤ n * n := Int.mul_le_mul h1 h1 (by omega) (by omega)
  have a2 : n * n ≤ 60 * 60 := Int.mul_le_mul h2 h2 (by omega) (by omega)
  have b1 : 1 * 1 ≤ m * m := Int.mul_le_mul h3 h3 (by omega) (by omega)
  have b2 : m * m ≤ 60 * 60 := Int.mul_le_mul h4 h4 (by omega) (by omega)
  have c1 : 1 * 1 ≤ n * n * m := Int.mul_le_mul (by omega) h3 (by omega) (by omega)
  have c2 : n * n * m ≤ 3600 * 60 := Int.mul_le_mul (by omega) h4 (by omega) (by omega)
  have d1 : 1 * 1 ≤ n * n * m * m := Int.mul_le_mul (by omega) h3 (by omega) (by omega)
  have d2 : n * n * m * m ≤ 216000 * 60 := Int.mul_le_mul (by omega) h4 (by omega) (by omega)
  omega

set_option maxHeartbeats 2000000 in
theorem line_any (n m : Int) (w : World) (h1 : 1 ≤ n) (h2 : n < m) (h3 : m ≤ 60) :
    Calls Try.prog 35 #[.int .i64 n, .int .i64 m] w fun e w' => e = .returned (okV (serB n m)) ∧ Below w.heap.size w w' := by
  obtain ⟨a, b, c, d⟩ := ser_bd (n := n) (m := m) h1 (by omega) (by omega) h3
  have hs : serB n m = ratOf (m * m - n * n) (n * n * m * m) := by unfold serB; rw [if_pos ⟨h1, h2, h3⟩]
  rw [hs]; clear hs
  have HM := Lib.hid (fun W => implRatOf_any (m * m - n * n) (n * n * m * m) W)
  have HD := Lib.hid (Blk.new w 23 #[.int .i64 0, .int .i64 0])
  have HB1 := Lib.hid ((Below.refl w.heap.size w).alloc (Nat.le_refl _) (.cells #[.int .i64 0, .int .i64 0] 23))
  generalize ratOf (m * m - n * n) (n * n * m * m) = r at *
  go_enter Try.func35, Try.ntmps35
  go_wp2_with fail
  refine (HM.out _).mono ?_
  rintro e w3 ⟨rfl, hb3⟩
  rw [okV_form]
  have HB3 := Lib.hid (HB1.out.trans (hb3.mono HB1.out.size))
  have HX4 := Lib.hid (HD.out.sub hb3)
  obtain ⟨y1, y2, y3, y4⟩ := blk2 HX4.out
  have HZ := Lib.hid ((HX4.out.set 0 (.int .i64 r.1.1)).set 1 (.int .i64 r.1.2))
  have HB4 := Lib.hid ((HB3.out.setCell (p := ⟨w.heap.size, 0, none⟩) (Nat.le_refl _) (.int .i64 r.1.1)).setCell (p := ⟨w.heap.size, 1, none⟩) (Nat.le_refl _) (.int .i64 r.1.2))
  go_wp2_with fail
  refine bodyPost_ret (results_rat_tmp rfl _ _ w.heap.size _ _ rfl HZ.out Try.underlying23 rfl (by kernel_rfl)) rfl ?_
  exact ⟨rfl, HB4.out⟩

set_option maxHeartbeats 2000000 in
theorem implSeriesLine_any (n m : Int) (w : World) :
    Calls Try.prog 16 #[.int .i64 n, .int .i64 m] w fun e w' => e = .returned (okV (serB n m)) ∧ Below w.heap.size w w' := by
  have HD := Lib.hid (Blk.new w 23 #[.int .i64 0, .int .i64 0])
  have HB1 := Lib.hid ((Below.refl w.heap.size w).alloc (Nat.le_refl _) (.cells #[.int .i64 0, .int .i64 0] 23))
  have hcases : (n < 1 ∨ m ≤ n ∨ 60 < m) ∨ (1 ≤ n ∧ n < m ∧ m ≤ 60) := by omega
  rcases hcases with hbad | ⟨h1, h2, h3⟩
  · have he : serB n m = ((0, 0), false) := by unfold serB; rw [if_neg (by omega)]
    rw [he]; clear he
    rcases hbad with h | h | h
    all_goals
      go_enter Try.func16, Try.ntmps16
      go_wp2_with fail
      all_goals
        refine bodyPost_ret (v := okV ((0, 0), false)) (by simp [results, Try.results16, go_sem]; rfl) rfl ?_
        refine ⟨rfl, ?_⟩
        repeat (first | exact Below.refl _ _ | refine Below.alloc ?_ (by simp; try omega) _ | refine Below.setCell ?_ (by simp; try omega) _)
  · have HM := Lib.hid (fun W => line_any n m W h1 h2 h3)
    generalize serB n m = r at *
    go_enter Try.func16, Try.ntmps16
    go_wp2_with fail
    refine (HM.out _).mono ?_
    rintro e w3 ⟨rfl, hb3⟩
    rw [okV_form]
    have HB3 := Lib.hid (HB1.out.trans (hb3.mono HB1.out.size))
    have HX4 := Lib.hid (HD.out.sub hb3)
    obtain ⟨y1, y2, y3, y4⟩ := blk2 HX4.out
    have HZ := Lib.hid ((HX4.out.set 0 (.int .i64 r.1.1)).set 1 (.int .i64 r.1.2))
    have HB4 := Lib.hid ((HB3.out.setCell (p := ⟨w.heap.size, 0, none⟩) (Nat.le_refl _) (.int .i64 r.1.1)).setCell (p := ⟨w.heap.size, 1, none⟩) (Nat.le_refl _) (.int .i64 r.1.2))
    go_wp2_with fail
    refine bodyPost_ret (results_rat_tmp rfl _ _ w.heap.size _ _ rfl HZ.out Try.underlying23 rfl (by kernel_rfl)) rfl ?_
    exact ⟨rfl, HB4.out⟩

set_option maxHeartbeats 2000000 in
theorem specSeriesLine_any (n m : Int) (w : World) :
    Calls Try.prog 15 #[.int .i64 n, .int .i64 m] w fun e w' => e = .returned (okV (serB n m)) ∧ Below w.heap.size w w' := by
  have HD := Lib.hid (Blk.new w 23 #[.int .i64 0, .int .i64 0])
  have HB1 := Lib.hid ((Below.refl w.heap.size w).alloc (Nat.le_refl _) (.cells #[.int .i64 0, .int .i64 0] 23))
  cases c1 : inB n 1 60
  · have he : serB n m = ((0, 0), false) := by have := inB_not.1 c1; unfold serB; rw [if_neg (by omega)]
    rw [he]; clear he
    have C1 := Lib.hid c1; clear c1
    go_enter Try.func15, Try.ntmps15
    go_wp2_with fail
    refine (l6In_any _ _ _ _).mono ?_
    rintro e w1 ⟨rfl, rfl⟩
    rw [C1.out]
    go_wp2_with fail
    refine bodyPost_ret (v := okV ((0, 0), false)) (by simp [results, Try.results15, go_sem]; rfl) rfl ?_
    refine ⟨rfl, ?_⟩
    repeat (first | exact Below.refl _ _ | refine Below.alloc ?_ (by simp; try omega) _ | refine Below.setCell ?_ (by simp; try omega) _)
  have b1 := inB_iff.1 c1
  have C1 := Lib.hid c1; clear c1
  cases c2 : inB m (n + 1) 60
  · have he : serB n m = ((0, 0), false) := by have := inB_not.1 c2; unfold serB; rw [if_neg (by omega)]
    rw [he]; clear he
    have C2 := Lib.hid c2; clear c2
    go_enter Try.func15, Try.ntmps15
    go_wp2_with fail
    refine (l6In_any _ _ _ _).mono ?_
    rintro e w1 ⟨rfl, rfl⟩
    rw [C1.out]
    go_wp2_with fail
    refine (l6In_any _ _ _ _).mono ?_
    rintro e w1 ⟨rfl, rfl⟩
    rw [C2.out]
    go_wp2_with fail
    refine bodyPost_ret (v := okV ((0, 0), false)) (by simp [results, Try.results15, go_sem]; rfl) rfl ?_
    refine ⟨rfl, ?_⟩
    repeat (first | exact Below.refl _ _ | refine Below.alloc ?_ (by simp; try omega) _ | refine Below.setCell ?_ (by simp; try omega) _)
  · have b2 := inB_iff.1 c2
    have C2 := Lib.hid c2; clear c2
    obtain ⟨a, b, c, d⟩ := ser_bd (n := n) (m := m) (by omega) (by omega) (by omega) (by omega)
    have hs : serB n m = ratOf (m * m - n * n) (n * n * m * m) := by unfold serB; rw [if_pos (by omega)]
    rw [hs]; clear hs
    have HM := Lib.hid (fun W => specRatOf_any (m * m - n * n) (n * n * m * m) W (by omega) (by omega) (by omega))
    generalize ratOf (m * m - n * n) (n * n * m * m) = r at *
    go_enter Try.func15, Try.ntmps15
    go_wp2_with fail
    refine (l6In_any _ _ _ _).mono ?_
    rintro e w1 ⟨rfl, rfl⟩
    rw [C1.out]
    go_wp2_with fail
    refine (l6In_any _ _ _ _).mono ?_
    rintro e w1 ⟨rfl, rfl⟩
    rw [C2.out]
    go_wp2_with fail
    refine (HM.out _).mono ?_
    rintro e w3 ⟨rfl, hb3⟩
    rw [okV_form]
    have HB3 := Lib.hid (HB1.out.trans (hb3.mono HB1.out.size))
    have HX4 := Lib.hid (HD.out.sub hb3)
    obtain ⟨y1, y2, y3, y4⟩ := blk2 HX4.out
    have HZ := Lib.hid ((HX4.out.set 0 (.int .i64 r.1.1)).set 1 (.int .i64 r.1.2))
    have HB4 := Lib.hid ((HB3.out.setCell (p := ⟨w.heap.size, 0, none⟩) (Nat.le_refl _) (.int .i64 r.1.1)).setCell (p := ⟨w.heap.size, 1, none⟩) (Nat.le_refl _) (.int .i64 r.1.2))
    go_wp2_with fail
    refine bodyPost_ret (results_rat_tmp rfl _ _ w.heap.size _ _ rfl HZ.out Try.underlying23 rfl (by kernel_rfl)) rfl ?_
    exact ⟨rfl, HB4.out⟩
end Go.Proofs.Ytaaiklhkhgennaa
