/- Rationals are compared. -/
import Derived.Test.YtaaiklhkhgennaaSer2
namespace Go.Proofs.Ytaaiklhkhgennaa
open Go.RowKit
attribute [local go_sem ↓] Go.wp_at_zero Go.wp_at_succ

theorem mul_bd {x y A B : Int} (hx : -A ≤ x ∧ x ≤ A) (hy : -B ≤ y ∧ y ≤ B) : -(A * B) ≤ x * y ∧ x * y ≤ A * B := by
  have h : (x * y).natAbs = x.natAbs * y.natAbs := Int.natAbs_mul x y
  have h1 : x.natAbs ≤ A.natAbs := by omega
  have h2 : y.natAbs ≤ B.natAbs := by omega
  have h3 : x.natAbs * y.natAbs ≤ A.natAbs * B.natAbs := Nat.mul_le_mul h1 h2
  have h4 : (A * B).natAbs = A.natAbs * B.natAbs := Int.natAbs_mul A B
  have h5 : 0 ≤ A * B := Int.mul_nonneg (by omega) (by omega)
  omega
theorem rvB_bd {a b : Int} (h : rvB (a, b) = true) : (1 ≤ b ∧ b ≤ 1000000000) ∧ (-1000000000 ≤ a ∧ a ≤ 1000000000) := by
  simp only [rvB, Bool.and_eq_true, inB_iff] at h
  exact h.1

set_option maxHeartbeats 1000000 in
theorem compare_any (a b c d : Int) (w : World) (ha : -1000000000 ≤ a ∧ a ≤ 1000000000) (hb : -1000000000 ≤ b ∧ b ≤ 1000000000) (hc : -1000000000 ≤ c ∧ c ≤ 1000000000) (hd : -1000000000 ≤ d ∧ d ≤ 1000000000) :
    Calls Try.prog 39 #[.agg #[.int .i64 a, .int .i64 b], .agg #[.int .i64 c, .int .i64 d]] w fun e w' => e = .returned (.int .i64 (cmpI (a * d) (c * b))) ∧ Below w.heap.size w w' := by
  have HB : Hid (∀ o1 o2, Below w.heap.size w ((w.alloc o1).alloc o2)) := fun o1 o2 => (((Below.refl _ _).alloc (Nat.le_refl _) _).alloc (by simp) _)
  have m1 := mul_bd ha hd
  have m2 := mul_bd hc hb
  have HC := Lib.hid (fun W => cmp_any (a * d) (c * b) W)
  generalize cmpI (a * d) (c * b) = r at *
  go_enter Try.func39, Try.ntmps39
  go_wp2_with fail
  refine (HC.out _).mono ?_
  rintro e w1 ⟨rfl, rfl⟩
  go_wp2_with fail
  go_ret
  exact ⟨rfl, HB.out _ _⟩

def rlB (a b : T2) : Bool := (rvB a && rvB b) && decide (a.1 * b.2 < b.1 * a.2)
set_option maxHeartbeats 1000000 in
theorem implRatLess_any (a b c d : Int) (w : World) :
    Calls Try.prog 26 #[.agg #[.int .i64 a, .int .i64 b], .agg #[.int .i64 c, .int .i64 d]] w fun e w' => e = .returned (.bool (rlB (a, b) (c, d))) ∧ Below w.heap.size w w' := by
  have HB1 := Lib.hid (((Below.refl w.heap.size w).alloc (Nat.le_refl _) (.cells #[.int .i64 a, .int .i64 b] 23)).alloc (by simp) (.cells #[.int .i64 c, .int .i64 d] 23))
  have HX := Lib.hid ((Blk.new w 23 #[.int .i64 a, .int .i64 b]).alloc (.cells #[.int .i64 c, .int .i64 d] 23))
  have hy := Blk.new (w.alloc (.cells #[.int .i64 a, .int .i64 b] 23)) 23 #[.int .i64 c, .int .i64 d]
  rw [World.size_alloc] at hy
  have HY := Lib.hid hy; clear hy
  have H1 := Lib.hid (fun W => implRatValid_any a b W)
  have H2 := Lib.hid (fun W => implRatValid_any c d W)
  obtain ⟨r, hr⟩ : ∃ r, rlB (a, b) (c, d) = r := ⟨_, rfl⟩
  rw [hr]
  have HR := Lib.hid hr; clear hr
  cases v1 : rvB (a, b)
  · have he : r = false := by rw [← HR.out]; simp [rlB, v1]
    have HE := Lib.hid he; clear he HR
    rw [v1] at H1
    clear v1
    go_enter Try.func26, Try.ntmps26
    go_wp2_with fail
    refine (H1.out _).mono ?_
    rintro e w1 ⟨rfl, hb1⟩
    have HB2 := Lib.hid (HB1.out.trans (hb1.mono HB1.out.size)); clear hb1
    go_wp2_with fail
    go_ret
    exact ⟨ret_bool HE.out.symm, HB2.out⟩
  rw [v1] at H1
  cases v2 : rvB (c, d)
  · have he : r = false := by rw [← HR.out]; simp [rlB, v2]
    have HE := Lib.hid he; clear he HR
    rw [v2] at H2
    clear v1 v2
    go_enter Try.func26, Try.ntmps26
    go_wp2_with fail
    refine (H1.out _).mono ?_
    rintro e w1 ⟨rfl, hb1⟩
    have HB2 := Lib.hid (HB1.out.trans (hb1.mono HB1.out.size))
    obtain ⟨y1, y2, _, _⟩ := blk2 (HY.out.sub hb1)
    clear hb1
    go_wp2_with fail
    refine (H2.out _).mono ?_
    rintro e w2 ⟨rfl, hb2⟩
    have HB3 := Lib.hid (HB2.out.trans (hb2.mono HB2.out.size)); clear hb2
    go_wp2_with fail
    go_ret
    exact ⟨ret_bool HE.out.symm, HB3.out⟩
  rw [v2] at H2
  have e1 := rvB_bd v1
  have e2 := rvB_bd v2
  have HC := Lib.hid (fun W => compare_any a b c d W (by omega) (by omega) (by omega) (by omega))
  have he : r = decide (cmpI (a * d) (c * b) < 0) := by
    rw [← HR.out]
    simp only [rlB, v1, v2, Bool.and_self, Bool.true_and]
    apply decide_eq_decide.2
    unfold cmpI
    generalize a * d = x
    generalize c * b = y
    split
    · constructor <;> intro h <;> omega
    · split <;> constructor <;> intro h <;> omega
  have HE := Lib.hid he; clear he HR v1 v2
  generalize cmpI (a * d) (c * b) = q at *
  go_enter Try.func26, Try.ntmps26
  go_wp2_with fail
  refine (H1.out _).mono ?_
  rintro e w1 ⟨rfl, hb1⟩
  have HB2 := Lib.hid (HB1.out.trans (hb1.mono HB1.out.size))
  have HX1 := Lib.hid (HX.out.sub hb1)
  have HY1 := Lib.hid (HY.out.sub hb1)
  obtain ⟨y1, y2, _, _⟩ := blk2 HY1.out
  clear hb1 HX HY
  go_wp2_with fail
  refine (H2.out _).mono ?_
  rintro e w2 ⟨rfl, hb2⟩
  have HB3 := Lib.hid (HB2.out.trans (hb2.mono HB2.out.size))
  clear y1 y2
  obtain ⟨y1, y2, _, _⟩ := blk2 (HY1.out.sub hb2)
  obtain ⟨x1, x2, _, _⟩ := blk2 (HX1.out.sub hb2)
  clear hb2
  go_wp2_with fail
  refine (HC.out _).mono ?_
  rintro e w3 ⟨rfl, hb3⟩
  have HB4 := Lib.hid (HB3.out.trans (hb3.mono HB3.out.size)); clear hb3
  go_wp2_with fail
  go_ret
  exact ⟨ret_bool HE.out.symm, HB4.out⟩
end Go.Proofs.Ytaaiklhkhgennaa
