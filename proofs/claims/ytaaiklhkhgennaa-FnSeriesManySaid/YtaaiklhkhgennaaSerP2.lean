/- Plain facts of the lines of series: all pairs, by reckoning. -/
import Derived.Test.YtaaiklhkhgennaaSerP
import Derived.Test.YtaaiklhkhgennaaSer6
namespace Go.Proofs.Ytaaiklhkhgennaa

def chk2 (n m : Nat) : Bool := !(decide (1 ≤ n) && decide (n < m)) ||
  (decide (30 < m) || ((serB (2 * n) (2 * m)).2 && (mulB (serB n m).1 (1, 4) == serB (2 * n) (2 * m))))
theorem chk2_all : ∀ n, n < 61 → ∀ m, m < 61 → chk2 n m = true := by decide +kernel
theorem ser_dbl {n m : Int} (h : 1 ≤ n ∧ n < m ∧ m ≤ 60) (h2 : m ≤ 30) : (serB (2 * n) (2 * m)).2 = true ∧ mulB (serB n m).1 (1, 4) = serB (2 * n) (2 * m) := by
  obtain ⟨a, b, rfl, rfl, h1, h2, h3⟩ := nat_of h
  have := chk2_all a (by omega) b (by omega)
  simp only [chk2, decide_eq_true h1, decide_eq_true h2, decide_eq_false (show ¬ 30 < b by omega), Bool.and_self, Bool.not_true, Bool.false_or, Bool.and_eq_true, beq_iff_eq] at this
  exact this
def chk3 (n m : Nat) : Bool := !(decide (1 ≤ n) && decide (n < m)) ||
  ((decide (59 < m) || rlB (serB n m).1 (serB n (m + 1 : Nat)).1) && (decide (m ≤ n + 1) || rlB (serB (n + 1 : Nat) m).1 (serB n m).1))
theorem chk3_all : ∀ n, n < 61 → ∀ m, m < 61 → chk3 n m = true := by decide +kernel
theorem ser_rise {n m : Int} (h : 1 ≤ n ∧ n < m ∧ m ≤ 60) (h2 : m ≤ 59) : rlB (serB n m).1 (serB n (m + 1)).1 = true := by
  obtain ⟨a, b, rfl, rfl, h1, h3, h4⟩ := nat_of h
  have := chk3_all a (by omega) b (by omega)
  simp only [chk3, decide_eq_true h1, decide_eq_true h3, decide_eq_false (show ¬ 59 < b by omega), Bool.and_self, Bool.not_true, Bool.false_or, Bool.and_eq_true] at this
  exact this.1
theorem ser_low {n m : Int} (h : 1 ≤ n ∧ n < m ∧ m ≤ 60) (h2 : n + 1 < m) : rlB (serB (n + 1) m).1 (serB n m).1 = true := by
  obtain ⟨a, b, rfl, rfl, h1, h3, h4⟩ := nat_of h
  have := chk3_all a (by omega) b (by omega)
  simp only [chk3, decide_eq_true h1, decide_eq_true h3, decide_eq_false (show ¬ b ≤ a + 1 by omega), Bool.and_self, Bool.not_true, Bool.false_or, Bool.and_eq_true] at this
  exact this.2
def chk4 (n m : Nat) : Bool := !(decide (1 ≤ n) && decide (n + 1 < m) && decide (m < 60)) ||
  (let a := subB (serB n (m + 1 : Nat)).1 (serB n m).1; let b := subB (serB n m).1 (serB n (m - 1 : Nat)).1; !a.2 || !b.2 || rlB a.1 b.1)
theorem chk4_all : ∀ n, n < 61 → ∀ m, m < 61 → chk4 n m = true := by decide +kernel
theorem ser_closer {n m : Int} (h : 1 ≤ n ∧ n < m ∧ m ≤ 60) (h2 : n + 1 < m) (h3 : m ≤ 59) :
    (!(subB (serB n (m + 1)).1 (serB n m).1).2 || !(subB (serB n m).1 (serB n (m - 1)).1).2 || rlB (subB (serB n (m + 1)).1 (serB n m).1).1 (subB (serB n m).1 (serB n (m - 1)).1).1) = true := by
  obtain ⟨a, b, rfl, rfl, h1, h4, h5⟩ := nat_of h
  have := chk4_all a (by omega) b (by omega)
  simp only [chk4, decide_eq_true h1, decide_eq_true (show a + 1 < b by omega), decide_eq_true (show b < 60 by omega), Bool.and_self, Bool.not_true, Bool.false_or] at this
  rw [show ((b : Int) - 1) = ((b - 1 : Nat) : Int) by omega]
  exact this
/-- The lines of a level rise. -/
theorem rlB_iff {a b : T2} : rlB a b = true ↔ rvB a = true ∧ rvB b = true ∧ a.1 * b.2 < b.1 * a.2 := by
  simp [rlB, and_assoc]
theorem rlB_trans {a b c : T2} (h : rlB a b = true) (h' : rlB b c = true) : rlB a c = true := by
  obtain ⟨ha, hb, h1⟩ := rlB_iff.1 h
  obtain ⟨_, hc, h2⟩ := rlB_iff.1 h'
  refine rlB_iff.2 ⟨ha, hc, ?_⟩
  obtain ⟨a1, a2⟩ := a
  obtain ⟨b1, b2⟩ := b
  obtain ⟨c1, c2⟩ := c
  have ka := (rvB_bd ha).1.1
  have kb := (rvB_bd hb).1.1
  have kc := (rvB_bd hc).1.1
  simp only at h1 h2 ⊢
  have m1 : a1 * b2 * c2 < b1 * a2 * c2 := Int.mul_lt_mul_of_pos_right h1 (by omega)
  have m2 : b1 * c2 * a2 < c1 * b2 * a2 := Int.mul_lt_mul_of_pos_right h2 (by omega)
  have e1 : b1 * a2 * c2 = b1 * c2 * a2 := by rw [Int.mul_assoc, Int.mul_comm a2 c2, ← Int.mul_assoc]
  have m3 : a1 * c2 * b2 < c1 * a2 * b2 := by
    have e2 : a1 * c2 * b2 = a1 * b2 * c2 := by rw [Int.mul_assoc, Int.mul_comm c2 b2, ← Int.mul_assoc]
    have e3 : c1 * a2 * b2 = c1 * b2 * a2 := by rw [Int.mul_assoc, Int.mul_comm a2 b2, ← Int.mul_assoc]
    omega
  exact Int.lt_of_mul_lt_mul_right m3 (by omega)
theorem ser_far {n m : Int} (h : 1 ≤ n ∧ n < m) (d : Nat) : m + (d + 1 : Nat) ≤ 60 → rlB (serB n m).1 (serB n (m + (d + 1 : Nat))).1 = true := by
  induction d with
  | zero => intro hd; have := ser_rise (n := n) (m := m) (by omega) (by omega); exact this
  | succ d ih =>
    intro hd
    have h1 := ih (by omega)
    have h2 := ser_rise (n := n) (m := m + (d + 1 : Nat)) (by omega) (by omega)
    rw [show m + ((d + 1 + 1 : Nat) : Int) = m + ((d + 1 : Nat) : Int) + 1 by omega]
    exact rlB_trans h1 h2
theorem ser_lt {n m k : Int} (h : 1 ≤ n ∧ n < m) (hk : m < k ∧ k ≤ 60) : rlB (serB n m).1 (serB n k).1 = true := by
  have := ser_far h (k - m - 1).toNat (by omega)
  rwa [show m + (((k - m - 1).toNat + 1 : Nat) : Int) = k by omega] at this
theorem ser_no {n m : Int} (h : ¬ (1 ≤ n ∧ n < m ∧ m ≤ 60)) : serB n m = ((0, 0), false) := by unfold serB; rw [if_neg h]
theorem ser_yes {n m : Int} (h : 1 ≤ n ∧ n < m ∧ m ≤ 60) : serB n m = (((serB n m).1.1, (serB n m).1.2), true) := by rw [← (ser1 h).1]
end Go.Proofs.Ytaaiklhkhgennaa
