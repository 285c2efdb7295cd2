/- Plain facts of the lines of series: all pairs, by reckoning. -/
import Derived.Test.YtaaiklhkhgennaaSer1
import Derived.Test.YtaaiklhkhgennaaSer4
namespace Go.Proofs.Ytaaiklhkhgennaa

def chk1 (n m : Nat) : Bool := !(decide (1 ≤ n) && decide (n < m)) ||
  ((serB n m).2 && rvB (serB n m).1 && rlB (serB n m).1 (1, n * n) && decide (0 < (serB n m).1.1) && ((ratOf 1 (n * n)) == ((1, (n : Int) * n), true)))
theorem chk1_all : ∀ n, n < 61 → ∀ m, m < 61 → chk1 n m = true := by decide +kernel
theorem nat_of {n m : Int} (h : 1 ≤ n ∧ n < m ∧ m ≤ 60) : ∃ a b : Nat, n = a ∧ m = b ∧ 1 ≤ a ∧ a < b ∧ b ≤ 60 := ⟨n.toNat, m.toNat, by omega, by omega, by omega, by omega, by omega⟩
theorem ser1 {n m : Int} (h : 1 ≤ n ∧ n < m ∧ m ≤ 60) : (serB n m).2 = true ∧ rvB (serB n m).1 = true ∧ rlB (serB n m).1 (1, n * n) = true ∧ 0 < (serB n m).1.1 ∧ ratOf 1 (n * n) = ((1, n * n), true) := by
  obtain ⟨a, b, rfl, rfl, h1, h2, h3⟩ := nat_of h
  have := chk1_all a (by omega) b (by omega)
  simp only [chk1, decide_eq_true h1, decide_eq_true h2, Bool.and_self, Bool.not_true, Bool.false_or, Bool.and_eq_true, decide_eq_true_eq, beq_iff_eq] at this
  obtain ⟨⟨⟨⟨k1, k2⟩, k3⟩, k4⟩, k5⟩ := this
  exact ⟨k1, k2, k3, k4, k5⟩
end Go.Proofs.Ytaaiklhkhgennaa
