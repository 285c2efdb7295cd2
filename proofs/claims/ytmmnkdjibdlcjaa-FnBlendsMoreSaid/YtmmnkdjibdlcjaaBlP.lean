/- Blends: plain facts of sums, means, gaps. -/
import Derived.Test.YtmmnkdjibdlcjaaBl1
import Derived.Test.YtmmnkdjibdlcjaaRat5
namespace Go.Proofs.Ytmmnkdjibdlcjaa

def psum (xs : List Int) : Nat → Int
  | 0 => 0
  | k + 1 => psum xs k + gi xs k
def InB (xs : List Int) (m : Int) : Prop := ∀ t ∈ xs, 0 ≤ t ∧ t ≤ m
theorem InB.at {xs : List Int} {m : Int} (h : InB xs m) {k : Nat} (hk : k < xs.length) : 0 ≤ gi xs k ∧ gi xs k ≤ m := h _ (gi_mem hk)
theorem psum_bd {xs : List Int} {m : Int} (h : InB xs m) (k : Nat) (hk : k ≤ xs.length) : 0 ≤ psum xs k ∧ psum xs k ≤ m * k := by
  induction k with
  | zero => simp [psum]
  | succ k ih =>
    have := ih (by omega)
    have h2 := h.at (k := k) (by omega)
    have e : m * ((k + 1 : Nat) : Int) = m * (k : Int) + m := by rw [Int.natCast_succ, Int.mul_add, Int.mul_one]
    show 0 ≤ psum xs k + gi xs k ∧ psum xs k + gi xs k ≤ _
    omega
/-- The mean. -/
def bmB (xs : List Int) : T2 × Bool := if xs.length = 0 then ((0, 0), false) else ratOf (psum xs xs.length) (xs.length : Int)
theorem psum_snoc (xs : List Int) (x : Int) (k : Nat) (hk : k ≤ xs.length) : psum (xs ++ [x]) k = psum xs k := by
  induction k with
  | zero => rfl
  | succ k ih =>
    show psum (xs ++ [x]) k + gi (xs ++ [x]) k = psum xs k + gi xs k
    rw [ih (by omega), gi_snoc_lt (by omega)]
theorem psum_eq (xs : List Int) : psum xs xs.length = xs.sum := by
  have : ∀ k, k ≤ xs.length → psum xs k = (xs.take k).sum := by
    intro k
    induction k with
    | zero => intro _; simp [psum]
    | succ k ih =>
      intro hk
      rw [take_snoc (by omega), List.sum_append]
      show psum xs k + gi xs k = _
      rw [ih (by omega)]; simp
  rw [this _ (Nat.le_refl _), List.take_length]
theorem bmB_reverse (xs : List Int) : bmB xs.reverse = bmB xs := by
  unfold bmB
  rw [psum_eq, psum_eq, List.length_reverse, List.sum_reverse]
/-- Ascending. -/
def ascB (xs : List Int) : Bool := (List.range (xs.length - 1)).all fun i => decide (gi xs i < gi xs (i + 1))
theorem ascB_iff {xs : List Int} : ascB xs = true ↔ ∀ i, i + 1 < xs.length → gi xs i < gi xs (i + 1) := by
  unfold ascB
  rw [List.all_eq_true]
  constructor
  · intro h i hi
    have := h i (List.mem_range.2 (by omega))
    simpa using this
  · intro h i hi
    simpa using h i (by have := List.mem_range.1 hi; omega)
theorem asc_le {xs : List Int} (h : ascB xs = true) {i j : Nat} (hij : i ≤ j) (hj : j < xs.length) : gi xs i ≤ gi xs j := by
  induction j with
  | zero => obtain rfl : i = 0 := by omega
            exact Int.le_refl _
  | succ j ih =>
    rcases Nat.lt_or_ge i (j + 1) with h1 | h1
    · have := ih (by omega) (by omega)
      have := ascB_iff.1 h j hj
      omega
    · obtain rfl : i = j + 1 := by omega
      exact Int.le_refl _
theorem psum_lo {xs : List Int} (h : ascB xs = true) (k : Nat) (hk : k ≤ xs.length) : gi xs 0 * k ≤ psum xs k := by
  induction k with
  | zero => simp [psum]
  | succ k ih =>
    have := ih (by omega)
    have h2 := asc_le h (Nat.zero_le k) (by omega)
    have e : gi xs 0 * ((k + 1 : Nat) : Int) = gi xs 0 * (k : Int) + gi xs 0 := by rw [Int.natCast_succ, Int.mul_add, Int.mul_one]
    show _ ≤ psum xs k + gi xs k
    omega
theorem psum_hi {xs : List Int} (h : ascB xs = true) {m : Nat} (hm : m + 1 = xs.length) (k : Nat) (hk : k ≤ xs.length) : psum xs k ≤ gi xs m * k := by
  induction k with
  | zero => simp [psum]
  | succ k ih =>
    have := ih (by omega)
    have h2 := asc_le h (show k ≤ m by omega) (by omega)
    have e : gi xs m * ((k + 1 : Nat) : Int) = gi xs m * (k : Int) + gi xs m := by rw [Int.natCast_succ, Int.mul_add, Int.mul_one]
    show psum xs k + gi xs k ≤ _
    omega
theorem mean_in {xs : List Int} {x : T2} (h : ascB xs = true) {m : Nat} (hm : m + 1 = xs.length) (hb : bmB xs = (x, true)) : rlB x (gi xs 0, 1) = false ∧ rlB (gi xs m, 1) x = false := by
  unfold bmB at hb
  rw [if_neg (by omega)] at hb
  obtain ⟨v, hv⟩ := ratOf_val hb (by omega)
  have hx := (rvB_gcd hv).2
  have lo := psum_lo h xs.length (Nat.le_refl _)
  have hi := psum_hi h hm xs.length (Nat.le_refl _)
  have hn : (0 : Int) < (xs.length : Int) := by omega
  generalize psum xs xs.length = s at *
  generalize (xs.length : Int) = n at *
  obtain ⟨x1, x2⟩ := x
  simp only at v hx
  have hlo : gi xs 0 * x2 ≤ x1 := by
    have h1 : gi xs 0 * n * x2 ≤ s * x2 := Int.mul_le_mul_of_nonneg_right lo (by omega)
    rw [← v] at h1
    have h2 : (gi xs 0 * x2) * n ≤ x1 * n := by rw [Int.mul_assoc, Int.mul_comm x2 n, ← Int.mul_assoc]; exact h1
    exact Int.le_of_mul_le_mul_right h2 hn
  have hhi : x1 ≤ gi xs m * x2 := by
    have h1 : s * x2 ≤ gi xs m * n * x2 := Int.mul_le_mul_of_nonneg_right hi (by omega)
    rw [← v] at h1
    have h2 : x1 * n ≤ (gi xs m * x2) * n := by rw [Int.mul_assoc (gi xs m) x2 n, Int.mul_comm x2 n, ← Int.mul_assoc]; exact h1
    exact Int.le_of_mul_le_mul_right h2 hn
  constructor
  · rw [← Bool.not_eq_true, rlB_iff]
    rintro ⟨_, _, h3⟩
    simp only at h3
    omega
  · rw [← Bool.not_eq_true, rlB_iff]
    rintro ⟨_, _, h3⟩
    simp only at h3
    omega
/-- The greatest of the first k gaps. -/
def gapF (xs : List Int) : Nat → Int
  | 0 => 0
  | k + 1 => if gapF xs k < gi xs (k + 1) - gi xs k then gi xs (k + 1) - gi xs k else gapF xs k
def bwF (xs : List Int) : Int := if ascB xs = true then gapF xs (xs.length - 1) else -1
theorem gapF_nn (xs : List Int) (k : Nat) : 0 ≤ gapF xs k := by
  induction k with
  | zero => exact Int.le_refl _
  | succ k ih => unfold gapF; split <;> omega
theorem gapF_le {xs : List Int} {m : Int} (h : InB xs m) (hm : 0 ≤ m) (k : Nat) (hk : k < xs.length ∨ k = 0) : gapF xs k ≤ m := by
  induction k with
  | zero => exact hm
  | succ k ih =>
    have h1 := h.at (k := k) (by omega)
    have h2 := h.at (k := k + 1) (by omega)
    have := ih (by omega)
    unfold gapF; split <;> omega
end Go.Proofs.Ytmmnkdjibdlcjaa
