/- Sums of lines of series, and what SeriesFind finds: plain facts. -/
import Derived.Test.YtaaiklhkhgennaaSerP2
namespace Go.Proofs.Ytaaiklhkhgennaa

theorem ratOf_val {num den : Int} {x : T2} (h : ratOf num den = (x, true)) (hd : 0 < den) : x.1 * den = num * x.2 ∧ rvB x = true := by
  unfold ratOf at h
  split at h
  · cases h
  · unfold mkB at h
    split at h
    · rename_i hv
      injection h with h1 _
      subst h1
      refine ⟨?_, hv⟩
      have hs : sg num den = (Nat.gcd num.natAbs den.natAbs : Nat) := by unfold sg; rw [if_neg (by omega)]
      have hgp : 0 < Nat.gcd num.natAbs den.natAbs := Nat.gcd_pos_of_pos_right _ (by omega)
      have d1 : ((Nat.gcd num.natAbs den.natAbs : Nat) : Int) ∣ num := Int.gcd_dvd_left num den
      have d2 : ((Nat.gcd num.natAbs den.natAbs : Nat) : Int) ∣ den := Int.gcd_dvd_right num den
      unfold mk0
      rw [hs]
      generalize Nat.gcd num.natAbs den.natAbs = g at *
      obtain ⟨a, rfl⟩ := d1
      obtain ⟨b, rfl⟩ := d2
      simp only
      rw [Int.mul_tdiv_cancel_left _ (by omega), Int.mul_tdiv_cancel_left _ (by omega)]
      rw [← Int.mul_assoc, Int.mul_comm a]
    · cases h
theorem rvB_gcd {x : T2} (h : rvB x = true) : Nat.gcd x.1.natAbs x.2.natAbs = 1 ∧ 1 ≤ x.2 := by
  simp only [rvB, Bool.and_eq_true, inB_iff, decide_eq_true_eq] at h
  exact ⟨h.2, h.1.1.1⟩
theorem rat_unique {x y : T2} (hx : rvB x = true) (hy : rvB y = true) (h : x.1 * y.2 = y.1 * x.2) : x = y := by
  obtain ⟨gx, px⟩ := rvB_gcd hx
  obtain ⟨gy, py⟩ := rvB_gcd hy
  obtain ⟨x1, x2⟩ := x
  obtain ⟨y1, y2⟩ := y
  simp only at *
  have hn : x1.natAbs * y2.natAbs = y1.natAbs * x2.natAbs := by rw [← Int.natAbs_mul, ← Int.natAbs_mul, h]
  have a1 : x2.natAbs ∣ y2.natAbs := (Nat.Coprime.symm gx).dvd_of_dvd_mul_left (hn ▸ Nat.dvd_mul_left _ _)
  have a2 : y2.natAbs ∣ x2.natAbs := (Nat.Coprime.symm gy).dvd_of_dvd_mul_left (hn.symm ▸ Nat.dvd_mul_left _ _)
  have e2 : x2 = y2 := by have := Nat.dvd_antisymm a1 a2; omega
  subst e2
  have e1 : x1 = y1 := Int.eq_of_mul_eq_mul_right (by omega) h
  rw [e1]
theorem ser_val {n m : Int} (h : 1 ≤ n ∧ n < m ∧ m ≤ 60) : (serB n m).1.1 * (n * n * m * m) = (m * m - n * n) * (serB n m).1.2 ∧ rvB (serB n m).1 = true := by
  have hy := ser_yes h
  obtain ⟨a, b, c, d⟩ := ser_bd (n := n) (m := m) (by omega) (by omega) (by omega) (by omega)
  have hs : serB n m = ratOf (m * m - n * n) (n * n * m * m) := by unfold serB; rw [if_pos h]
  exact ratOf_val (x := (serB n m).1) (by rw [← hs, ← (ser1 h).1]) (by omega)
theorem ser_sum {n k m : Int} (h : 1 ≤ n ∧ n < k ∧ k < m ∧ m ≤ 60) {z : T2} (hz : addB (serB n k).1 (serB k m).1 = (z, true)) : z = (serB n m).1 := by
  obtain ⟨v1, r1⟩ := ser_val (n := n) (m := k) (by omega)
  obtain ⟨v2, r2⟩ := ser_val (n := k) (m := m) (by omega)
  obtain ⟨v3, r3⟩ := ser_val (n := n) (m := m) (by omega)
  obtain ⟨g1, p1⟩ := rvB_gcd r1
  obtain ⟨g2, p2⟩ := rvB_gcd r2
  obtain ⟨g3, p3⟩ := rvB_gcd r3
  unfold addB at hz
  rw [r1, r2] at hz
  simp only [Bool.and_self, if_true] at hz
  obtain ⟨vz, rz⟩ := ratOf_val hz (Int.mul_pos (by omega) (by omega))
  refine rat_unique rz r3 ?_
  have hA : 0 < n * n := Int.mul_pos (by omega) (by omega)
  have hB : 0 < k * k := Int.mul_pos (by omega) (by omega)
  have hC : 0 < m * m := Int.mul_pos (by omega) (by omega)
  generalize (serB n k).1.1 = N1 at *
  generalize (serB n k).1.2 = D1 at *
  generalize (serB k m).1.1 = N2 at *
  generalize (serB k m).1.2 = D2 at *
  generalize (serB n m).1.1 = N3 at *
  generalize (serB n m).1.2 = D3 at *
  rw [Int.mul_assoc _ k k] at v1
  rw [Int.mul_assoc _ m m] at v2 v3
  generalize n * n = A at *
  generalize k * k = B at *
  generalize m * m = C at *
  obtain ⟨z1, z2⟩ := z
  simp only at *
  have key : (z1 * D3) * (D1 * D2 * A * B * C) = (N3 * z2) * (D1 * D2 * A * B * C) := by
    clear hz r1 r2 r3 rz g1 g2 g3 h
    grind
  exact Int.eq_of_mul_eq_mul_right (by
    have h1 := Int.mul_pos (show 0 < D1 by omega) (show 0 < D2 by omega)
    have h2 := Int.mul_pos (Int.mul_pos (Int.mul_pos h1 hA) hB) hC
    omega) key

/-! SeriesFind. -/
/-- No pair ahead of (k, m) gives x. -/
def NF (x : T2) (k m : Int) : Prop := ∀ i j : Int, 1 ≤ i → i < j → j ≤ 60 → (i < k ∨ (i = k ∧ j < m)) → (serB i j).1 ≠ x
def SF (x : T2) (n m : Int) (ok : Bool) : Prop :=
  (ok = true ∧ (1 ≤ n ∧ n < m ∧ m ≤ 60) ∧ (serB n m).1 = x ∧ NF x n m) ∨ (ok = false ∧ n = 0 ∧ m = 0 ∧ NF x 60 0)
theorem sf_unique {x : T2} {n m n' m' : Int} {ok ok' : Bool} (h : SF x n m ok) (h' : SF x n' m' ok') : n = n' ∧ m = m' ∧ ok = ok' := by
  rcases h with ⟨rfl, hr, he, hf⟩ | ⟨rfl, rfl, rfl, hf⟩
  · rcases h' with ⟨rfl, hr', he', hf'⟩ | ⟨rfl, rfl, rfl, hf'⟩
    · by_cases c1 : n < n' ∨ (n = n' ∧ m < m')
      · exact absurd he (hf' n m hr.1 hr.2.1 hr.2.2 c1)
      · by_cases c2 : n' < n ∨ (n' = n ∧ m' < m)
        · exact absurd he' (hf n' m' hr'.1 hr'.2.1 hr'.2.2 c2)
        · exact ⟨by omega, by omega, rfl⟩
    · exact absurd he (hf' n m hr.1 hr.2.1 hr.2.2 (by omega))
  · rcases h' with ⟨rfl, hr', he', hf'⟩ | ⟨rfl, rfl, rfl, hf'⟩
    · exact absurd he' (hf n' m' hr'.1 hr'.2.1 hr'.2.2 (by omega))
    · exact ⟨rfl, rfl, rfl⟩
theorem sf_hit {x : T2} {n m n' m' : Int} {ok : Bool} (h : SF x n' m' ok) (hr : 1 ≤ n ∧ n < m ∧ m ≤ 60) (he : (serB n m).1 = x) :
    ok = true ∧ (1 ≤ n' ∧ n' < m' ∧ m' ≤ 60) ∧ n' ≤ n ∧ serB n' m' = (x, true) := by
  rcases h with ⟨rfl, hr', he', hf'⟩ | ⟨rfl, rfl, rfl, hf'⟩
  · refine ⟨rfl, hr', ?_, ?_⟩
    · by_cases c : n' ≤ n
      · exact c
      · exact absurd he (hf' n m hr.1 hr.2.1 hr.2.2 (by omega))
    · rw [ser_yes hr', he']
  · exact absurd he (hf' n m hr.1 hr.2.1 hr.2.2 (by omega))
theorem nf_bad {x : T2} (h : rvB x = false) (k m : Int) : NF x k m := fun i j h1 h2 h3 _ he => by
  have := (ser_val (n := i) (m := j) ⟨h1, h2, h3⟩).2
  rw [he, h] at this; cases this
theorem nf_start (x : T2) : NF x 1 0 := fun i j h1 h2 h3 h4 => absurd h4 (by omega)
theorem nf_inner {x : T2} {k : Int} (h : NF x k 0) : NF x k (k + 1) := fun i j h1 h2 h3 h4 => h i j h1 h2 h3 (by omega)
theorem nf_step {x : T2} {k m : Int} (h : NF x k m) (hx : (serB k m).1 ≠ x) : NF x k (m + 1) := fun i j h1 h2 h3 h4 => by
  by_cases c : i = k ∧ j = m
  · obtain ⟨rfl, rfl⟩ := c; exact hx
  · exact h i j h1 h2 h3 (by omega)
theorem nf_next {x : T2} {k m : Int} (h : NF x k m) (hm : 60 < m) : NF x (k + 1) 0 := fun i j h1 h2 h3 h4 => h i j h1 h2 h3 (by omega)
theorem sf_no {x : T2} {k : Int} (h : NF x k 0) (hk : 60 ≤ k) : SF x 0 0 false := .inr ⟨rfl, rfl, rfl, fun i j h1 h2 h3 h4 => h i j h1 h2 h3 (by omega)⟩
end Go.Proofs.Ytaaiklhkhgennaa
