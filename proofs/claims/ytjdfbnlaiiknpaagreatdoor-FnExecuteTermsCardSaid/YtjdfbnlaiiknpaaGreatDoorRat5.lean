/- Numbers are compared; plain facts of rationals; whole. -/
import Derived.Test.YtjdfbnlaiiknpaaGreatDoorRat4
namespace Go.Proofs.YtjdfbnlaiiknpaaGreatDoor
open Go.RowKit
attribute [local go_sem ↓] Go.wp_at_zero Go.wp_at_succ

theorem isNaN_any (n : Int) (w : World) : Calls Tryz.prog 118 #[.int .i64 n] w fun e w' => e = .returned (.bool false) ∧ w' = w := by
  have e1 : (n != n) = false := by simp
  go_enter Tryz.func118, Tryz.ntmps118
  go_wp2_with fail
  go_ret
  exact ⟨rfl, rfl⟩
def cmpI (a b : Int) : Int := if a < b then -1 else if b < a then 1 else 0
theorem cmp_any (a b : Int) (w : World) : Calls Tryz.prog 70 #[.int .i64 a, .int .i64 b] w fun e w' => e = .returned (.int .i64 (cmpI a b)) ∧ w' = w := by
  by_cases h1 : a < b
  · go_enter Tryz.func70, Tryz.ntmps70
    go_wp2_with (go_at_call 118; refine (isNaN_any _ _).mono ?_; rintro e w' ⟨rfl, rfl⟩)
    go_ret
    exact ⟨ret_int (by unfold cmpI; rw [if_pos h1]), rfl⟩
  · by_cases h2 : b < a
    · go_enter Tryz.func70, Tryz.ntmps70
      go_wp2_with (go_at_call 118; refine (isNaN_any _ _).mono ?_; rintro e w' ⟨rfl, rfl⟩)
      go_ret
      exact ⟨ret_int (by unfold cmpI; rw [if_neg (by omega), if_pos h2]), rfl⟩
    · go_enter Tryz.func70, Tryz.ntmps70
      go_wp2_with (go_at_call 118; refine (isNaN_any _ _).mono ?_; rintro e w' ⟨rfl, rfl⟩)
      go_ret
      exact ⟨ret_int (by unfold cmpI; rw [if_neg (by omega), if_neg (by omega)]), rfl⟩
theorem mul_bd {x y A B : Int} (hx : -A ≤ x ∧ x ≤ A) (hy : -B ≤ y ∧ y ≤ B) : -(A * B) ≤ x * y ∧ x * y ≤ A * B := by
  have h : (x * y).natAbs = x.natAbs * y.natAbs := Int.natAbs_mul x y
  have h1 : x.natAbs ≤ A.natAbs := by omega
  have h2 : y.natAbs ≤ B.natAbs := by omega
  have h3 : x.natAbs * y.natAbs ≤ A.natAbs * B.natAbs := Nat.mul_le_mul h1 h2
  have h4 : (A * B).natAbs = A.natAbs * B.natAbs := Int.natAbs_mul A B
  have h5 : 0 ≤ A * B := Int.mul_nonneg (by omega) (by omega)
  omega
theorem rvB_bd {a b : Int} (h : rvB (a, b) = true) : (1 ≤ b ∧ b ≤ 1000000000) ∧ (-1000000000 ≤ a ∧ a ≤ 1000000000) := by
  simp only [rvB, Bool.and_eq_true, inB_iff] at h
  exact h.1

theorem ratOf_val {num den : Int} {x : T2} (h : ratOf num den = (x, true)) (hd : 0 < den) : x.1 * den = num * x.2 ∧ rvB x = true := by
  unfold ratOf at h
  split at h
  · cases h
  · unfold mkB at h
    split at h
    · rename_i hv
      injection h with h1 _
      subst h1
      refine ⟨?_, hv⟩
      have hs : sg num den = (Nat.gcd num.natAbs den.natAbs : Nat) := by unfold sg; rw [if_neg (by omega)]
      have hgp : 0 < Nat.gcd num.natAbs den.natAbs := Nat.gcd_pos_of_pos_right _ (by omega)
      have d1 : ((Nat.gcd num.natAbs den.natAbs : Nat) : Int) ∣ num := Int.gcd_dvd_left num den
      have d2 : ((Nat.gcd num.natAbs den.natAbs : Nat) : Int) ∣ den := Int.gcd_dvd_right num den
      unfold mk0
      rw [hs]
      generalize Nat.gcd num.natAbs den.natAbs = g at *
      obtain ⟨a, rfl⟩ := d1
      obtain ⟨b, rfl⟩ := d2
      simp only
      rw [Int.mul_tdiv_cancel_left _ (by omega), Int.mul_tdiv_cancel_left _ (by omega)]
      rw [← Int.mul_assoc, Int.mul_comm a]
    · cases h
theorem rvB_gcd {x : T2} (h : rvB x = true) : Nat.gcd x.1.natAbs x.2.natAbs = 1 ∧ 1 ≤ x.2 := by
  simp only [rvB, Bool.and_eq_true, inB_iff, decide_eq_true_eq] at h
  exact ⟨h.2, h.1.1.1⟩
theorem rat_unique {x y : T2} (hx : rvB x = true) (hy : rvB y = true) (h : x.1 * y.2 = y.1 * x.2) : x = y := by
  obtain ⟨gx, px⟩ := rvB_gcd hx
  obtain ⟨gy, py⟩ := rvB_gcd hy
  obtain ⟨x1, x2⟩ := x
  obtain ⟨y1, y2⟩ := y
  simp only at *
  have hn : x1.natAbs * y2.natAbs = y1.natAbs * x2.natAbs := by rw [← Int.natAbs_mul, ← Int.natAbs_mul, h]
  have a1 : x2.natAbs ∣ y2.natAbs := (Nat.Coprime.symm gx).dvd_of_dvd_mul_left (hn ▸ Nat.dvd_mul_left _ _)
  have a2 : y2.natAbs ∣ x2.natAbs := (Nat.Coprime.symm gy).dvd_of_dvd_mul_left (hn.symm ▸ Nat.dvd_mul_left _ _)
  have e2 : x2 = y2 := by have := Nat.dvd_antisymm a1 a2; omega
  subst e2
  have e1 : x1 = y1 := Int.eq_of_mul_eq_mul_right (by omega) h
  rw [e1]
theorem ratOf_ok {n d x1 x2 : Int} {ok : Bool} (h : ratOf n d = ((x1, x2), ok)) : ok = true → (1 ≤ x2 ∧ x2 ≤ 1000000000) ∧ (-1000000000 ≤ x1 ∧ x1 ≤ 1000000000) := by
  rintro rfl
  unfold ratOf at h
  split at h
  · cases h
  · unfold mkB at h
    split at h
    · rename_i hv
      injection h with h1 _
      rw [h1] at hv
      exact rvB_bd hv
    · cases h
theorem whole_any (n : Int) (w : World) :
    Calls Tryz.prog 197 #[.int .i64 n] w fun e w' => e = .returned (.agg #[.int .i64 n, .int .i64 1]) ∧ Below w.heap.size w w' := by
  go_enter Tryz.func197, Tryz.ntmps197
  go_wp2_with fail
  refine bodyPost_ret (v := .agg #[.int .i64 n, .int .i64 1]) (by simp [results, Tryz.results197, go_sem]) rfl ⟨rfl, ?_⟩
  repeat (first | exact Below.refl _ _ | refine Below.alloc ?_ (by simp; try omega) _ | refine Below.setCell ?_ (by simp; try omega) _)
end Go.Proofs.YtjdfbnlaiiknpaaGreatDoor
