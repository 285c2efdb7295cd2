/- SeriesMany: plain facts; whole. -/
import Derived.Test.YtaaiklhkhgennaaMany
namespace Go.Proofs.Ytaaiklhkhgennaa
open Go.RowKit

theorem whole_any (n : Int) (w : World) :
    Calls Try.prog 32 #[.int .i64 n] w fun e w' => e = .returned (.agg #[.int .i64 n, .int .i64 1]) ∧ Below w.heap.size w w' := by
  go_enter Try.func32, Try.ntmps32
  go_wp2_with fail
  refine bodyPost_ret (v := .agg #[.int .i64 n, .int .i64 1]) (by simp [results, Try.results32, go_sem]) rfl ⟨rfl, ?_⟩
  repeat (first | exact Below.refl _ _ | refine Below.alloc ?_ (by simp; try omega) _ | refine Below.setCell ?_ (by simp; try omega) _)
theorem smF_bad {n : Int} {x : T2} (h : 0 ≤ smF n x) : (1 ≤ n ∧ n ≤ 60) ∧ rvB x = true := by
  unfold smF at h
  split at h
  · rename_i h'
    rw [Bool.and_eq_true, inB_iff] at h'
    exact h'
  · omega
theorem smF_of {n : Int} {x : T2} (h : 1 ≤ n ∧ n ≤ 60) (hx : rvB x = true) : smF n x = (cntF n x (60 - n).toNat : Nat) := by
  unfold smF
  rw [inB_iff.2 h, hx]; simp
theorem sm_le {n : Int} {x : T2} (h : 1 ≤ n ∧ n ≤ 60) (hx : rvB x = true) : smF n x ≤ 60 - n := by
  rw [smF_of h hx]
  have := cntF_le n x (60 - n).toNat
  omega
theorem cntF_all {n : Int} {x : T2} (k : Nat) (h : ∀ i, i < k → lnB n x i = true) : cntF n x k = k := by
  induction k with
  | zero => rfl
  | succ k ih =>
    show cntF n x k + (if lnB n x k = true then 1 else 0) = _
    rw [ih (fun i hi => h i (by omega)), h k (by omega)]; simp
theorem cntF_none {n : Int} {x : T2} (k : Nat) (h : ∀ i, i < k → lnB n x i = false) : cntF n x k = 0 := by
  induction k with
  | zero => rfl
  | succ k ih =>
    show cntF n x k + (if lnB n x k = true then 1 else 0) = _
    rw [ih (fun i hi => h i (by omega)), h k (by omega)]; simp
def chk5 (n : Nat) : Bool := decide (n = 0) || (ratOf 1 ((n : Int) * n) == ((1, (n : Int) * n), true))
theorem chk5_all : ∀ n, n < 61 → chk5 n = true := by decide +kernel
theorem ser_sq {n : Int} (h : 1 ≤ n ∧ n ≤ 60) : 1 ≤ n * n ∧ n * n ≤ 3600 := (ser_bd (n := n) (m := 1) h.1 h.2 (by omega) (by omega)).1
theorem rlB_zero {x : T2} (h : 0 < x.1) : rlB x (0, 1) = false := by
  rw [← Bool.not_eq_true, rlB_iff]
  rintro ⟨_, _, h3⟩
  simp at h3
  omega
theorem sm_limit {n : Int} (h : 1 ≤ n ∧ n ≤ 60) : ratOf 1 (n * n) = ((1, n * n), true) ∧ smF n (1, n * n) = 60 - n ∧ smF n (0, 1) = 0 := by
  have k := chk5_all n.toNat (by omega)
  have h0 : n.toNat ≠ 0 := by omega
  have e : ((n.toNat : Nat) : Int) = n := by omega
  simp only [chk5, decide_eq_false h0, Bool.false_or, beq_iff_eq, e] at k
  have hv : rvB (1, n * n) = true := (ratOf_val k (by have := ser_sq h; omega)).2
  refine ⟨k, ?_, ?_⟩
  · rw [smF_of h hv, cntF_all _ (fun i hi => (ser1 (n := n) (m := n + 1 + (i : Int)) (by omega)).2.2.1)]
    omega
  · rw [smF_of h (by decide), cntF_none _ (fun i hi => rlB_zero (ser1 (n := n) (m := n + 1 + (i : Int)) (by omega)).2.2.2.1)]
    rfl
theorem sm_cut {n r : Int} {x : T2} (h : 1 ≤ n ∧ n ≤ 60) (hx : rvB x = true) (hr : smF n x = r) :
    (0 < r → (serB n (n + r)).2 = true ∧ rlB (serB n (n + r)).1 x = true) ∧ ((serB n (n + r + 1)).2 = true → rlB (serB n (n + r + 1)).1 x = false) := by
  rw [smF_of h hx] at hr
  have hc := cntF_cut (n := n) (x := x) h.1 (60 - n).toNat (by omega)
  have hl := cntF_le n x (60 - n).toNat
  generalize cntF n x (60 - n).toNat = c at *
  subst hr
  refine ⟨fun hp => ?_, fun hs => ?_⟩
  · have h1 := hc (c - 1) (by omega)
    rw [decide_eq_true (by omega)] at h1
    unfold lnB at h1
    rw [show n + 1 + ((c - 1 : Nat) : Int) = n + (c : Int) by omega] at h1
    exact ⟨(ser1 (by omega)).1, h1⟩
  · have h2 : n + (c : Int) + 1 ≤ 60 := by
      by_cases h2 : n + (c : Int) + 1 ≤ 60
      · exact h2
      · rw [ser_no (by omega)] at hs; cases hs
    have h1 := hc c (by omega)
    rw [decide_eq_false (by omega)] at h1
    unfold lnB at h1
    rw [show n + 1 + (c : Int) = n + (c : Int) + 1 by omega] at h1
    exact h1
end Go.Proofs.Ytaaiklhkhgennaa
