/- Nodes: whether they are valid. -/
import Derived.Test.YtnljibgjfobkbaaT0
import Derived.Test.YtnljibgjfobkbaaAfter
import Derived.Deep.QuietTactic
import Derived.BigQuiet
namespace Go.Proofs.Ytnljibgjfobkbaa
open Go.RowKit

theorem implSpinValid_any (j : Int) (w : World) : Calls Try.prog 33 #[.int .i64 j] w fun e w' => e = .returned (.bool (inB j 0 24)) ∧ w = w' := by
  go_enter Try.func33, Try.ntmps33
  go_wp2
  all_goals
    go_ret
    exact ⟨ret_bool (by simp [inB, *] <;> omega), rfl⟩
theorem specSpinValid_any (j : Int) (w : World) : Calls Try.prog 21 #[.int .i64 j] w fun e w' => e = .returned (.bool (inB j 0 24)) ∧ w = w' := by
  go_enter Try.func21, Try.ntmps21
  go_wp2_with fail
  refine (l6In_any _ _ _ _).mono ?_
  rintro e w1 ⟨rfl, rfl⟩
  go_wp2_with fail
  go_ret
  exact ⟨rfl, rfl⟩
def ndB (e j : Int) : Bool := inB e 0 200000 && inB j 0 24
theorem nodeValid_any (e j : Int) (odd : Bool) (w : World) : Calls Try.prog 24 #[.agg #[.int .i64 e, .int .i64 j, .bool odd]] w fun en w' => en = .returned (.bool (ndB e j)) ∧ Below w.heap.size w w' := by
  have HB1 := Lib.hid (fun o => (Below.refl w.heap.size w).alloc (Nat.le_refl _) o)
  have HV := Lib.hid (fun W => implSpinValid_any j W)
  by_cases h1 : 0 ≤ e
  · by_cases h2 : e ≤ 200000
    · have he : ndB e j = inB j 0 24 := by unfold ndB; rw [inB_iff.2 ⟨h1, h2⟩, Bool.true_and]
      rw [he]; clear he
      generalize inB j 0 24 = r at *
      go_enter Try.func24, Try.ntmps24
      go_wp2_with fail
      refine (HV.out _).mono ?_
      rintro en w1 ⟨rfl, rfl⟩
      go_wp2_with fail
      go_ret
      exact ⟨rfl, HB1.out _⟩
    · have he : ndB e j = false := by unfold ndB; rw [inB_not.2 (.inr (by omega)), Bool.false_and]
      rw [he]; clear he
      have d2 : decide (e ≤ 200000) = false := decide_eq_false h2
      go_enter Try.func24, Try.ntmps24
      go_wp2_with fail
      go_ret
      exact ⟨rfl, HB1.out _⟩
  · have he : ndB e j = false := by unfold ndB; rw [inB_not.2 (.inl (by omega)), Bool.false_and]
    rw [he]; clear he
    have d1 : decide (0 ≤ e) = false := decide_eq_false h1
    go_enter Try.func24, Try.ntmps24
    go_wp2_with fail
    go_ret
    exact ⟨rfl, HB1.out _⟩
end Go.Proofs.Ytnljibgjfobkbaa
