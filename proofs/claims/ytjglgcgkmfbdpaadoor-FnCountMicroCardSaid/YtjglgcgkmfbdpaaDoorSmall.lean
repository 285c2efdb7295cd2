/- Small functions on numbers and terms. -/
import Derived.Test.YtjglgcgkmfbdpaaDoorT1
namespace Go.Proofs.YtjglgcgkmfbdpaaDoor
open Go.RowKit

def inB (n lo hi : Int) : Bool := decide (lo ≤ n) && decide (n ≤ hi)
theorem inB_iff {n lo hi : Int} : inB n lo hi = true ↔ lo ≤ n ∧ n ≤ hi := by simp [inB]
theorem inB_not {n lo hi : Int} : inB n lo hi = false ↔ n < lo ∨ hi < n := by
  rw [← Bool.not_eq_true, inB_iff]; omega
def tvB (t : T2) : Bool := inB t.1 0 8 && inB t.2 0 8
theorem tvB_iff {t : T2} : tvB t = true ↔ (0 ≤ t.1 ∧ t.1 ≤ 8) ∧ (0 ≤ t.2 ∧ t.2 ≤ 8) := by simp [tvB, inB_iff]

theorem ret_bool {a b : Bool} (h : a = b) : Ending.returned (.bool a) = .returned (.bool b) := by rw [h]
theorem ret_int {k : IntKind} {a b : Int} (h : a = b) : Ending.returned (.int k a) = .returned (.int k b) := by rw [h]

theorem l6In_any (n lo hi : Int) (w : World) :
    Calls Tryd.prog 23 #[.int .i64 n, .int .i64 lo, .int .i64 hi] w fun e w' => e = .returned (.bool (inB n lo hi)) ∧ w = w' := by
  go_enter Tryd.func23, Tryd.ntmps23
  go_wp2
  all_goals
    go_ret
    exact ⟨ret_bool (by simp [inB, *] <;> omega), rfl⟩

theorem implSpinValid_any (n : Int) (w : World) :
    Calls Tryd.prog 19 #[.int .i64 n] w fun e w' => e = .returned (.bool (inB n 0 24)) ∧ w = w' := by
  go_enter Tryd.func19, Tryd.ntmps19
  go_wp2
  all_goals
    go_ret
    exact ⟨ret_bool (by simp [inB, *] <;> omega), rfl⟩

theorem abs_any (n : Int) (w : World) (h : -9223372036854775807 ≤ n) (h' : n ≤ 9223372036854775807) :
    Calls Tryd.prog 37 #[.int .i64 n] w fun e w' => e = .returned (.int .i64 (n.natAbs : Int)) ∧ w = w' := by
  by_cases h1 : n < 0
  · go_enter Tryd.func37, Tryd.ntmps37
    go_wp2
    go_ret
    exact ⟨ret_int (by omega), rfl⟩
  · go_enter Tryd.func37, Tryd.ntmps37
    go_wp2
    go_ret
    exact ⟨ret_int (by omega), rfl⟩

theorem specTermValid_any (t : T2) (w : World) :
    Calls Tryd.prog 24 #[.agg #[.int .i64 t.1, .int .i64 t.2]] w fun e w' => e = .returned (.bool (tvB t)) ∧ Below w.heap.size w w' := by
  obtain ⟨a, b⟩ := t
  have hB := (Below.refl w.heap.size w).alloc (Nat.le_refl _) (.cells #[.int .i64 a, .int .i64 b] 41)
  have hT : tvB (a, b) = (inB a 0 8 && inB b 0 8) := rfl
  have HT := Lib.hid hT; clear hT
  cases ha : inB a 0 8
  · go_enter Tryd.func24, Tryd.ntmps24
    go_wp2_with (go_at_call 23; refine (l6In_any _ _ _ _).mono ?_; rintro e w' ⟨rfl, rfl⟩)
    go_ret
    exact ⟨ret_bool (by rw [HT.out, ha]; rfl), hB⟩
  · go_enter Tryd.func24, Tryd.ntmps24
    go_wp2_with (go_at_call 23; refine (l6In_any _ _ _ _).mono ?_; rintro e w' ⟨rfl, rfl⟩)
    go_ret
    exact ⟨ret_bool (by rw [HT.out, ha]; rfl), hB⟩

theorem implTermValid_any (t : T2) (w : World) :
    Calls Tryd.prog 28 #[.agg #[.int .i64 t.1, .int .i64 t.2]] w fun e w' => e = .returned (.bool (tvB t)) ∧ Below w.heap.size w w' := by
  obtain ⟨a, b⟩ := t
  have hB := (Below.refl w.heap.size w).alloc (Nat.le_refl _) (.cells #[.int .i64 a, .int .i64 b] 41)
  have hT : tvB (a, b) = (inB a 0 8 && inB b 0 8) := rfl
  have HT := Lib.hid hT; clear hT
  go_enter Tryd.func28, Tryd.ntmps28
  go_wp2
  all_goals
    go_ret
    refine ⟨ret_bool ?_, hB⟩
    rw [HT.out]
    simp [inB, *] <;> omega
end Go.Proofs.YtjglgcgkmfbdpaaDoor
