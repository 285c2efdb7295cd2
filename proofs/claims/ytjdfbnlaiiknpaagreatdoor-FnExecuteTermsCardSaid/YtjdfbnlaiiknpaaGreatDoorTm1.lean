/- Terms: whether they are valid. -/
import Derived.Test.YtjdfbnlaiiknpaaGreatDoorTx2
namespace Go.Proofs.YtjdfbnlaiiknpaaGreatDoor
open Go.RowKit
attribute [local go_sem ↓] Go.wp_at_zero Go.wp_at_succ

def tvB (t : T2) : Bool := inB t.1 0 8 && inB t.2 0 8
theorem tvB_iff {t : T2} : tvB t = true ↔ (0 ≤ t.1 ∧ t.1 ≤ 8) ∧ (0 ≤ t.2 ∧ t.2 ≤ 8) := by simp [tvB, inB_iff]

theorem specTermValid_any (t : T2) (w : World) :
    Calls Tryz.prog 77 #[.agg #[.int .i64 t.1, .int .i64 t.2]] w fun e w' => e = .returned (.bool (tvB t)) ∧ Below w.heap.size w w' := by
  obtain ⟨a, b⟩ := t
  have hB := (Below.refl w.heap.size w).alloc (Nat.le_refl _) (.cells #[.int .i64 a, .int .i64 b] 39)
  have hT : tvB (a, b) = (inB a 0 8 && inB b 0 8) := rfl
  have HT := Lib.hid hT; clear hT
  cases ha : inB a 0 8
  · go_enter Tryz.func77, Tryz.ntmps77
    go_wp2_with (go_at_call 76; refine (l6In_any _ _ _ _).mono ?_; rintro e w' ⟨rfl, rfl⟩)
    go_ret
    exact ⟨ret_bool (by rw [HT.out, ha]; rfl), hB⟩
  · go_enter Tryz.func77, Tryz.ntmps77
    go_wp2_with (go_at_call 76; refine (l6In_any _ _ _ _).mono ?_; rintro e w' ⟨rfl, rfl⟩)
    go_ret
    exact ⟨ret_bool (by rw [HT.out, ha]; rfl), hB⟩

theorem implTermValid_any (t : T2) (w : World) :
    Calls Tryz.prog 30 #[.agg #[.int .i64 t.1, .int .i64 t.2]] w fun e w' => e = .returned (.bool (tvB t)) ∧ Below w.heap.size w w' := by
  obtain ⟨a, b⟩ := t
  have hB := (Below.refl w.heap.size w).alloc (Nat.le_refl _) (.cells #[.int .i64 a, .int .i64 b] 39)
  have hT : tvB (a, b) = (inB a 0 8 && inB b 0 8) := rfl
  have HT := Lib.hid hT; clear hT
  go_enter Tryz.func30, Tryz.ntmps30
  go_wp2
  all_goals
    go_ret
    refine ⟨ret_bool ?_, hB⟩
    rw [HT.out]
    simp [inB, *] <;> omega
end Go.Proofs.YtjdfbnlaiiknpaaGreatDoor
