/- Lists of pairs of integers: how they lie in memory; small functions. -/
import Derived.Test.YtjdfbnlaiiknpaaGreatDoorRows
import Derived.Test.YtjdfbnlaiiknpaaGreatDoorWords
import Derived.WalkKit
import Derived.Outline
import Derived.WalkSpells
import Derived.WalkLawsBesides
namespace Go.Proofs.YtjdfbnlaiiknpaaGreatDoor
open Go.RowKit

abbrev T2 := Int × Int
def tcells (ts : List T2) : List Value := ts.flatMap fun t => [.int .i64 t.1, .int .i64 t.2]
theorem tcells_len (ts : List T2) : (tcells ts).length = ts.length * 2 := by
  unfold tcells; induction ts with
  | nil => rfl
  | cons t ts ih => simp only [List.flatMap_cons, List.length_append, ih, List.length_cons, List.length_nil]; omega
theorem tcells_at (ts : List T2) (i : Nat) (h : i < ts.length) : (tcells ts)[i * 2]? = some (.int .i64 ts[i].1) ∧ (tcells ts)[i * 2 + 1]? = some (.int .i64 ts[i].2) := by
  induction ts generalizing i with
  | nil => simp at h
  | cons t ts ih =>
    cases i with
    | zero => exact ⟨rfl, rfl⟩
    | succ i =>
      have := ih i (by simpa using h)
      rw [show (i + 1) * 2 = i * 2 + 2 by omega]
      exact this

theorem Reads.term {w : World} {B : Nat} {A : Option Addr} {n : Nat} {ts : List T2} (h : Reads w B 2 A n (tcells ts)) {k : Nat} (hk : k < n) :
    ∃ b off x y, A = some ⟨b, off, none⟩ ∧ b < B ∧ w.cell? ⟨b, off + k * 2, none⟩ = some (.int .i64 x) ∧ w.cell? ⟨b, off + k * 2 + 1, none⟩ = some (.int .i64 y) ∧
      Hid (ts[k]? = some (x, y)) ∧ Hid (ts.take (k + 1) = ts.take k ++ [(x, y)]) := by
  obtain ⟨b, off, e, hb, hc⟩ := h.2 (by omega)
  have hl := h.1; rw [tcells_len] at hl
  have hkl : k < ts.length := by omega
  obtain ⟨c1, c2⟩ := tcells_at ts k hkl
  exact ⟨b, off, _, _, e, hb, hc _ _ c1, hc _ _ c2, by unfold Hid; rw [List.getElem?_eq_getElem hkl], by unfold Hid; rw [List.take_succ_eq_append_getElem hkl]⟩

theorem tcells_take (ts : List T2) (k : Nat) : tcells (ts.take k) = (tcells ts).take (k * 2) := by
  induction ts generalizing k with
  | nil => simp [tcells]
  | cons t ts ih =>
    cases k with
    | zero => simp [tcells]
    | succ k =>
      have := ih k
      simp only [tcells] at this
      simp only [tcells, List.take_succ_cons, List.flatMap_cons, this]
      rw [show (k + 1) * 2 = k * 2 + 2 by omega]
      simp
theorem tcells_drop (ts : List T2) (k : Nat) : tcells (ts.drop k) = (tcells ts).drop (k * 2) := by
  induction ts generalizing k with
  | nil => simp [tcells]
  | cons t ts ih =>
    cases k with
    | zero => simp
    | succ k =>
      have := ih k
      simp only [tcells] at this
      simp only [tcells, List.drop_succ_cons, List.flatMap_cons, this]
      rw [show (k + 1) * 2 = k * 2 + 2 by omega]
      simp
theorem tcells_snoc (ts : List T2) (t : T2) : tcells (ts ++ [t]) = tcells ts ++ [.int .i64 t.1, .int .i64 t.2] := by simp [tcells]
def inB (n lo hi : Int) : Bool := decide (lo ≤ n) && decide (n ≤ hi)
theorem inB_iff {n lo hi : Int} : inB n lo hi = true ↔ lo ≤ n ∧ n ≤ hi := by simp [inB]
theorem inB_not {n lo hi : Int} : inB n lo hi = false ↔ n < lo ∨ hi < n := by
  rw [← Bool.not_eq_true, inB_iff]; omega
theorem ret_bool {a b : Bool} (h : a = b) : Ending.returned (.bool a) = .returned (.bool b) := by rw [h]
theorem ret_int {k : IntKind} {a b : Int} (h : a = b) : Ending.returned (.int k a) = .returned (.int k b) := by rw [h]
theorem l6In_any (n lo hi : Int) (w : World) :
    Calls Tryz.prog 76 #[.int .i64 n, .int .i64 lo, .int .i64 hi] w fun e w' => e = .returned (.bool (inB n lo hi)) ∧ w = w' := by
  go_enter Tryz.func76, Tryz.ntmps76
  go_wp2
  all_goals
    go_ret
    exact ⟨ret_bool (by simp [inB, *] <;> omega), rfl⟩
end Go.Proofs.YtjdfbnlaiiknpaaGreatDoor
