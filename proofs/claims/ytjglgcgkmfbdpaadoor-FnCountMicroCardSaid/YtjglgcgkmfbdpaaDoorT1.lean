/- Lists of terms: how they lie in memory; the functions that count terms by their spin. -/
import Derived.Test.YtjglgcgkmfbdpaaDoorRows
import Derived.Test.YtjglgcgkmfbdpaaDoorWords
import Derived.WalkKit
import Derived.Outline
import Derived.WalkSpells
import Derived.WalkLawsBesides
namespace Go.Proofs.YtjglgcgkmfbdpaaDoor
open Go.RowKit

abbrev T2 := Int × Int
def tcells (ts : List T2) : List Value := ts.flatMap fun t => [.int .i64 t.1, .int .i64 t.2]
theorem tcells_len (ts : List T2) : (tcells ts).length = ts.length * 2 := by
  unfold tcells; induction ts with
  | nil => rfl
  | cons t ts ih => simp only [List.flatMap_cons, List.length_append, ih, List.length_cons, List.length_nil]; omega
theorem tcells_at (ts : List T2) (i : Nat) (h : i < ts.length) : (tcells ts)[i * 2]? = some (.int .i64 ts[i].1) ∧ (tcells ts)[i * 2 + 1]? = some (.int .i64 ts[i].2) := by
  induction ts generalizing i with
  | nil => simp at h
  | cons t ts ih =>
    cases i with
    | zero => exact ⟨rfl, rfl⟩
    | succ i =>
      have := ih i (by simpa using h)
      rw [show (i + 1) * 2 = i * 2 + 2 by omega]
      exact this

theorem Reads.term {w : World} {B : Nat} {A : Option Addr} {n : Nat} {ts : List T2} (h : Reads w B 2 A n (tcells ts)) {k : Nat} (hk : k < n) :
    ∃ b off x y, A = some ⟨b, off, none⟩ ∧ b < B ∧ w.cell? ⟨b, off + k * 2, none⟩ = some (.int .i64 x) ∧ w.cell? ⟨b, off + k * 2 + 1, none⟩ = some (.int .i64 y) ∧
      Hid (ts[k]? = some (x, y)) ∧ Hid (ts.take (k + 1) = ts.take k ++ [(x, y)]) := by
  obtain ⟨b, off, e, hb, hc⟩ := h.2 (by omega)
  have hl := h.1; rw [tcells_len] at hl
  have hkl : k < ts.length := by omega
  obtain ⟨c1, c2⟩ := tcells_at ts k hkl
  exact ⟨b, off, _, _, e, hb, hc _ _ c1, hc _ _ c2, by unfold Hid; rw [List.getElem?_eq_getElem hkl], by unfold Hid; rw [List.take_succ_eq_append_getElem hkl]⟩

theorem tcells_take (ts : List T2) (k : Nat) : tcells (ts.take k) = (tcells ts).take (k * 2) := by
  induction ts generalizing k with
  | nil => simp [tcells]
  | cons t ts ih =>
    cases k with
    | zero => simp [tcells]
    | succ k =>
      have := ih k
      simp only [tcells] at this
      simp only [tcells, List.take_succ_cons, List.flatMap_cons, this]
      rw [show (k + 1) * 2 = k * 2 + 2 by omega]
      simp
theorem tcells_drop (ts : List T2) (k : Nat) : tcells (ts.drop k) = (tcells ts).drop (k * 2) := by
  induction ts generalizing k with
  | nil => simp [tcells]
  | cons t ts ih =>
    cases k with
    | zero => simp
    | succ k =>
      have := ih k
      simp only [tcells] at this
      simp only [tcells, List.drop_succ_cons, List.flatMap_cons, this]
      rw [show (k + 1) * 2 = k * 2 + 2 by omega]
      simp

def cntSpin (ts : List T2) (s : Int) : Int := (ts.countP fun t => t.1 == s : Nat)
theorem cntSpin_snoc (ts : List T2) (t : T2) (s : Int) : cntSpin (ts ++ [t]) s = cntSpin ts s + if t.1 == s then 1 else 0 := by
  unfold cntSpin; rw [List.countP_append]; by_cases h : t.1 = s <;> simp [h]
theorem cntSpin_le (ts : List T2) (s : Int) : 0 ≤ cntSpin ts s ∧ cntSpin ts s ≤ ts.length := by
  unfold cntSpin; exact ⟨by omega, by have := List.countP_le_length (p := fun t : T2 => t.1 == s) (l := ts); omega⟩

end Go.Proofs.YtjglgcgkmfbdpaaDoor
