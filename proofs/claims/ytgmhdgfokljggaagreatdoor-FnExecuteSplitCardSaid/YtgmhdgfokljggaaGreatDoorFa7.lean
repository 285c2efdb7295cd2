/- One line, one answer; the text of a level is read back. -/
import Derived.Test.YtgmhdgfokljggaaGreatDoorFa6
import Derived.Test.YtgmhdgfokljggaaGreatDoorDlev
namespace Go.Proofs.YtgmhdgfokljggaaGreatDoor
open Go.RowKit
attribute [local go_sem ↓] Go.wp_at_zero Go.wp_at_succ

/-- A line's answer. -/
def LineOk (w : World) (line out : List UInt8) : Prop := ∀ (W : World) (b : Nat), Below w.heap.size w W → Blk W b 9 (wcs (spl 32 line)) →
  Calls Tryz.prog 49 #[.slice (some ⟨b, 0, none⟩) (spl 32 line).length (spl 32 line).length] W fun e w' => e = .returned (.string (bs out)) ∧ Below W.heap.size W w'
theorem spl_line {l : List UInt8} (h : 10 ∉ l) : spl 10 (l ++ [10]) = [l] ++ [[]] := by
  rw [spl_app h]; rfl
theorem lines1 {x : List UInt8} : outP [x] 1 ++ linesT ++ Lib.decDigits 1 ++ [10] = x ++ [10, 108, 105, 110, 101, 115, 32, 49, 10] := by
  have : Lib.decDigits 1 = [49] := by decide +kernel
  rw [this]
  simp [outP, linesT]
theorem exec1 (line out : List UInt8) (w : World) (ht : Tab w) (hm : Mx w) (hl : line.length ≤ 599) (h10 : 10 ∉ line) (ho : out.length ≤ 10000) (h : LineOk w line out) :
    Calls Tryz.prog 14 #[.string (bs (line ++ [10]))] w fun e w' => e = .returned (.string (bs (out ++ [10, 108, 105, 110, 101, 115, 32, 49, 10]))) ∧ Below w.heap.size w w' := by
  have hgo : ∀ (x : List UInt8) (m : Nat), x.length ≤ m → ∀ k, ([x].getD k []).length ≤ m := fun x m h k => by
    cases k with
    | zero => exact h
    | succ k => simp
  have hx := Execute_any (line ++ [10]) 1 [line] [out] w ht hm (by simp; omega) (spl_line h10) rfl (by omega) (hgo _ _ (by omega)) (hgo _ _ ho) (fun k hk W b hW hbl => by
    obtain rfl : k = 0 := by omega
    simp only [List.getD_cons_zero] at hbl ⊢
    exact h W b hW hbl)
  refine hx.mono fun e w' ⟨he, hb⟩ => ⟨?_, hb⟩
  rw [he]
  exact ret_str (congrArg bs lines1)

theorem sp_chars (j : Nat) (h : j ≤ 24) : 32 ∉ spT (j : Int) ∧ 10 ∉ spT (j : Int) ∧ 1 ≤ (spT (j : Int)).length ∧ (spT (j : Int)).length ≤ 4 := by
  have h1 : ∀ j : Fin 25, 32 ∉ spT (j.1 : Int) ∧ 10 ∉ spT (j.1 : Int) ∧ 1 ≤ (spT (j.1 : Int)).length ∧ (spT (j.1 : Int)).length ≤ 4 := by decide +kernel
  exact h1 ⟨j, by omega⟩
theorem sp_inj {i j : Nat} (hi : i ≤ 24) (hj : j ≤ 24) (h : spT (i : Int) = spT (j : Int)) : i = j := by
  have h1 : ∀ i j : Fin 25, spT (i.1 : Int) = spT (j.1 : Int) → i = j := by decide +kernel
  have := h1 ⟨i, by omega⟩ ⟨j, by omega⟩ h
  injection this
theorem tm_chars {t : T2} (hv : tvB t = true) : 32 ∉ tmT t ∧ 10 ∉ tmT t ∧ tmF (tmT t) = (t, true) := by
  have hb := tvB_iff.1 hv
  obtain ⟨s, l⟩ := t
  obtain ⟨s, rfl⟩ := Int.eq_ofNat_of_zero_le hb.1.1
  obtain ⟨l, rfl⟩ := Int.eq_ofNat_of_zero_le hb.2.1
  have h : ∀ s l : Fin 9, 32 ∉ tmT ((s.1 : Int), (l.1 : Int)) ∧ 10 ∉ tmT ((s.1 : Int), (l.1 : Int)) ∧ tmF (tmT ((s.1 : Int), (l.1 : Int))) = (((s.1 : Int), (l.1 : Int)), true) := by decide +kernel
  have h8 := hb.1.2; have h9 := hb.2.2; simp at h8 h9
  exact h ⟨s, by omega⟩ ⟨l, by omega⟩
theorem lvF_text {t : T2} {j : Int} (h : lvB t j = true) : lvF (l1T t j) = ((t, j), true) ∧ 32 ∉ l1T t j ∧ 10 ∉ l1T t j ∧ (l1T t j).length ≤ 6 := by
  have h1 := lvB_iff.1 h
  have hm := lvB_mem.1 h
  obtain ⟨c1, c2, c3⟩ := tm_chars h1.1
  have hj := (triB_iff.1 h1.2).1.2.2
  obtain ⟨k, rfl⟩ := Int.eq_ofNat_of_zero_le hj.1
  obtain ⟨d1, d2, d3, d4⟩ := sp_chars k (by omega)
  have htl := tmT_len h1.1
  have e1 : (l1T t (k : Int)).take 2 = tmT t := by unfold l1T; rw [List.take_append_of_le_length (by omega), List.take_of_length_le (by omega)]
  have e2 : (l1T t (k : Int)).drop 2 = spT (k : Int) := by unfold l1T; rw [List.drop_append_of_le_length (by omega), List.drop_of_length_le (by omega), List.nil_append]
  have e3 : (l1T t (k : Int)).length = 2 + (spT (k : Int)).length := by unfold l1T; rw [List.length_append, htl]
  refine ⟨?_, ?_, ?_, by omega⟩
  · unfold lvF
    rw [e1, e2, c3, if_pos ⟨by omega, rfl⟩]
    have : lvJ t (spT (k : Int)) = some (k : Int) := by
      unfold lvJ
      have hx : ((lvJs t).find? fun j => decide (spT j = spT (k : Int))) ≠ none := by
        intro hn
        have := List.find?_eq_none.1 hn (k : Int) hm
        simp at this
      cases hq : (lvJs t).find? fun j => decide (spT j = spT (k : Int)) with
      | none => exact absurd hq hx
      | some i =>
        have h2 := List.find?_some hq
        have h3 := List.mem_of_find?_eq_some hq
        have h4 := lv_ok h1.1 h3
        obtain ⟨i, rfl⟩ := Int.eq_ofNat_of_zero_le h4.1
        have := sp_inj (by have := h4.2.1; omega) (by omega) (of_decide_eq_true h2)
        rw [this]
    simp only [this]
  · unfold l1T; simp [c1, d1]
  · unfold l1T; simp [c2, d2]
end Go.Proofs.YtgmhdgfokljggaaGreatDoor
