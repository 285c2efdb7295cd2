/- The program strikes a term out of the table. -/
import Derived.Test.YtjglgcgkmfbdpaaDoorMi6
import Derived.Shelf.RegionOpen
import Derived.RangeFuncWrites
namespace Go.Proofs.YtjglgcgkmfbdpaaDoor
open Go.RowKit Go.Shelf
attribute [local go_sem] Oper.semAt_some

def decRow (T : Int → Int → Int) (o : Int) (ys : List Int) : Int → Int → Int := ys.foldl (fun T s => upd T o s (T o s - 1)) T
theorem decRow_snoc (T : Int → Int → Int) (o : Int) (ys : List Int) (s : Int) : decRow T o (ys ++ [s]) = upd (decRow T o ys) o s (decRow T o ys o s - 1) := by simp [decRow]
def stk (T : Int → Int → Int) (S L : Nat) : Nat → Int → Int → Int
  | 0 => T
  | r + 1 => decRow (stk T S L r) (-(L : Int) + (r : Int)) (prj (S : Int) (S + 1))
theorem decRow_at (o : Int) (ys : List Int) : ∀ (T : Int → Int → Int) (a d : Int), decRow T o ys a d = T a d - (if a = o then (ys.count d : Int) else 0) := by
  induction ys with
  | nil => intro T a d; simp [decRow]
  | cons y ys ih =>
    intro T a d
    show decRow (upd T o y (T o y - 1)) o ys a d = _
    rw [ih]
    by_cases ha : a = o
    · subst ha
      rw [if_pos rfl, if_pos rfl]
      by_cases hd : d = y
      · subst hd
        rw [upd_same, List.count_cons_self]; omega
      · rw [upd_other _ _ (fun h => hd h.2), List.count_cons_of_ne (fun h => hd h.symm)]
    · rw [if_neg ha, if_neg ha, upd_other _ _ (fun h => ha h.1)]
theorem prj_mem {S : Nat} {k : Nat} {d : Int} : d ∈ prj (S : Int) k ↔ -(S : Int) ≤ d ∧ d < -(S : Int) + 2 * k ∧ (d + S) % 2 = 0 := by
  unfold prj
  simp only [List.mem_map, List.mem_range]
  constructor
  · rintro ⟨i, hi, rfl⟩; omega
  · rintro ⟨h1, h2, h3⟩; exact ⟨((d + S) / 2).toNat, by omega, by omega⟩
theorem prj_nodup (S k : Nat) : (prj (S : Int) k).Nodup := by
  induction k with
  | zero => exact List.nodup_nil
  | succ k ih =>
    rw [prj_succ]
    refine List.nodup_append.2 ⟨ih, by simp, fun a ha c hc e => ?_⟩
    simp only [List.mem_singleton] at hc
    rw [e, hc, prj_mem] at ha
    omega
theorem prj_count (S : Nat) (d : Int) : ((prj (S : Int) (S + 1)).count d : Int) = if -(S : Int) ≤ d ∧ d ≤ S ∧ (d + S) % 2 = 0 then 1 else 0 := by
  by_cases h : d ∈ prj (S : Int) (S + 1)
  · rw [(prj_nodup S (S + 1)).count, if_pos h]
    rw [prj_mem] at h
    rw [if_pos (by omega)]; rfl
  · rw [List.count_eq_zero_of_not_mem h]
    rw [prj_mem] at h
    rw [if_neg (by omega)]; rfl
theorem stk_at (T : Int → Int → Int) (S L : Nat) (a d : Int) : ∀ r : Nat, stk T S L r a d = T a d - (if (-(L : Int) ≤ a ∧ a < -(L : Int) + r) ∧ (-(S : Int) ≤ d ∧ d ≤ S ∧ (d + S) % 2 = 0) then 1 else 0) := by
  intro r
  induction r with
  | zero => simp [stk]; omega
  | succ r ih =>
    rw [stk, decRow_at, ih, prj_count]
    by_cases hd : -(S : Int) ≤ d ∧ d ≤ S ∧ (d + S) % 2 = 0
    · simp only [hd, and_true, if_true]
      by_cases ha : a = -(L : Int) + r
      · rw [if_pos ha, if_neg (by omega), if_pos (by omega)]; omega
      · rw [if_neg ha]
        by_cases h2 : -(L : Int) ≤ a ∧ a < -(L : Int) + r
        · rw [if_pos h2, if_pos (by omega)]; omega
        · rw [if_neg h2, if_neg (by omega)]; omega
    · simp [hd]
theorem stk_all (T : Int → Int → Int) (S L : Nat) (a d : Int) : stk T S L (2 * L + 1) a d = T a d - (if rct ((S : Int), (L : Int)) a d = true then 1 else 0) := by
  rw [stk_at]
  congr 1
  by_cases h : rct ((S : Int), (L : Int)) a d = true
  · rw [if_pos h]
    unfold rct at h
    rw [decide_eq_true_eq] at h
    simp only at h
    rw [if_pos (by omega)]
  · rw [if_neg h]
    unfold rct at h
    rw [decide_eq_true_eq] at h
    simp only at h
    rw [if_neg (by omega)]

/-! Marks of loops over functions among the deferred calls. -/
def mark (D : Nat) : Deferred := { target := .collected D, args := #[] }
def Shut (Ds : List Nat) (W : World) : Prop := Ds.Nodup ∧ ∀ D ∈ Ds, W.heap[D]? = some (.deferred (some []))
theorem leaves_marks {F : Fence} {n : Nat} {P : Program} {fn : Func} {tmps : Array Value} {R : Ending → World → Prop} {b0 : World} {row : Option Nat} : ∀ (Ds : List Nat) (W : World), Shut Ds W → (∀ D ∈ Ds, b0.heap.size ≤ D) → b0.grownBy W row →
    (∀ W', (∀ k, k ∉ Ds → W'.heap[k]? = W.heap[k]?) → b0.grownBy W' row → LeavesIn F n P fn tmps R [] .returning W') → LeavesInM F n P fn tmps R (Ds.map mark) .returning W := by
  intro Ds
  induction Ds with
  | nil => intro W _ _ hg h; exact h W (fun _ _ => rfl) hg
  | cons D Ds ih =>
    intro W hS hB hg h
    have hD := hS.2 D (by simp)
    have hn := List.nodup_cons.1 hS.1
    refine ⟨by simp, .inl ⟨D, W.putObj D (.deferred none), rfl, run_takeDeferred hD, ?_⟩⟩
    refine ih _ ⟨hn.2, fun E hE => ?_⟩ (fun E hE => hB E (by simp [hE])) ?_ fun W' hW' hg' => h W' (fun k hk => ?_) hg'
    · rw [World.putObj_heap_other (by rintro rfl; exact hn.1 hE)]
      exact hS.2 E (by simp [hE])
    · exact gb_own hg (grownBy_putObj' W D (.deferred none)) (fun g e => by cases e; exact hB D (by simp))
    · rw [hW' k (by simp at hk; exact hk.2), World.putObj_heap_other (by simp at hk; exact hk.1)]

/-- What stands between two elements of a row. -/
def RowI (w : World) (b z pO N M : Nat) (T : Int → Int → Int) (S L : Nat) (o : Int) (Ds : List Nat) (pre : List P10) (W : World) : Prop :=
  Tbl W b (N + pre.length) (decRow T o (pre.map (·.1))) ∧ Blk W z 36 #[.map (some b)] ∧ Blk W (z + 1) 41 #[.int .i64 (S : Int), .int .i64 (L : Int)] ∧ Blk W pO 3 #[.int .i64 o] ∧ w.grownBy W (some b) ∧ M ≤ W.heap.size ∧ Shut Ds W
theorem rowI_own (w : World) (b z pO N M : Nat) (T : Int → Int → Int) (S L : Nat) (o : Int) (Ds : List Nat) (B : Nat) (hB : w.heap.size ≤ B) (hb : b < B) (hz : z + 1 < B) (hp : pO < B) (hD : ∀ D ∈ Ds, D < B) : OwnFrom B (RowI w b z pO N M T S L o Ds) := by
  rintro pre X Y row ⟨h1, h2, h3, h4, h5, hM, h6, h7⟩ hg hr
  have hne : ∀ k, k < B → some k ≠ row := fun k hk e => by have := (hr k e.symm).1; omega
  refine ⟨h1.kept (hg.block b h1.lt (hne b hb)), h2.grown hg (hne z (by omega)), h3.grown hg (hne _ hz), h4.grown hg (hne _ hp), gb_own h5 hg (fun g e => by have := (hr g e).1; omega), Nat.le_trans hM hg.size, h6, fun D hD' => ?_⟩
  have h8 := h7 D hD'
  exact (hg.block D (Array.getElem?_eq_some_iff.1 h8).1 (hne D (hD D hD'))).trans h8
end Go.Proofs.YtjglgcgkmfbdpaaDoor
