/- Plain facts on counting levels by their angular momenta. -/
import Derived.Test.YtjglgcgkmfbdpaaDoorLev
namespace Go.Proofs.YtjglgcgkmfbdpaaDoor
open Go.RowKit

def addJ (a : List Int) (j : Int) : List Int := a.set j.toNat (a.getD j.toNat 0 + 1)
def addJs (a : List Int) (js : List Int) : List Int := js.foldl addJ a
def countArr (ts : List T2) : List Int := ts.foldl (fun a t => addJs a (lvJs t)) (List.replicate 25 0)
theorem addJs_snoc (a js : List Int) (j : Int) : addJs a (js ++ [j]) = addJ (addJs a js) j := by simp [addJs]
theorem countArr_snoc (ts : List T2) (t : T2) : countArr (ts ++ [t]) = addJs (countArr ts) (lvJs t) := by simp [countArr]

def Bnd (a : List Int) (B : Nat) : Prop := a.length = 25 ∧ ∀ i, 0 ≤ a.getD i 0 ∧ a.getD i 0 ≤ B
theorem getD_set (a : List Int) (i k : Nat) (v : Int) : (a.set i v).getD k 0 = if i = k ∧ i < a.length then v else a.getD k 0 := by
  simp only [List.getD_eq_getElem?_getD, List.getElem?_set]
  by_cases h : i = k
  · subst h
    by_cases h2 : i < a.length
    · simp [h2]
    · simp [h2]
  · simp [h]
theorem Bnd.add {a : List Int} {B : Nat} (h : Bnd a B) (j : Int) : Bnd (addJ a j) (B + 1) := by
  refine ⟨by simp [addJ, h.1], fun i => ?_⟩
  have h1 := h.2 i
  have h2 := h.2 j.toNat
  unfold addJ
  rw [getD_set]
  split <;> omega
theorem Bnd.adds {a : List Int} {B : Nat} (h : Bnd a B) (js : List Int) : Bnd (addJs a js) (B + js.length) := by
  induction js generalizing a B with
  | nil => exact h
  | cons j js ih =>
    have := ih (h.add j)
    rw [List.length_cons]
    simp only [addJs, List.foldl_cons] at this ⊢
    rw [show B + (js.length + 1) = B + 1 + js.length by omega]
    exact this
theorem Bnd.more {a : List Int} {B B' : Nat} (h : Bnd a B) (hB : B ≤ B') : Bnd a B' := ⟨h.1, fun i => by have := h.2 i; omega⟩
theorem lvJs_len (t : T2) : (lvJs t).length ≤ 9 := by
  unfold lvJs
  split
  · rename_i h
    have h2 := tvB_iff.1 h
    rw [cpl_len]; omega
  · simp
theorem bnd0 : Bnd (List.replicate 25 0) 0 := ⟨by simp, fun i => by
  rw [List.getD_eq_getElem?_getD, List.getElem?_replicate]
  split <;> simp⟩
theorem bnd_count (ts : List T2) : Bnd (countArr ts) (ts.length * 9) := by
  suffices h : ∀ (a : List Int) (B : Nat), Bnd a B → Bnd (ts.foldl (fun a t => addJs a (lvJs t)) a) (B + ts.length * 9) by
    have := h _ 0 bnd0
    rwa [Nat.zero_add] at this
  induction ts with
  | nil => intro a B h; simpa using h
  | cons t ts ih =>
    intro a B h
    have h1 := (h.adds (lvJs t)).more (show B + (lvJs t).length ≤ B + 9 by have := lvJs_len t; omega)
    have := ih _ _ h1
    simp only [List.foldl_cons, List.length_cons]
    rw [show B + (ts.length + 1) * 9 = B + 9 + ts.length * 9 by omega]
    exact this
theorem mem_lvJs {t : T2} {j : Int} (h : j ∈ lvJs t) : 0 ≤ j ∧ j ≤ 24 := by
  unfold lvJs at h
  split at h
  · rename_i hv
    have h2 := tvB_iff.1 hv
    simp only [cpl, cplTo, List.mem_map, List.mem_range] at h
    obtain ⟨i, hi, rfl⟩ := h
    omega
  · simp at h

/-- How many levels have the angular momentum j. -/
def cntJ (ts : List T2) (j : Int) : Int := (ts.countP fun t => decide (j ∈ lvJs t) : Nat)
def cntLev (ts : List T2) : Int := ((ts.map fun t => (lvJs t).length).sum : Nat)
theorem cntJ_snoc (ts : List T2) (t : T2) (j : Int) : cntJ (ts ++ [t]) j = cntJ ts j + if j ∈ lvJs t then 1 else 0 := by
  unfold cntJ; rw [List.countP_append]; by_cases h : j ∈ lvJs t <;> simp [h]
theorem cntLev_snoc (ts : List T2) (t : T2) : cntLev (ts ++ [t]) = cntLev ts + (lvJs t).length := by
  unfold cntLev; simp

theorem sum_set (a : List Int) (i : Nat) (v : Int) (h : i < a.length) : (a.set i v).sum = a.sum + v - a.getD i 0 := by
  induction a generalizing i with
  | nil => simp at h
  | cons x a ih =>
    cases i with
    | zero => simp; omega
    | succ i =>
      have := ih i (by simpa using h)
      simp only [List.set_cons_succ, List.sum_cons, List.getD_cons_succ, this]; omega
theorem sum_addJs (a js : List Int) (hl : a.length = 25) (hj : ∀ j ∈ js, 0 ≤ j ∧ j ≤ 24) : (addJs a js).sum = a.sum + js.length := by
  induction js generalizing a with
  | nil => simp [addJs]
  | cons j js ih =>
    have h1 := hj j (by simp)
    have := ih (addJ a j) (by simp [addJ, hl]) (fun x hx => hj x (by simp [hx]))
    simp only [addJs, List.foldl_cons] at this ⊢
    rw [this]
    unfold addJ
    rw [sum_set _ _ _ (by omega)]
    simp; omega
theorem sum_count (ts : List T2) : (countArr ts).sum = cntLev ts := by
  suffices h : ∀ (a : List Int), a.length = 25 → (ts.foldl (fun a t => addJs a (lvJs t)) a).sum = a.sum + cntLev ts by
    have := h (List.replicate 25 0) (by simp)
    rw [show (List.replicate 25 (0 : Int)).sum = 0 by decide, Int.zero_add] at this
    exact this
  induction ts with
  | nil => intro a _; simp [cntLev]
  | cons t ts ih =>
    intro a ha
    have h1 : (addJs a (lvJs t)).length = 25 := by
      have : ∀ (js a : List Int), (addJs a js).length = a.length := by
        intro js
        induction js with
        | nil => intro a; rfl
        | cons j js ih2 => intro a; simp only [addJs, List.foldl_cons] at ih2 ⊢; rw [ih2]; simp [addJ]
      rw [this, ha]
    rw [List.foldl_cons, ih _ h1, sum_addJs _ _ ha (fun j hj => mem_lvJs hj)]
    unfold cntLev
    simp; omega

theorem nodup_lvJs (t : T2) : (lvJs t).Nodup := by
  unfold lvJs
  split
  · unfold cpl cplTo List.Nodup
    rw [List.pairwise_map]
    exact List.pairwise_lt_range.imp (fun {x y} h => by omega)
  · exact List.nodup_nil
theorem getD_addJs (a js : List Int) (j : Int) (hl : a.length = 25) (hj : ∀ x ∈ js, 0 ≤ x ∧ x ≤ 24) (hn : js.Nodup) (h0 : 0 ≤ j) (h1 : j ≤ 24) :
    (addJs a js).getD j.toNat 0 = a.getD j.toNat 0 + if j ∈ js then 1 else 0 := by
  induction js generalizing a with
  | nil => simp [addJs]
  | cons x js ih =>
    have hx := hj x (by simp)
    have hn' := List.nodup_cons.1 hn
    have := ih (addJ a x) (by simp [addJ, hl]) (fun y hy => hj y (by simp [hy])) hn'.2
    simp only [addJs, List.foldl_cons] at this ⊢
    rw [this]
    unfold addJ
    rw [getD_set]
    by_cases h : j = x
    · subst h
      rw [if_pos ⟨rfl, by omega⟩, if_neg hn'.1, if_pos (by simp)]
      omega
    · rw [if_neg (by omega)]
      simp [h]
theorem len_addJs (js a : List Int) : (addJs a js).length = a.length := by
  induction js generalizing a with
  | nil => rfl
  | cons j js ih => simp only [addJs, List.foldl_cons] at ih ⊢; rw [ih]; simp [addJ]
theorem getD_count (ts : List T2) (j : Int) (h0 : 0 ≤ j) (h1 : j ≤ 24) : (countArr ts).getD j.toNat 0 = cntJ ts j := by
  suffices h : ∀ (a : List Int), a.length = 25 → (ts.foldl (fun a t => addJs a (lvJs t)) a).getD j.toNat 0 = a.getD j.toNat 0 + cntJ ts j by
    have := h (List.replicate 25 0) (by simp)
    unfold countArr
    rw [this, List.getD_eq_getElem?_getD, List.getElem?_replicate]
    split <;> simp
  induction ts with
  | nil => intro a _; simp [cntJ]
  | cons t ts ih =>
    intro a ha
    rw [List.foldl_cons, ih _ (by rw [len_addJs, ha]), getD_addJs _ _ _ ha (fun x hx => mem_lvJs hx) (nodup_lvJs t) h0 h1]
    unfold cntJ
    rw [List.countP_cons]
    by_cases h : j ∈ lvJs t <;> simp [h] <;> omega
/-- Out of the range there is no level. -/
theorem cntJ_out (ts : List T2) (j : Int) (h : j < 0 ∨ 24 < j) : cntJ ts j = 0 := by
  unfold cntJ
  rw [List.countP_eq_zero.2 ?_]
  · rfl
  · intro t _ hm
    have := mem_lvJs (of_decide_eq_true hm)
    omega
theorem cntJ_le (ts : List T2) (j : Int) : 0 ≤ cntJ ts j ∧ cntJ ts j ≤ ts.length := by
  unfold cntJ; exact ⟨by omega, by have := List.countP_le_length (p := fun t : T2 => decide (j ∈ lvJs t)) (l := ts); omega⟩
theorem cntLev_le (ts : List T2) : 0 ≤ cntLev ts ∧ cntLev ts ≤ ts.length * 9 := by
  unfold cntLev
  induction ts with
  | nil => simp
  | cons t ts ih =>
    have := lvJs_len t
    simp only [List.map_cons, List.sum_cons, List.length_cons]
    omega
end Go.Proofs.YtjglgcgkmfbdpaaDoor
