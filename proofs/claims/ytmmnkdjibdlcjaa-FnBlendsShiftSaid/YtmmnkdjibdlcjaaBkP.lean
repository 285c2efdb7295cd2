/- Blends: the groups of a list of numbers, in plain words. -/
import Derived.Test.YtmmnkdjibdlcjaaBlP
namespace Go.Proofs.Ytmmnkdjibdlcjaa

/-- A group begins at k. -/
def nwB (xs : List Int) (wd : Int) (k : Nat) : Bool := decide (k = 0) || decide (wd < gi xs k - gi xs (k - 1))
/-- After k numbers: the groups but the last. -/
def grI (xs : List Int) (wd : Int) : Nat → List (List Int) × List Int
  | 0 => ([], [])
  | k + 1 => if nwB xs wd k = true then (if k = 0 then [] else (grI xs wd k).1 ++ [(grI xs wd k).2], [gi xs k]) else ((grI xs wd k).1, (grI xs wd k).2 ++ [gi xs k])
def grL (xs : List Int) (wd : Int) (k : Nat) : List (List Int) := if k = 0 then [] else (grI xs wd k).1 ++ [(grI xs wd k).2]
def grN (xs : List Int) (wd : Int) : Nat → Nat
  | 0 => 0
  | k + 1 => if nwB xs wd k = true then grN xs wd k + 1 else grN xs wd k

theorem nwB_zero (xs : List Int) (wd : Int) : nwB xs wd 0 = true := by simp [nwB]
theorem nwB_succ {xs : List Int} {wd : Int} {k : Nat} : nwB xs wd (k + 1) = decide (wd < gi xs (k + 1) - gi xs k) := by simp [nwB]
theorem grI_new {xs : List Int} {wd : Int} {k : Nat} (h : nwB xs wd k = true) : grI xs wd (k + 1) = (grL xs wd k, [gi xs k]) := by
  show (if nwB xs wd k = true then _ else _) = _
  rw [if_pos h]; rfl
theorem grI_old {xs : List Int} {wd : Int} {k : Nat} (h : nwB xs wd k = false) : grI xs wd (k + 1) = ((grI xs wd k).1, (grI xs wd k).2 ++ [gi xs k]) := by
  show (if nwB xs wd k = true then _ else _) = _
  rw [if_neg (by simp [h])]
theorem grL_zero (xs : List Int) (wd : Int) : grL xs wd 0 = [] := rfl
theorem grL_succ (xs : List Int) (wd : Int) (k : Nat) : grL xs wd (k + 1) = (grI xs wd (k + 1)).1 ++ [(grI xs wd (k + 1)).2] := rfl
theorem grL_new {xs : List Int} {wd : Int} {k : Nat} (h : nwB xs wd k = true) : grL xs wd (k + 1) = grL xs wd k ++ [[gi xs k]] := by
  rw [grL_succ, grI_new h]
theorem grL_len (xs : List Int) (wd : Int) (k : Nat) : (grL xs wd k).length = grN xs wd k := by
  induction k with
  | zero => rfl
  | succ k ih =>
    show _ = (if nwB xs wd k = true then _ else _)
    cases h : nwB xs wd k
    · rw [if_neg (by simp), grL_succ, grI_old h, ← ih]
      cases k with
      | zero => rw [nwB_zero] at h; cases h
      | succ k => rw [grL_succ]; simp
    · rw [if_pos rfl, grL_new h, ← ih]; simp
theorem grN_le (xs : List Int) (wd : Int) (k : Nat) : grN xs wd k ≤ k := by
  induction k with
  | zero => exact Nat.le_refl _
  | succ k ih => unfold grN; split <;> omega
theorem grN_pos (xs : List Int) (wd : Int) (k : Nat) : 1 ≤ grN xs wd (k + 1) := by
  induction k with
  | zero => unfold grN; rw [nwB_zero]; simp
  | succ k ih => unfold grN; split <;> omega
theorem grN_more (xs : List Int) (wd : Int) (k : Nat) : grN xs (wd + 1) k ≤ grN xs wd k := by
  induction k with
  | zero => exact Nat.le_refl _
  | succ k ih =>
    unfold grN
    cases k with
    | zero => rw [nwB_zero, nwB_zero]; simp; exact ih
    | succ k =>
      rw [nwB_succ, nwB_succ]
      by_cases h : wd < gi xs (k + 1) - gi xs k
      · rw [if_pos (c := decide (wd < gi xs (k + 1) - gi xs k) = true) (by simpa using h)]; split <;> omega
      · rw [if_neg (c := decide (wd < gi xs (k + 1) - gi xs k) = true) (by simpa using h), if_neg (by simp; omega)]; exact ih
theorem grN_zero {xs : List Int} (h : ascB xs = true) (k : Nat) (hk : k ≤ xs.length) : grN xs 0 k = k := by
  induction k with
  | zero => rfl
  | succ k ih =>
    unfold grN
    have hn : nwB xs 0 k = true := by
      cases k with
      | zero => exact nwB_zero _ _
      | succ k => rw [nwB_succ]; have := ascB_iff.1 h k (by omega); simp; omega
    rw [if_pos hn, ih (by omega)]
theorem gr_flat (xs : List Int) (wd : Int) (k : Nat) (hk : k ≤ xs.length) : (grL xs wd k).flatten = xs.take k := by
  induction k with
  | zero => simp [grL]
  | succ k ih =>
    have := ih (by omega)
    rw [take_snoc (by omega), ← this]
    cases h : nwB xs wd k
    · rw [grL_succ, grI_old h]
      cases k with
      | zero => rw [nwB_zero] at h; cases h
      | succ k => rw [grL_succ]; simp
    · rw [grL_new h]; simp
theorem gr_ne (xs : List Int) (wd : Int) (k : Nat) : ∀ g ∈ grL xs wd k, g ≠ [] := by
  induction k with
  | zero => intro g hg; simp [grL] at hg
  | succ k ih =>
    intro g hg
    cases h : nwB xs wd k
    · rw [grL_succ, grI_old h] at hg
      cases k with
      | zero => rw [nwB_zero] at h; cases h
      | succ k =>
        rw [grL_succ] at ih
        simp only [List.mem_append, List.mem_singleton] at hg ih
        rcases hg with hg | rfl
        · exact ih g (.inl hg)
        · simp
    · rw [grL_new h] at hg
      simp only [List.mem_append, List.mem_singleton] at hg
      rcases hg with hg | rfl
      · exact ih g hg
      · simp

/-- A piece. -/
def sl (xs : List Int) (f t : Nat) : List Int := (xs.drop f).take (t - f)
theorem sl_len {xs : List Int} {f t : Nat} (ht : t ≤ xs.length) : (sl xs f t).length = t - f := by simp [sl]; omega
theorem sl_one {xs : List Int} {f : Nat} (h : f < xs.length) : sl xs f (f + 1) = [gi xs f] := by
  unfold sl
  rw [show f + 1 - f = 1 by omega, List.take_one, List.head?_drop, gi]
  rw [List.getElem?_eq_getElem h]; rfl
theorem sl_snoc {xs : List Int} {f t : Nat} (hf : f ≤ t) (h : t < xs.length) : sl xs f (t + 1) = sl xs f t ++ [gi xs t] := by
  unfold sl
  rw [show t + 1 - f = (t - f) + 1 by omega, List.take_succ_eq_append_getElem (by simp; omega), List.getElem_drop, gi_eq h]
  congr 3
  omega
/-- From the beginning f of a group up to t: no gap. -/
theorem gr_run {xs : List Int} {wd : Int} {f t : Nat} (hf : nwB xs wd f = true) (h : ∀ j, f < j → j < t → nwB xs wd j = false) (hft : f < t) (ht : t ≤ xs.length) :
    grI xs wd t = (grL xs wd f, sl xs f t) := by
  induction t with
  | zero => omega
  | succ t ih =>
    rcases Nat.lt_or_ge f t with h1 | h1
    · rw [grI_old (h t h1 (by omega)), ih (fun j a b => h j a (by omega)) h1 (by omega), sl_snoc (by omega) (by omega)]
    · obtain rfl : f = t := by omega
      rw [grI_new hf, sl_one (by omega)]
theorem gr_cut {xs : List Int} {wd : Int} {f t : Nat} (hf : nwB xs wd f = true) (h : ∀ j, f < j → j < t → nwB xs wd j = false) (hft : f < t) (ht : t ≤ xs.length) :
    grL xs wd t = grL xs wd f ++ [sl xs f t] := by
  unfold grL
  rw [if_neg (by omega), gr_run hf h hft ht]
  rfl

/-- Shifted. -/
theorem gi_map {xs : List Int} {k : Nat} (h : k < xs.length) : gi (xs.map (· + 1)) k = gi xs k + 1 := by
  rw [gi_eq (by simpa using h), gi_eq h]; simp
theorem nwB_shift (xs : List Int) (wd : Int) {k : Nat} (h : k < xs.length) : nwB (xs.map (· + 1)) wd k = nwB xs wd k := by
  cases k with
  | zero => rw [nwB_zero, nwB_zero]
  | succ k => rw [nwB_succ, nwB_succ, gi_map h, gi_map (by omega)]; congr 1; apply propext; omega
theorem gr_shift (xs : List Int) (wd : Int) (k : Nat) (hk : k ≤ xs.length) : grI (xs.map (· + 1)) wd k = ((grI xs wd k).1.map (·.map (· + 1)), (grI xs wd k).2.map (· + 1)) := by
  induction k with
  | zero => rfl
  | succ k ih =>
    have := ih (by omega)
    unfold grI
    rw [nwB_shift xs wd (by omega), this, gi_map (by omega)]
    split
    · split <;> simp
    · simp
theorem grL_shift (xs : List Int) (wd : Int) (k : Nat) (hk : k ≤ xs.length) : grL (xs.map (· + 1)) wd k = (grL xs wd k).map (·.map (· + 1)) := by
  unfold grL
  split
  · rfl
  · rw [gr_shift xs wd k hk]; simp
theorem asc_shift (xs : List Int) : ascB (xs.map (· + 1)) = ascB xs := by
  rw [Bool.eq_iff_iff, ascB_iff, ascB_iff]
  simp only [List.length_map]
  constructor
  · intro h i hi; have := h i hi; rw [gi_map (by omega), gi_map (by omega)] at this; omega
  · intro h i hi; have := h i hi; rw [gi_map (by omega), gi_map (by omega)]; omega
theorem gap_shift (xs : List Int) (k : Nat) (hk : k < xs.length ∨ k = 0) : gapF (xs.map (· + 1)) k = gapF xs k := by
  induction k with
  | zero => rfl
  | succ k ih =>
    unfold gapF
    rw [ih (by omega), gi_map (by omega), gi_map (by omega)]
    split <;> split <;> omega
theorem bw_shift (xs : List Int) : bwF (xs.map (· + 1)) = bwF xs := by
  unfold bwF
  rw [asc_shift, List.length_map, gap_shift]
  omega
/-- What BlendsOf gives. -/
def blOk (xs : List Int) (wd : Int) : Bool := ascB xs && decide (0 ≤ wd) && decide (wd ≤ 200000)
def blG (xs : List Int) (wd : Int) : List (List Int) := if blOk xs wd = true then grL xs wd xs.length else []
def blM (xs : List Int) (wd : Int) : Int := if blOk xs wd = true then (grN xs wd xs.length : Int) else -1
theorem grN_one (xs : List Int) (wd : Int) : grN xs wd 1 = 1 := by
  show (if nwB xs wd 0 = true then grN xs wd 0 + 1 else grN xs wd 0) = 1
  rw [nwB_zero]; rfl
theorem len_flat {gs : List (List Int)} {g : List Int} (h : g ∈ gs) : g.length ≤ gs.flatten.length := by
  induction gs with
  | nil => cases h
  | cons a gs ih =>
    rw [List.flatten_cons, List.length_append]
    rcases List.mem_cons.1 h with rfl | h
    · omega
    · have := ih h; omega
theorem blG_bd (xs : List Int) (wd : Int) : (blG xs wd).length ≤ xs.length ∧ ∀ g ∈ blG xs wd, g.length ≤ xs.length := by
  unfold blG
  split
  · refine ⟨by rw [grL_len]; exact grN_le _ _ _, fun g hg => ?_⟩
    have := len_flat hg
    rw [gr_flat _ _ _ (Nat.le_refl _), List.take_length] at this
    exact this
  · simp
end Go.Proofs.Ytmmnkdjibdlcjaa
