/- Lists of lists of numbers: how they lie in memory. -/
import Derived.Test.YtmmnkdjibdlcjaaBkP
import Derived.Test.YtmmnkdjibdlcjaaApp
namespace Go.Proofs.Ytmmnkdjibdlcjaa
open Go.RowKit

/-- The slice A, n, c holds the groups gs. -/
def Grps (w : World) (A : Option Addr) (n c : Nat) (gs : List (List Int)) : Prop :=
  n ≤ c ∧ ∃ vs : List Value, vs.length = n ∧ gs.length = n ∧ Reads w w.heap.size 1 A n vs ∧
    ∀ (k : Nat) (g : List Int), gs[k]? = some g → ∃ (A' : Option Addr) (c' : Nat), vs[k]? = some (Value.slice A' g.length c') ∧ g.length ≤ c' ∧ Reads w w.heap.size 1 A' g.length (icells g)
theorem Grps.below {w w' : World} {A : Option Addr} {n c : Nat} {gs : List (List Int)} (h : Grps w A n c gs) (hb : Below w.heap.size w w') : Grps w' A n c gs := by
  obtain ⟨h0, vs, h1, h2, h3, h4⟩ := h
  refine ⟨h0, vs, h1, h2, (h3.below hb).more hb.size, fun k g hg => ?_⟩
  obtain ⟨A', c', e, hc, hr⟩ := h4 k g hg
  exact ⟨A', c', e, hc, (hr.below hb).more hb.size⟩
theorem Grps.len {w : World} {A : Option Addr} {n c : Nat} {gs : List (List Int)} (h : Grps w A n c gs) : gs.length = n := by
  obtain ⟨_, vs, _, h2, _⟩ := h; exact h2
theorem Grps.at {w : World} {A : Option Addr} {n c : Nat} {gs : List (List Int)} (h : Grps w A n c gs) {k : Nat} (hk : k < n) :
    ∃ (b off : Nat) (A' : Option Addr) (c' : Nat) (g : List Int), A = some ⟨b, off, none⟩ ∧ b < w.heap.size ∧ gs[k]? = some g ∧ w.cell? ⟨b, off + k, none⟩ = some (Value.slice A' g.length c') ∧ g.length ≤ c' ∧ Reads w w.heap.size 1 A' g.length (icells g) := by
  obtain ⟨_, vs, h1, h2, h3, h4⟩ := h
  obtain ⟨b, off, rfl, hb, hc⟩ := h3.2 (by omega)
  have hk' : k < gs.length := by omega
  obtain ⟨A', c', e, hl, hr⟩ := h4 k gs[k] (List.getElem?_eq_getElem hk')
  exact ⟨b, off, A', c', gs[k], rfl, hb, List.getElem?_eq_getElem hk', hc _ _ e, hl, hr⟩
theorem grps_nil (w : World) (A : Option Addr) : Grps w A 0 0 [] := ⟨Nat.le_refl _, [], rfl, rfl, ⟨rfl, fun h => absurd h (Nat.lt_irrefl _)⟩, fun k g h => by simp at h⟩
theorem elSl : ElemOk Try.prog 26 23 1 24 := elemOk Try.underlying26 (z := .slice none 0 0) (by kernel_rfl) rfl (by omega)
theorem icells_one (xs : List Int) : ∀ u ∈ icells xs, u.oneCell' = true := by
  intro u hu
  obtain ⟨x, _, rfl⟩ := List.mem_map.1 hu
  rfl
/-- A row of numbers, its block known whole, below block B. -/
def IRow (w : World) (B : Nat) (A' : Option Addr) (xs : List Int) : Prop :=
  0 < xs.length → ∃ (g : Nat) (cur : Array Value), A' = some ⟨g, 0, none⟩ ∧ g < B ∧ Blk w g 3 cur ∧ Filled cur (icells xs)
theorem IRow.reads {w : World} {B : Nat} {A' : Option Addr} {xs : List Int} (h : IRow w B A' xs) : Reads w B 1 A' xs.length (icells xs) :=
  ⟨by rw [icells_len]; omega, fun hn => by
    obtain ⟨g, cur, rfl, hg, hb, hf⟩ := h hn
    exact ⟨g, 0, rfl, hg, fun j u hu => by rw [Nat.zero_add, hb.cell]; exact hf j u hu⟩⟩
theorem irow_own {w : World} {base n c : Nat} {A : Option Addr} {xs : List Int} (hl : xs.length = n) (h : w.ownsRow base 3 1 (.slice A n c) n (icells xs)) : IRow w w.heap.size A xs := by
  intro hn
  obtain ⟨g, cur, e, _, hb, hf⟩ := own_blk h (by omega)
  exact ⟨g, cur, e, hb.lt, hb, hf⟩
/-- The slice values hold the groups, in blocks below B. -/
def Vals (w : World) (B : Nat) (vs : List Value) (gs : List (List Int)) : Prop :=
  vs.length = gs.length ∧ ∀ (k : Nat) (g : List Int), gs[k]? = some g → ∃ (A' : Option Addr) (c' : Nat), vs[k]? = some (Value.slice A' g.length c') ∧ g.length ≤ c' ∧ IRow w B A' g
theorem vals_nil (w : World) (B : Nat) : Vals w B [] [] := ⟨rfl, fun k g h => by simp at h⟩
theorem Vals.snoc {w : World} {B : Nat} {vs : List Value} {gs : List (List Int)} (h : Vals w B vs gs) {A' : Option Addr} {c' : Nat} {g : List Int} (hc : g.length ≤ c') (hr : IRow w B A' g) :
    Vals w B (vs ++ [.slice A' g.length c']) (gs ++ [g]) := by
  refine ⟨by simp [h.1], fun k q hq => ?_⟩
  rcases Nat.lt_or_ge k gs.length with hk | hk
  · rw [List.getElem?_append_left hk] at hq
    obtain ⟨A2, c2, e, h1, h2⟩ := h.2 k q hq
    exact ⟨A2, c2, by rw [List.getElem?_append_left (by rw [h.1]; exact hk)]; exact e, h1, h2⟩
  · have hk : k = gs.length := by
      rcases Nat.lt_or_ge k (gs.length + 1) with h1 | h1
      · omega
      · rw [List.getElem?_eq_none (by simp; omega)] at hq; cases hq
    subst hk
    simp at hq
    subst hq
    exact ⟨A', c', by rw [← h.1]; simp, hc, hr⟩
theorem Vals.map {w w' : World} {B B' : Nat} {vs : List Value} {gs : List (List Int)} (h : Vals w B vs gs) (hf : ∀ g cur, g < B → Blk w g 3 cur → g < B' ∧ Blk w' g 3 cur) : Vals w' B' vs gs :=
  ⟨h.1, fun k g hg => by
    obtain ⟨A', c', e, h1, h2⟩ := h.2 k g hg
    refine ⟨A', c', e, h1, fun hn => ?_⟩
    obtain ⟨q, cur, e2, hq, hb, hfl⟩ := h2 hn
    obtain ⟨k1, k2⟩ := hf q cur hq hb
    exact ⟨q, cur, e2, k1, k2, hfl⟩⟩
theorem Vals.more {w : World} {B B' : Nat} {vs : List Value} {gs : List (List Int)} (h : Vals w B vs gs) (hB : B ≤ B') : Vals w B' vs gs := h.map fun _ _ hg hb => ⟨by omega, hb⟩
theorem Vals.below {w w' : World} {B : Nat} {vs : List Value} {gs : List (List Int)} (h : Vals w B vs gs) (hk : Below B w w') : Vals w' B vs gs := h.map fun _ _ hg hb => ⟨hg, hb.below hk hg⟩
theorem Vals.keepT {w w' : World} {B : Nat} {e : TypeId} {vs : List Value} {gs : List (List Int)} (h : Vals w B vs gs) (hk : KeepT e w w') (he : 3 ≠ e) : Vals w' B vs gs := h.map fun _ _ hg hb => ⟨hg, hb.keepT hk he⟩
theorem Vals.grps {w : World} {base n c B : Nat} {A : Option Addr} {e : TypeId} {vs : List Value} {gs : List (List Int)} (h : Vals w B vs gs) (hB : B ≤ w.heap.size) (hc : n ≤ c) (ho : w.ownsRow base e 1 (.slice A n c) n vs) : Grps w A n c gs := by
  have hl : vs.length = n := by have := (own_reads ho).1; simpa using this
  refine ⟨hc, vs, hl, by rw [← h.1]; exact hl, own_reads ho, fun k g hg => ?_⟩
  obtain ⟨A', c', e, h1, h2⟩ := h.2 k g hg
  exact ⟨A', c', e, h1, h2.reads.more hB⟩
/-- A literal row. -/
theorem own_lit {w : World} {L : Nat} {e : TypeId} {n : Nat} {cs : Array Value} (h : Blk w L e cs) (hn : cs.size = n) (hm : n ≤ 1000) : w.ownsRow L e 1 (.slice (some ⟨L, 0, none⟩) n n) n cs.toList := by
  refine ⟨by simp [hn], .inr ⟨L, n, cs, rfl, Nat.le_refl _, h, Nat.le_refl _, by unfold maxLen; omega, by omega, ?_⟩⟩
  rw [List.take_of_length_le]
  simp [hn]
/-- The last cell of a row is written. -/
theorem own_last {w : World} {base : Nat} {e : TypeId} {n c b : Nat} {vi : List Value} {u v : Value} (h : w.ownsRow base e 1 (.slice (some ⟨b, 0, none⟩) n c) n (vi ++ [u])) (hn : n = vi.length + 1) :
    (w.setCell ⟨b, vi.length, none⟩ v).ownsRow base e 1 (.slice (some ⟨b, 0, none⟩) n c) n (vi ++ [v]) := by
  subst hn
  refine ⟨by simp, ?_⟩
  rcases h.2 with ⟨hv, _⟩ | ⟨g, cap, cur, hv, hb, hh, hnc, hm, hs, ht⟩
  · cases hv
  · injection hv with hv1 _ hv3
    injection hv1 with hv1
    injection hv1 with hv1
    subst hv1 hv3
    refine .inr ⟨b, c, cur.setIfInBounds vi.length v, rfl, hb, ?_, hnc, hm, by simpa using hs, ?_⟩
    · exact Blk.set (t := e) hh vi.length v
    · rw [Nat.mul_one] at ht ⊢
      rw [Array.toList_setIfInBounds, List.take_set, ht]
      simp
end Go.Proofs.Ytmmnkdjibdlcjaa
