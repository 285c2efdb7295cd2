/- Lists of integers: how they lie in memory; plain facts. -/
import Derived.Test.YtmmnkdjibdlcjaaT0
import Derived.Test.YtmmnkdjibdlcjaaAfter
import Derived.Test.YtmmnkdjibdlcjaaOpen
import Derived.Test.YtmmnkdjibdlcjaaWords2
namespace Go.Proofs.Ytmmnkdjibdlcjaa
open Go.RowKit

def icells (xs : List Int) : List Value := xs.map (Value.int .i64)
def gi (xs : List Int) (k : Nat) : Int := xs[k]?.getD 0
theorem icells_len (xs : List Int) : (icells xs).length = xs.length := by simp [icells]
theorem icells_snoc (xs : List Int) (x : Int) : icells (xs ++ [x]) = icells xs ++ [.int .i64 x] := by simp [icells]
theorem icells_take (xs : List Int) (k : Nat) : icells (xs.take k) = (icells xs).take k := by simp [icells, List.map_take]
theorem icells_drop (xs : List Int) (k : Nat) : icells (xs.drop k) = (icells xs).drop k := by simp [icells, List.map_drop]
theorem icells_set (xs : List Int) (k : Nat) (x : Int) : icells (xs.set k x) = (icells xs).set k (.int .i64 x) := by simp [icells, List.map_set]
theorem gi_eq {xs : List Int} {k : Nat} (h : k < xs.length) : gi xs k = xs[k] := by simp [gi, List.getElem?_eq_getElem h]
theorem icells_at {xs : List Int} {k : Nat} (h : k < xs.length) : (icells xs)[k]? = some (.int .i64 (gi xs k)) := by
  simp [icells, gi, List.getElem?_eq_getElem h]
theorem gi_mem {xs : List Int} {k : Nat} (h : k < xs.length) : gi xs k ∈ xs := by rw [gi_eq h]; exact List.getElem_mem h
theorem gi_snoc_lt {xs : List Int} {x : Int} {k : Nat} (h : k < xs.length) : gi (xs ++ [x]) k = gi xs k := by
  unfold gi; rw [List.getElem?_append_left h]
theorem gi_snoc_eq {xs : List Int} {x : Int} : gi (xs ++ [x]) xs.length = x := by simp [gi]
theorem gi_take {xs : List Int} {k i : Nat} (h : i < k) : gi (xs.take k) i = gi xs i := by
  unfold gi; rw [List.getElem?_take, if_pos h]
theorem take_snoc {xs : List Int} {k : Nat} (h : k < xs.length) : xs.take (k + 1) = xs.take k ++ [gi xs k] := by
  rw [List.take_succ_eq_append_getElem h, gi_eq h]
theorem ext_gi {xs ys : List Int} (hl : xs.length = ys.length) (h : ∀ k, k < xs.length → gi xs k = gi ys k) : xs = ys := by
  apply List.ext_getElem hl
  intro i h1 h2
  have := h i h1
  rwa [gi_eq h1, gi_eq h2] at this

theorem Reads.int {w : World} {B : Nat} {A : Option Addr} {n : Nat} {xs : List Int} (h : Reads w B 1 A n (icells xs)) {k : Nat} (hk : k < n) :
    ∃ b off, A = some ⟨b, off, none⟩ ∧ b < B ∧ w.cell? ⟨b, off + k, none⟩ = some (.int .i64 (gi xs k)) := by
  obtain ⟨b, off, e, hb, hc⟩ := h.2 (by omega)
  have hl := h.1; rw [icells_len] at hl
  exact ⟨b, off, e, hb, hc _ _ (icells_at (by omega))⟩
/-- A list of integers in memory of its own, from block base on. -/
def LstI (w : World) (base : Nat) (A : Option Addr) (n c : Nat) (xs : List Int) : Prop :=
  n ≤ c ∧ xs.length = n ∧ Reads w w.heap.size 1 A n (icells xs) ∧ (0 < n → ∀ a, A = some a → base ≤ a.block)
theorem LstI.gb {w w' : World} {base R n c : Nat} {A : Option Addr} {xs : List Int} (h : LstI w base A n c xs) (hg : w.grownBy w' (some R)) (hR : R < base) : LstI w' base A n c xs := by
  obtain ⟨h1, h2, h3, h4⟩ := h
  refine ⟨h1, h2, ⟨h3.1, fun hn => ?_⟩, h4⟩
  obtain ⟨b, off, rfl, hb, hc⟩ := h3.2 hn
  have := h4 hn _ rfl
  exact ⟨b, off, rfl, Nat.lt_of_lt_of_le hb hg.size, fun j u hu => (World.cell?_of_block (hg.block b hb (by simp; simp at this; omega))).trans (hc j u hu)⟩
theorem LstI.below {w w' : World} {base n c : Nat} {A : Option Addr} {xs : List Int} (h : LstI w base A n c xs) (hb : Below w.heap.size w w') : LstI w' base A n c xs := by
  obtain ⟨h1, h2, h3, h4⟩ := h
  exact ⟨h1, h2, (h3.below hb).more hb.size, h4⟩
theorem LstI.mono {w : World} {base base' n c : Nat} {A : Option Addr} {xs : List Int} (h : LstI w base A n c xs) (hb : base' ≤ base) : LstI w base' A n c xs :=
  ⟨h.1, h.2.1, h.2.2.1, fun hn a ha => Nat.le_trans hb (h.2.2.2 hn a ha)⟩
theorem LstI.reads {w : World} {base n c : Nat} {A : Option Addr} {xs : List Int} (h : LstI w base A n c xs) : Reads w w.heap.size 1 A n (icells xs) := h.2.2.1
theorem LstI.len {w : World} {base n c : Nat} {A : Option Addr} {xs : List Int} (h : LstI w base A n c xs) : xs.length = n := h.2.1
theorem own_blk {w : World} {base : Nat} {e : TypeId} {size n c : Nat} {A : Option Addr} {xs : List Value} (h : w.ownsRow base e size (.slice A n c) n xs) (hn : 0 < n) :
    ∃ g cur, A = some ⟨g, 0, none⟩ ∧ base ≤ g ∧ Blk w g e cur ∧ Filled cur xs := by
  have hr := own_reads h
  rcases h.2 with ⟨hv, h0⟩ | ⟨g, cap, cur, hv, hb, hh, _⟩
  · omega
  · have hA : A = some ⟨g, 0, none⟩ := by injection hv
    subst hA
    obtain ⟨b, off, e1, _, hc⟩ := hr.2 hn
    cases e1
    refine ⟨g, cur, rfl, hb, hh, fun j u hu => ?_⟩
    have := hc j u hu
    rw [Nat.zero_add] at this
    rw [← this]
    exact (Blk.cell (t := e) hh j).symm
theorem Filled.set {cs : Array Value} {vs : List Value} (h : Filled cs vs) (j : Nat) (u : Value) : Filled (cs.setIfInBounds j u) (vs.set j u) := by
  intro i x hx
  rw [Array.getElem?_setIfInBounds]
  rw [List.getElem?_set] at hx
  by_cases hij : j = i
  · subst hij
    rw [if_pos rfl] at hx ⊢
    split at hx
    · have hl : j < vs.length := by assumption
      have := h j _ (List.getElem?_eq_getElem hl)
      have hs : j < cs.size := by
        rcases Nat.lt_or_ge j cs.size with h1 | h1
        · exact h1
        · rw [Array.getElem?_eq_none h1] at this; cases this
      rw [if_pos hs]; exact hx
    · cases hx
  · rw [if_neg hij] at hx ⊢
    exact h i x hx
theorem lstI_own {w : World} {base n c : Nat} {A : Option Addr} {xs : List Int} {e : TypeId} (hc : n ≤ c) (hl : xs.length = n) (h : w.ownsRow base e 1 (.slice A n c) n (icells xs)) : LstI w base A n c xs :=
  ⟨hc, hl, own_reads h, fun hn a ha => by
    obtain ⟨g, cur, rfl, hb, _⟩ := own_blk h hn
    cases ha; exact hb⟩
theorem elInt : ElemOk Try.prog 23 3 1 8 := elemOk Try.underlying23 (z := .int .i64 0) (by kernel_rfl) rfl (by omega)
theorem below_drewN {B : Nat} {a w : World} (h : Below B a w) (n : Nat) : Below B a (w.drewN n) := ⟨h.os, h.tape, h.output, h.size, h.block⟩
end Go.Proofs.Ytmmnkdjibdlcjaa
