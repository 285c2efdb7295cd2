/- Blends: the reference's groups. -/
import Derived.Test.YtmmnkdjibdlcjaaBk1
import Derived.Deep.RegionHeld3
import Derived.Deep.RegionLaw
namespace Go.Proofs.Ytmmnkdjibdlcjaa
open Go.RowKit
attribute [local go_sem ↓] Go.wp_at_zero Go.wp_at_succ

theorem wpList_app1K {P : Program} (w : World) {ops : Array Oper} {rest : List Oper} {o : Oper} {a : Act} {Q : Exit → Act → World → Prop} (hgd : o.guard = none) (s x : Operand) (t : TypeId)
    (ho : o.op = .call { callee := .builtin .append, args := #[s, x], argTypes := #[t, t] })
    (base : Nat) (e : TypeId) (size bytes : Nat) (hE : ElemOk P t e size bytes)
    (A : Option Addr) (c n : Nat) (xs : List Value) (hs : a.eval s = .slice A n c) (hown : w.ownsRow base e size (.slice A n c) n xs)
    (L : Nat) (cs : Array Value) (hx : a.eval x = .slice (some ⟨L, 0, none⟩) 1 1) (hL : Blk w L e cs) (hcs : cs.size = size) (h1 : ∀ u ∈ cs.toList, u.oneCell' = true)
    (hn : n ≤ 1000000) (hby : bytes ≤ 1000000) (hbase : base ≤ w.heap.size)
    (h : ∀ A' c' w', w'.ownsRow base e size (.slice A' (n + 1) c') (n + 1) (xs ++ cs.toList) → n + 1 ≤ c' → Below base w w' → KeepT e w w' → wpList P ops Q rest (a.put o.dst (.slice A' (n + 1) c')) w') : wpList P ops Q (o :: rest) a w := by
  obtain ⟨ht, i, z, hi, hz, hsize, hbytes, hzs, hsz⟩ := hE
  refine wpList_append_own w hgd s x t ho base e i z size bytes ht hi hz hsize hbytes hzs hsz _ n xs hs hown ⟨L, 0, none⟩ 1 1 cs.toList hx (by simp [hcs]) ?_ h1 (by unfold maxLen; omega) ?_ hbase ?_
  · intro j u hj
    have : (⟨L, 0, none⟩ : Addr).add j = ⟨L, j, none⟩ := by unfold Addr.add; split <;> simp_all
    rw [this, hL.cell]
    simpa using hj
  · calc (n + 1) * bytes ≤ 1000001 * 1000000 := Nat.mul_le_mul (by omega) hby
      _ ≤ _ := by omega
  · intro v' w' hown' hg _
    obtain ⟨A', c', rfl, hc'⟩ := own_form hown'
    refine h A' c' w' hown' hc' ?_ (keepT_of hown hg)
    exact (Below.refl base w).grown hg hbase (fun k hk => (hown.lt k hk).1)

/-- After k numbers: the groups, and the row of the last one. -/
def RI (wr : World) (B0 : Nat) (xs : List Int) (wd : Int) (k : Nat) (vs : List Value) : Prop :=
  (k = 0 ∧ vs = []) ∨ (0 < k ∧ ∃ (vi : List Value) (A2 : Option Addr) (n2 c2 D : Nat), vs = vi ++ [Value.slice A2 n2 c2] ∧ Vals wr D vi (grI xs wd k).1 ∧ n2 ≤ c2 ∧ (grI xs wd k).2.length = n2 ∧ wr.ownsRow D 3 1 (.slice A2 n2 c2) n2 (icells (grI xs wd k).2) ∧ B0 ≤ D ∧ D ≤ wr.heap.size)
theorem RI.vals {wr : World} {B0 : Nat} {xs : List Int} {wd : Int} {k : Nat} {vs : List Value} (h : RI wr B0 xs wd k vs) : Vals wr wr.heap.size vs (grL xs wd k) := by
  rcases h with ⟨rfl, rfl⟩ | ⟨hk, vi, A2, n2, c2, D, rfl, h1, h2, rfl, h4, _, h6⟩
  · exact vals_nil _ _
  · unfold grL
    rw [if_neg (by omega)]
    exact (h1.more h6).snoc h2 (irow_own rfl h4)
theorem RI.below {wr w' : World} {B0 : Nat} {xs : List Int} {wd : Int} {k : Nat} {vs : List Value} (h : RI wr B0 xs wd k vs) (hb : Below wr.heap.size wr w') : RI w' B0 xs wd k vs := by
  rcases h with ⟨rfl, rfl⟩ | ⟨hk, vi, A2, n2, c2, D, rfl, h1, h2, h3, h4, h5, h6⟩
  · exact .inl ⟨rfl, rfl⟩
  · exact .inr ⟨hk, vi, A2, n2, c2, D, rfl, h1.below (hb.mono h6), h2, h3, own_below h4 hb, h5, Nat.le_trans h6 hb.size⟩
/-- A new group. -/
theorem ri_new {wr w3 : World} {B0 k : Nat} {xs : List Int} {wd : Int} {vs : List Value} (h : RI wr B0 xs wd k vs) (hnw : nwB xs wd k = true) (hB0 : B0 ≤ wr.heap.size)
    (hL : Blk w3 wr.heap.size 3 #[.int .i64 (gi xs k)]) (hk : KeepT 23 ((wr.alloc (.cells #[.int .i64 (gi xs k)] 3)).alloc (.cells #[.slice (some ⟨wr.heap.size, 0, none⟩) 1 1] 23)) w3) (hs : wr.heap.size ≤ w3.heap.size) :
    RI w3 B0 xs wd (k + 1) (vs ++ [.slice (some ⟨wr.heap.size, 0, none⟩) 1 1]) := by
  refine .inr ⟨by omega, vs, _, 1, 1, wr.heap.size, rfl, ?_, Nat.le_refl _, by rw [grI_new hnw]; rfl, ?_, hB0, hs⟩
  · rw [grI_new hnw]
    have hb : Below wr.heap.size wr ((wr.alloc (.cells #[.int .i64 (gi xs k)] 3)).alloc (.cells #[.slice (some ⟨wr.heap.size, 0, none⟩) 1 1] 23)) := ((Below.refl _ _).alloc (Nat.le_refl _) _).alloc (by simp) _
    exact (h.vals.below hb).keepT hk (by decide)
  · rw [grI_new hnw]
    exact own_lit hL rfl (by omega)
theorem ri_len {wr : World} {B0 : Nat} {xs : List Int} {wd : Int} {k : Nat} {vs : List Value} (h : RI wr B0 xs wd k vs) : vs.length = grN xs wd k := by
  rw [h.vals.1, grL_len]
theorem grT_len (xs : List Int) (wd : Int) (k : Nat) : (grI xs wd k).2.length ≤ k := by
  induction k with
  | zero => exact Nat.le_refl _
  | succ k ih =>
    unfold grI
    split
    · simp
    · simp; exact ih
end Go.Proofs.Ytmmnkdjibdlcjaa
