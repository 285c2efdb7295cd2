/- Appending one element to a row of the call's own: blocks apart from the row stay as they are, and stay apart. -/
import Derived.Test.YtjglgcgkmfbdpaaDoorWords
import Derived.Maps.AppendAt
import Derived.OwnWalk
namespace Go.Proofs.YtjglgcgkmfbdpaaDoor
open Go.RowKit

/-- Block T is apart from the slice value v. -/
def Apart (v : Value) (T : Nat) : Prop := v.ownBlock ≠ some T
theorem apart_nil (T : Nat) : Apart (.slice none 0 0) T := by simp [Apart, Value.ownBlock]
theorem apart_new {w : World} {base : Nat} {e : TypeId} {size n : Nat} {v : Value} {xs : List Value} (h : w.ownsRow base e size v n xs) {T : Nat} (hT : w.heap.size ≤ T) : Apart v T := fun e' => by
  have := (h.lt T e').2; omega
def Others (v : Value) (w : World) (v' : Value) (w' : World) : Prop := ∀ T, T < w.heap.size → Apart v T → Apart v' T ∧ w'.heap[T]? = w.heap[T]?
theorem Others.blk {v v' : Value} {w w' : World} (h : Others v w v' w') {T : Nat} {t : TypeId} {cs : Array Value} (hb : Blk w T t cs) (ha : Apart v T) : Apart v' T ∧ Blk w' T t cs :=
  ⟨(h T hb.lt ha).1, (h T hb.lt ha).2.trans hb⟩
theorem blk_of_row {P : Program} {w : World} {ty t e : TypeId} {size bytes : Nat} (hE : ElemOk P t e size bytes) {base : Nat} {v : Value} {n : Nat} {xs : List Value} (hown : w.ownsRow base e size v n xs)
    {ad : Addr} {m c : Nat} {news : List Value} (hl : news.length = m * size) (hnews : ∀ j u, news[j]? = some u → w.cell? (ad.add j) = some u) (h1 : ∀ u ∈ news, u.oneCell' = true) (hm : 0 < m) (hn : n + m ≤ 1000000) (hby : bytes ≤ 1000000)
    {v' : Value} {w' : World} (hr : (Builtin.append_ #[t, t] ty #[v, .slice (some ad) m c]).run P w = .ok v' w') : v'.ownBlock = v.ownBlock ∨ v'.ownBlock = some w.heap.size := by
  obtain ⟨ht, i, z, hi, hz, hsize, hbytes, hzs, hsz⟩ := hE
  subst hsize
  have hbb : (n + m) * i.bytes ≤ 140737488355328 := by
    rw [hbytes]
    calc (n + m) * bytes ≤ 1000000 * 1000000 := Nat.mul_le_mul hn hby
      _ ≤ _ := by omega
  rcases hown.2 with ⟨rfl, rfl⟩ | ⟨g, cap, cur, rfl, hbg, hg, hnc, hcm, hcs, htake⟩
  · have hr2 := run_append_nil (P := P) (w := w) t ty e i z ht hi hz ad m c news hl hnews hm (by omega) (by simp only [Nat.zero_add] at hbb; omega)
    rw [hr] at hr2
    injection hr2 with h _
    subst h
    exact .inr rfl
  · by_cases hroom : n + m ≤ cap
    · have hfit : n * i.size + news.length ≤ cur.size := by rw [hl, hcs, ← Nat.add_mul]; exact Nat.mul_le_mul_right _ hroom
      have hr2 := run_append_room (P := P) (w := w) t ty e i ht hi g n cap cur hg ad m c news hl hnews h1 hroom hfit
      rw [hr] at hr2
      injection hr2 with h _
      subst h
      exact .inl rfl
    · have holds : ∀ j u, xs[j]? = some u → w.cell? ((⟨g, 0, none⟩ : Addr).add j) = some u := hown.cells (g := g) rfl
      have hr2 := run_append_grow (P := P) (w := w) t ty e i z ht hi hz ⟨g, 0, none⟩ n cap xs hown.1 holds ad m c news hl hnews (by omega) (by omega) (growslice_fits (by omega) hbb)
      rw [hr] at hr2
      injection hr2 with h _
      subst h
      exact .inr rfl

theorem wpList_app1B {P : Program} (w : World) {ops : Array Oper} {rest : List Oper} {o : Oper} {a : Act} {Q : Exit → Act → World → Prop} (hgd : o.guard = none) (s x : Operand) (t : TypeId)
    (ho : o.op = .call { callee := .builtin .append, args := #[s, x], argTypes := #[t, t] })
    (base : Nat) (e : TypeId) (size bytes : Nat) (hE : ElemOk P t e size bytes)
    (A : Option Addr) (c n : Nat) (xs : List Value) (hs : a.eval s = .slice A n c) (hown : w.ownsRow base e size (.slice A n c) n xs)
    (L : Nat) (cs : Array Value) (hx : a.eval x = .slice (some ⟨L, 0, none⟩) 1 1) (hL : Blk w L e cs) (hcs : cs.size = size) (h1 : ∀ u ∈ cs.toList, u.oneCell' = true)
    (hn : n ≤ 999999) (hby : bytes ≤ 1000000) (hbase : base ≤ w.heap.size)
    (h : ∀ A' c' w', w'.ownsRow base e size (.slice A' (n + 1) c') (n + 1) (xs ++ cs.toList) → n + 1 ≤ c' → Below base w w' → Others (.slice A n c) w (.slice A' (n + 1) c') w' → wpList P ops Q rest (a.put o.dst (.slice A' (n + 1) c')) w') : wpList P ops Q (o :: rest) a w := by
  have hl : cs.toList.length = 1 * size := by simp [hcs]
  have hnews : ∀ j u, cs.toList[j]? = some u → w.cell? ((⟨L, 0, none⟩ : Addr).add j) = some u := by
    intro j u hj
    have : (⟨L, 0, none⟩ : Addr).add j = ⟨L, j, none⟩ := by unfold Addr.add; split <;> simp_all
    rw [this, hL.cell]
    simpa using hj
  have hE' := hE
  obtain ⟨ht, i, z, hi, hz, hsize, hbytes, hzs, hsz⟩ := hE
  obtain ⟨v', w', hrun, hown', hg, _⟩ := run_append_own (P := P) (w := w) base t o.type e i z size bytes ht hi hz hsize hbytes hzs hsz _ n xs hown ⟨L, 0, none⟩ 1 1 cs.toList hl hnews h1 (by unfold maxLen; omega) (by
    calc (n + 1) * bytes ≤ 1000001 * 1000000 := Nat.mul_le_mul (by omega) hby
      _ ≤ _ := by omega) hbase
  have hbk := blk_of_row hE' hown hl hnews h1 (by omega) (by omega) hby hrun
  obtain ⟨A', c', rfl, hc'⟩ := own_form hown'
  have hb : Below base w w' := (Below.refl base w).grown hg hbase (fun k hk => (hown.lt k hk).1)
  refine wpList_plain hgd fun _ hK => ?_
  unfold Oper.wp execOp
  simp only [ho, resolve, invoke, builtin, Sem.run_bind, Sem.run_pure, Result.andThen_ok, List.map_toArray, List.map_cons, List.map_nil, hs, hx, hrun]
  refine hK _ _ (h A' c' w' hown' hc' hb fun T hT ha => ⟨?_, hg.block T hT (fun e' => ha e'.symm)⟩)
  intro e'
  rcases hbk with h2 | h2
  · exact ha (h2.symm.trans e')
  · rw [h2] at e'
    injection e' with e'
    omega
end Go.Proofs.YtjglgcgkmfbdpaaDoor
