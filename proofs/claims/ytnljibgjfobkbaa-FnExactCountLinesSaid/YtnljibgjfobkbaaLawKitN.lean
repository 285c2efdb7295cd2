/- How a slice of nodes that came in is opened. -/
import Derived.Test.YtnljibgjfobkbaaLawKitP
import Derived.Test.YtnljibgjfobkbaaSc1
namespace Go.Proofs.Ytnljibgjfobkbaa
open Go.ChangeShapes Go.WideShapes Go.ChangeAt Go.RowKit Go.Deep

/-- One element of a slice of structs of two integers and a bool: its three cells. -/
theorem node_cells {H : Type} {enc : TypeId × Value → H} {P : Program} {w : World} {base n : Nat} {spare : Nat → Bool} {held : Bool} {e it bt : TypeId} {fs : Array Field} {x : DataW H × List MemPlace} {a : Addr} {cs : List Value}
    (he : P.underlying e = some (.struct fs)) (hsz : fs.size = 3) (hone : oneCellFields P fs = true) (ht : ∀ (j : Nat) (f : Field), fs[j]? = some f → j < 2 → f.type = it) (htb : ∀ (f : Field), fs[2]? = some f → f.type = bt) (hi : P.underlying it = some (.int .i64)) (hbt : P.underlying bt = some .bool)
    (hc : w.cells? base a 3 = some cs) (h : DataW.trod enc P w base spare held n e cs = some x) :
    ∃ (p q : Int) (b : Bool), w.cell? (a.add 0) = some (.int .i64 p) ∧ w.cell? (a.add 1) = some (.int .i64 q) ∧ w.cell? (a.add 2) = some (.bool b) := by
  obtain ⟨ys, n', hn', hy, hlen, hyl, hf⟩ := DataW.trod_struct he h
  obtain ⟨_, hcl, hat⟩ := World.cells?_some hc
  have one : ∀ (j : Nat) (hj : j < fs.size) (hjl : j < cs.length) (hjy : j < ys.length), DataW.trod enc P w base spare held n' (fs[j]'hj).type [cs[j]] = some ys[j] := by
    intro j hj hjl hjy
    have hjf : fs[j]? = some (fs[j]'hj) := Array.getElem?_eq_getElem hj
    obtain ⟨ho, hk⟩ := hone_of hone j _ hjf
    have h1 := hf j _ hjf
    rw [ho, hk] at h1
    have hone' : (cs.drop j).take 1 = [cs[j]] := by
      rw [List.drop_eq_getElem_cons hjl]
      rfl
    rw [hone'] at h1
    have hys : ys[j]? = some (ys[j]'hjy) := List.getElem?_eq_getElem hjy
    rw [hys] at h1
    exact h1
  have key : ∀ j, j < 2 → ∃ p : Int, w.cell? (a.add j) = some (.int .i64 p) := by
    intro j hj
    have h1 := one j (by omega) (by omega) (by omega)
    rw [ht j _ (Array.getElem?_eq_getElem (by omega)) hj] at h1
    obtain ⟨p, hp, _, hw⟩ := DataW.trod_int hi h1
    refine ⟨p, ?_⟩
    rw [hat j (by omega), List.getElem?_eq_getElem (by omega : j < cs.length)]
    simp only [List.cons.injEq, and_true] at hp
    rw [hp]
  obtain ⟨p, h1⟩ := key 0 (by omega)
  obtain ⟨q, h2⟩ := key 1 (by omega)
  have h3 := one 2 (by omega) (by omega) (by omega)
  rw [htb _ (Array.getElem?_eq_getElem (by omega))] at h3
  obtain ⟨b, hb, _⟩ := DataW.trod_bool hbt h3
  refine ⟨p, q, b, h1, h2, ?_⟩
  rw [hat 2 (by omega), List.getElem?_eq_getElem (by omega : 2 < cs.length)]
  simp only [List.cons.injEq, and_true] at hb
  rw [hb]

theorem nodes_in {H : Type} {enc : TypeId × Value → H} {P : Program} {W : World} {a : Option Addr} {len cap : Nat} {d : DataW H} {p : List MemPlace} {t e it bt : TypeId} {fs : Array Field}
    (ht : P.underlying t = some (.slice e)) (he : P.underlying e = some (.struct fs)) (hsz : fs.size = 3) (hone : oneCellFields P fs = true) (hft : ∀ (j : Nat) (f : Field), fs[j]? = some f → j < 2 → f.type = it) (hfb : ∀ (f : Field), fs[2]? = some f → f.type = bt) (hi : P.underlying it = some (.int .i64)) (hbt : P.underlying bt = some .bool) (hC : P.cellsOf e = 3)
    (h : DataW.Trod enc P W 0 (fun _ => true) true t (.slice a len cap) d p) :
    ∃ ns : List T3, len ≤ maxLen ∧ len ≤ cap ∧ ns.length = len ∧ Reads W W.heap.size 3 a len (ncells ns) := by
  obtain ⟨fuel, hf⟩ := h
  rcases open_slice ht hf with ⟨hcs, _⟩ | ⟨x, l, c, m, n, D, Pl, hcs, _, hl, hm, hmm, _, hel⟩
  · simp [Value.cells] at hcs
    obtain ⟨rfl, rfl, rfl⟩ := hcs
    exact ⟨[], Nat.zero_le _, Nat.le_refl _, rfl, Reads.none_⟩
  · simp [Value.cells] at hcs
    obtain ⟨rfl, rfl, rfl⟩ := hcs
    simp only [if_true] at hmm
    have hlm : len ≤ m := by omega
    have hex : ∀ i, i < len → ∃ t : T3, W.cell? ((x.add (i * 3)).add 0) = some (.int .i64 t.1) ∧ W.cell? ((x.add (i * 3)).add 1) = some (.int .i64 t.2.1) ∧ W.cell? ((x.add (i * 3)).add 2) = some (.bool t.2.2) := by
      intro i hil
      obtain ⟨cs', hc', ht'⟩ := hel i (by omega)
      rw [hC] at hc'
      obtain ⟨p, q, b, k1, k2, k3⟩ := node_cells he hsz hone hft hfb hi hbt hc' ht'
      exact ⟨(p, q, b), k1, k2, k3⟩
    obtain ⟨f, hfn⟩ := choose_lt hex
    refine ⟨(List.range len).map f, by omega, hl, by simp, by rw [ncells_len]; simp, fun hn => ?_⟩
    have h0 := (hfn 0 hn).1
    obtain ⟨b, off, spot⟩ := x
    have hspot : spot = none := by simpa [Addr.add] using World.cell?_spot h0
    subst hspot
    refine ⟨b, off, rfl, ?_, fun j u hu => ?_⟩
    · have := World.block_lt_of_cell? _ _ h0
      simpa [Addr.add] using this
    · have hj : j < len * 3 := by
        rcases Nat.lt_or_ge j (len * 3) with h | h
        · exact h
        · rw [List.getElem?_eq_none (by rw [ncells_len]; simp; omega)] at hu; cases hu
      have hjn : j / 3 < len := by omega
      obtain ⟨k1, k2, k3⟩ := hfn (j / 3) hjn
      obtain ⟨c1, c2, c3⟩ := ncells_at ((List.range len).map f) (j / 3) (by simpa using hjn)
      have hg : gN ((List.range len).map f) (j / 3) = f (j / 3) := by simp [gN, hjn]
      rw [hg] at c1 c2 c3
      rw [add_add, add_plain] at k1 k2 k3
      have hj3 : j % 3 = 0 ∨ j % 3 = 1 ∨ j % 3 = 2 := by omega
      rcases hj3 with hj2 | hj2 | hj2
      · have e : j = j / 3 * 3 := by omega
        rw [← e] at c1
        rw [hu] at c1
        simp only [Nat.add_zero] at k1
        rw [← e] at k1
        rw [k1, c1]
      · have e : j = j / 3 * 3 + 1 := by omega
        rw [← e] at c2
        rw [hu] at c2
        rw [← e] at k2
        rw [k2, c2]
      · have e : j = j / 3 * 3 + 2 := by omega
        rw [← e] at c3
        rw [hu] at c3
        rw [← e] at k3
        rw [k3, c3]
end Go.Proofs.Ytnljibgjfobkbaa
