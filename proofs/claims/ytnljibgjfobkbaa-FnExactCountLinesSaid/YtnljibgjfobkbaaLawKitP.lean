/- How a slice of structs of two integers that came in is opened. -/
import Derived.Test.YtnljibgjfobkbaaLawKit
import Derived.Test.YtnljibgjfobkbaaT0
import Derived.Deep.Slices
import Derived.Deep.Fields
import Derived.ChangeSame
namespace Go.Proofs.Ytnljibgjfobkbaa
open Go.ChangeShapes Go.WideShapes Go.ChangeAt Go.RowKit Go.Deep

/-- One element of a slice of structs of two integers: its two cells. -/
theorem pair_cells {H : Type} {enc : TypeId × Value → H} {P : Program} {w : World} {base n : Nat} {spare : Nat → Bool} {held : Bool} {e it : TypeId} {fs : Array Field} {x : DataW H × List MemPlace} {a : Addr} {cs : List Value}
    (he : P.underlying e = some (.struct fs)) (hsz : fs.size = 2) (hone : oneCellFields P fs = true) (ht : ∀ (j : Nat) (f : Field), fs[j]? = some f → f.type = it) (hi : P.underlying it = some (.int .i64))
    (hc : w.cells? base a 2 = some cs) (h : DataW.trod enc P w base spare held n e cs = some x) :
    ∃ p q : Int, w.cell? (a.add 0) = some (.int .i64 p) ∧ w.cell? (a.add 1) = some (.int .i64 q) ∧ (Lit.int .i64 p).wf = true ∧ (Lit.int .i64 q).wf = true := by
  obtain ⟨ys, n', hn', hy, hlen, hyl, hf⟩ := DataW.trod_struct he h
  obtain ⟨_, hcl, hat⟩ := World.cells?_some hc
  have key : ∀ j, j < 2 → ∃ p : Int, w.cell? (a.add j) = some (.int .i64 p) ∧ (Lit.int .i64 p).wf = true := by
    intro j hj
    have hjf : fs[j]? = some (fs[j]'(by omega)) := Array.getElem?_eq_getElem (by omega)
    obtain ⟨ho, hk⟩ := hone_of hone j _ hjf
    have h1 := hf j _ hjf
    rw [ho, hk] at h1
    have hjl : j < cs.length := by omega
    have hone' : (cs.drop j).take 1 = [cs[j]] := by
      rw [List.drop_eq_getElem_cons hjl]
      rfl
    rw [hone', ht j _ hjf] at h1
    have hys : ys[j]? = some (ys[j]'(by omega)) := List.getElem?_eq_getElem (by omega)
    rw [hys] at h1
    obtain ⟨p, hp, _, hw⟩ := DataW.trod_int hi h1
    have hcell := hat j hj
    have hv : cs[j]? = some cs[j] := List.getElem?_eq_getElem hjl
    refine ⟨p, ?_, hw⟩
    rw [hcell, hv]
    simp only [List.cons.injEq, and_true] at hp
    rw [hp]
  obtain ⟨p, h1, h2⟩ := key 0 (by omega)
  obtain ⟨q, h3, h4⟩ := key 1 (by omega)
  exact ⟨p, q, h1, h3, h2, h4⟩

def Wf2 (t : T2) : Prop := (-9223372036854775808 ≤ t.1 ∧ t.1 ≤ 9223372036854775807) ∧ (-9223372036854775808 ≤ t.2 ∧ t.2 ≤ 9223372036854775807)

theorem pairs_in {H : Type} {enc : TypeId × Value → H} {P : Program} {W : World} {a : Option Addr} {len cap : Nat} {d : DataW H} {p : List MemPlace} {t e it : TypeId} {fs : Array Field}
    (ht : P.underlying t = some (.slice e)) (he : P.underlying e = some (.struct fs)) (hsz : fs.size = 2) (hone : oneCellFields P fs = true) (hft : ∀ (j : Nat) (f : Field), fs[j]? = some f → f.type = it) (hi : P.underlying it = some (.int .i64)) (hC : P.cellsOf e = 2)
    (h : DataW.Trod enc P W 0 (fun _ => true) true t (.slice a len cap) d p) :
    ∃ ts : List T2, len ≤ maxLen ∧ len ≤ cap ∧ ts.length = len ∧ (∀ t ∈ ts, Wf2 t) ∧ Reads W W.heap.size 2 a len (tcells ts) := by
  obtain ⟨fuel, hf⟩ := h
  rcases open_slice ht hf with ⟨hcs, _⟩ | ⟨x, l, c, m, n, D, Pl, hcs, _, hl, hm, hmm, _, hel⟩
  · simp [Value.cells] at hcs
    obtain ⟨rfl, rfl, rfl⟩ := hcs
    exact ⟨[], Nat.zero_le _, Nat.le_refl _, rfl, by simp, Reads.none_⟩
  · simp [Value.cells] at hcs
    obtain ⟨rfl, rfl, rfl⟩ := hcs
    simp only [if_true] at hmm
    have hlm : len ≤ m := by omega
    have hex : ∀ i, i < len → ∃ t : T2, W.cell? ((x.add (i * 2)).add 0) = some (.int .i64 t.1) ∧ W.cell? ((x.add (i * 2)).add 1) = some (.int .i64 t.2) ∧ Wf2 t := by
      intro i hil
      obtain ⟨cs', hc', ht'⟩ := hel i (by omega)
      rw [hC] at hc'
      obtain ⟨p, q, k1, k2, k3, k4⟩ := pair_cells he hsz hone hft hi hc' ht'
      exact ⟨(p, q), k1, k2, bounds_i64 k3, bounds_i64 k4⟩
    obtain ⟨f, hfn⟩ := choose_lt hex
    refine ⟨(List.range len).map f, by omega, hl, by simp, ?_, by rw [tcells_len]; simp, fun hn => ?_⟩
    · intro t ht
      simp only [List.mem_map, List.mem_range] at ht
      obtain ⟨i, hi, rfl⟩ := ht
      exact (hfn i hi).2.2
    · have h0 := (hfn 0 hn).1
      obtain ⟨b, off, spot⟩ := x
      have hspot : spot = none := by simpa [Addr.add] using World.cell?_spot h0
      subst hspot
      refine ⟨b, off, rfl, ?_, fun j u hu => ?_⟩
      · have := World.block_lt_of_cell? _ _ h0
        simpa [Addr.add] using this
      · have hj : j < len * 2 := by
          rcases Nat.lt_or_ge j (len * 2) with h | h
          · exact h
          · rw [List.getElem?_eq_none (by rw [tcells_len]; simp; omega)] at hu; cases hu
        obtain ⟨k1, k2, _⟩ := hfn (j / 2) (by omega)
        obtain ⟨c1, c2⟩ := tcells_at ((List.range len).map f) (j / 2) (by simp; omega)
        rw [add_add, add_plain] at k1 k2
        rcases Nat.mod_two_eq_zero_or_one j with hj2 | hj2
        · have e : j = j / 2 * 2 := by omega
          rw [← e] at c1
          rw [hu] at c1
          simp only [Nat.add_zero] at k1
          rw [← e] at k1
          rw [k1, c1]
          simp
        · have e : j = j / 2 * 2 + 1 := by omega
          rw [← e] at c2
          rw [hu] at c2
          rw [← e] at k2
          rw [k2, c2]
          simp
end Go.Proofs.Ytnljibgjfobkbaa
