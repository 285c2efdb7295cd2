/- The table of all microstates. -/
import Derived.Test.YtjglgcgkmfbdpaaDoorMi4
import Derived.RegionTactic
import Derived.BigRegion
namespace Go.Proofs.YtjglgcgkmfbdpaaDoor
open Go.RowKit

theorem cell_map {w : World} {b : Nat} {es : Array MapEntry} {ck : Nat} (h : w.heap[b]? = some (.map es ck)) (o : Nat) : w.cell? ⟨b, o, none⟩ = none := by
  simp [World.cell?, h]
theorem Tbl.apart {w : World} {b n : Nat} {T : Int → Int → Int} (h : Tbl w b n T) {p : Addr} {u : Value} (hp : p.spot = none) (hc : w.cell? p = some u) : p.block ≠ b := by
  obtain ⟨D, ⟨es, ck, h1, h2⟩, h3⟩ := h
  obtain ⟨pb, po, ps⟩ := p
  simp only at hp
  subst hp
  rintro rfl
  rw [cell_map h1] at hc; cases hc
theorem Reads.tbl {w w' : World} {B size n b N : Nat} {A : Option Addr} {xs : List Value} {T : Int → Int → Int} (h : Reads w B size A n xs) (ht : Tbl w b N T) (hg : w.grownBy w' (some b)) : Reads w' B size A n xs :=
  ⟨h.1, fun hn => by
    obtain ⟨g, off, e, hb, hc⟩ := h.2 hn
    refine ⟨g, off, e, hb, fun j u hu => ?_⟩
    have hcu := hc j u hu
    have hne := ht.apart (p := ⟨g, off + j, none⟩) rfl hcu
    exact (World.cell?_of_block (hg.block g (World.block_lt_of_cell? _ _ hcu) (by simpa using hne))).trans hcu⟩
theorem Blk.tbl {w w' : World} {g b N : Nat} {t : TypeId} {cs : Array Value} {T : Int → Int → Int} (h : Blk w g t cs) (ht : Tbl w b N T) (hg : w.grownBy w' (some b)) : Blk w' g t cs := by
  refine h.gb hg ?_
  rintro rfl
  obtain ⟨D, ⟨es, ck, h1, h2⟩, h3⟩ := ht
  unfold Blk at h
  rw [h1] at h; cases h
theorem below_tbl {B : Nat} {a w w' : World} {b : Nat} (h : Below B a w) (hg : w.grownBy w' (some b)) (hB : B ≤ w.heap.size) (hb : B ≤ b) : Below B a w' := below_of_gb h hg hB hb

theorem wf64 {x : Int} (h1 : -1000000 ≤ x) (h2 : x ≤ 1000000) : (Lit.int .i64 x).wf = true := by
  have e1 : IntKind.i64.min = -9223372036854775808 := by decide
  have e2 : IntKind.i64.max = 9223372036854775807 := by decide
  simp only [Lit.wf, e1, e2, Bool.and_eq_true, decide_eq_true_eq]; omega
theorem wf64' {x : Int} (h1 : -4000000 ≤ x) (h2 : x ≤ 4000000) : (Lit.int .i64 x).wf = true := by
  have e1 : IntKind.i64.min = -9223372036854775808 := by decide
  have e2 : IntKind.i64.max = 9223372036854775807 := by decide
  simp only [Lit.wf, e1, e2, Bool.and_eq_true, decide_eq_true_eq]; omega
def TabPost (l n : Nat) (w : World) (e : Ending) (w' : World) : Prop :=
  ∃ b : Nat, e = .returned (.map (some b)) ∧ w.heap.size ≤ b ∧ Tbl w' b 252 (cnt (lit l n)) ∧ Below w.heap.size w w'

set_option maxHeartbeats 4000000 in
set_option maxRecDepth 100000 in
theorem newMicroTable_any (l n : Nat) (hl : l ≤ 2) (hn : n ≤ capL l) (w : World) (ht : Dbt w) :
    Calls Tryd.prog 13 #[.int .i64 (l : Int), .int .i64 (n : Int)] w (TabPost l n w) := by
  have hB1 : Below w.heap.size w (w.alloc (.map #[] 0)) := (Below.refl _ _).alloc (Nat.le_refl _) _
  have HMS := Lib.hid (microstates_any l n hl hn (w.alloc (.map #[] 0)) (ht.on hB1))
  have h252 := lit_len ⟨l, by omega⟩ ⟨n, by unfold capL at hn; omega⟩ hn
  simp only at h252
  have HALL := Lib.hid h252.2
  have h252 := h252.1
  clear ht hn
  have HB1 := Lib.hid hB1; clear hB1
  have HT0 := Lib.hid (tbl_made w)
  have hmm := @run_makeMap Tryd.prog
  go_enter Tryd.func13, Tryd.ntmps13
  go_wp2_with fail
  refine HMS.out.mono ?_
  rintro e w2 ⟨A, c, m, rfl, hmc, hlen, hr, hb⟩
  clear hmm HMS
  obtain ⟨ts, hTS⟩ : ∃ ts, lit l n = ts := ⟨_, rfl⟩
  rw [hTS] at hlen hr h252 HALL
  have HTS := Lib.hid hTS; clear hTS
  have HLEN := Lib.hid hlen
  rw [hlen] at h252
  have HB2 := Lib.hid (HB1.out.trans (hb.mono HB1.out.size))
  have HT2 := Lib.hid (HT0.out.below hb)
  have HR2 := Lib.hid hr
  clear hb hr hlen HB1 HT0
  have hwb : w.heap.size < w2.heap.size := HT2.out.lt
  have HI0 : Hid (Tbl w2 w.heap.size 0 (cnt (ts.take 0))) := HT2.out
  clear HT2
  go_wp2_with fail
  go_loopw [13] (fun i wr => ∃ k : Nat, k ≤ m ∧ i = .int .i64 k ∧ Hid (Tbl wr w.heap.size k (cnt (ts.take k))) ∧ Hid (w2.grownBy wr (some w.heap.size))) (fun i _ => m - (RowKit.intOf i).toNat)
  case atStart => exact ⟨0, Nat.zero_le _, rfl, HI0.out, gb_refl _ _⟩
  case round =>
    obtain ⟨k, hk, rfl, HT, HG⟩ := hrel
    by_cases hlt : k < m
    · obtain ⟨bb, off, x, y, rfl, hbb, r1, r2, hxy, htk⟩ := (HR2.out.tbl HI0.out HG.out).term hlt
      have hin : In10 x ∧ In10 y := by
        have h := List.all_eq_true.1 HALL.out (x, y) (List.mem_of_getElem? hxy.out)
        simpa [In10, and_assoc] using h
      have HIX := Lib.hid hin.1; have HIY := Lib.hid hin.2
      have HTA := Lib.hid (HT.out.below ((Below.refl wr.heap.size wr).alloc (Nat.le_refl _) (.cells #[.int .i64 x, .int .i64 y] 39)))
      have HGA := Lib.hid (gb_alloc HG.out (.cells #[.int .i64 x, .int .i64 y] 39))
      have HBK := Lib.hid (Blk.new wr 39 #[.int .i64 x, .int .i64 y])
      have i1 : (k : Int) < (m : Int) := by omega
      have i0 : (0 : Int) ≤ (k : Int) := by omega
      have hcb := cnt_take_bd ts k x y
      have HSN : Hid (∀ o s, upd (cnt (ts.take k)) x y (cnt (ts.take k) x y + 1) o s = cnt (ts.take (k + 1)) o s) := fun o s => by
        rw [htk.out, cnt_snoc]
        by_cases h : o = x ∧ s = y
        · obtain ⟨rfl, rfl⟩ := h
          rw [upd_same, if_pos rfl]
        · rw [upd_other _ _ h, if_neg (fun h' => h (by injection h' with h1 h2; exact ⟨h1.symm, h2.symm⟩))]; omega
      clear hin hxy htk
      obtain ⟨C, hC⟩ : ∃ C, cnt (ts.take k) x y = C := ⟨_, rfl⟩
      rw [hC] at HSN hcb
      go_wp2_with fail
      obtain ⟨W, hW⟩ : ∃ W, wr.alloc (.cells #[.int .i64 x, .int .i64 y] 39) = W := ⟨_, rfl⟩
      obtain ⟨tb, htb⟩ : ∃ tb, wr.heap.size = tb := ⟨_, rfl⟩
      rw [hW] at HTA HGA HBK
      rw [htb] at HBK
      simp only [hW, htb]
      have HTD := Lib.hid (HTA.out.kept (w' := W.drew) rfl)
      obtain ⟨v0, st, W1, l1, e1, l2, hg1, hst⟩ := HTD.out.bump (by unfold maxLen; omega) HIX.out HIY.out
      obtain ⟨W2, s1, ht2, hg2⟩ := hst (C + 1) (wf64 (by omega) (by omega))
      rw [hC] at l1 l2
      have HT2 := Lib.hid (ht2.eq fun o s _ _ => HSN.out o s)
      have HG2 := Lib.hid (gb_trans (gb_drew HGA.out) hg2)
      obtain ⟨c0, c1, _, _⟩ := blk2 HBK.out.drew
      obtain ⟨d0, d1, _, _⟩ := blk2 (HBK.out.drew.tbl HTD.out hg1)
      unfold keyV at l1 l2 e1
      clear hst ht2 hg1 hg2 r1 r2 hW htb hC
      go_region
      go_wp2_with fail
      go_roundw
      case rel => exact ⟨k + 1, by omega, by go_num, HT2.out, HG2.out⟩
      case measure => (simp [RowKit.intOf] <;> omega)
    · obtain rfl : k = m := by omega
      have HA : Hid (ts.take k = ts) := List.take_of_length_le (by rw [HLEN.out]; exact Nat.le_refl _)
      rw [HA.out, ← HTS.out] at HT
      have HBF := Lib.hid (below_tbl HB2.out HG.out (by omega) (Nat.le_refl _))
      go_wp2_with fail
      go_ret
      exact ⟨w.heap.size, rfl, Nat.le_refl _, HT.out.more (by omega), HBF.out⟩
end Go.Proofs.YtjglgcgkmfbdpaaDoor
