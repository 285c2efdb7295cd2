/- Blends: the program's BlendsOf. -/
import Derived.Test.YtmmnkdjibdlcjaaBk5
import Derived.Shelf.RegionOpen
namespace Go.Proofs.Ytmmnkdjibdlcjaa
open Go.RowKit Go.Shelf
attribute [local go_sem] Oper.semAt_some

theorem kpB_drew {B0 : Nat} {W X : World} (h : KpB B0 W.drew X) : KpB B0 W X := ⟨(Below.refl _ W).drew.trans h.1, h.2.1, h.2.2⟩
/-- What stands between two rounds. -/
def BX (w : World) (xs : List Int) (n : Nat) (A : Option Addr) (c' : Nat) (vs : List Value) (pre : List (Seg n)) (W : World) : Prop :=
  Boxed W w.heap.size 26 (.slice A pre.length c') ∧ W.ownsRow (w.heap.size + 3) 23 1 (.slice A pre.length c') pre.length vs ∧ pre.length ≤ c' ∧ Vals W W.heap.size vs (pre.map (sgm xs)) ∧ Below w.heap.size w W ∧ w.heap.size + 3 ≤ W.heap.size
def BI (w : World) (xs : List Int) (n : Nat) (pre : List (Seg n)) (W : World) : Prop := ∃ (A : Option Addr) (c' : Nat) (vs : List Value), BX w xs n A c' vs pre W
theorem bx_own (w : World) (xs : List Int) (n B : Nat) (hB : w.heap.size ≤ B) (A : Option Addr) (c' : Nat) (vs : List Value) : OwnFrom B (BX w xs n A c' vs) := by
  rintro pre X Y row ⟨hv, hr, hc, hva, hb, hz⟩ hg hrow
  have hne : ∀ k cs t m, X.heap[k]? = some (.cells cs t m) → some k ≠ row := fun k cs t m hk e => by
    obtain ⟨_, o, ho, hcl⟩ := hrow k e.symm
    rw [hk] at ho; cases ho; cases hcl
  refine ⟨hv.kept hg (hne _ _ _ _ hv), hr.kept hg ?_, hc, ?_, ?_, Nat.le_trans hz hg.size⟩
  · rcases hr.2 with ⟨hv0, _⟩ | ⟨g, cap, cur, hv0, _, hgb, _⟩
    · rw [hv0]; exact .inl rfl
    · rw [hv0]
      refine .inr fun e' => ?_
      exact hne g _ _ _ hgb (by simpa [Value.ownBlock] using e')
  · exact hva.map fun g cur hg2 hb2 => ⟨Nat.lt_of_lt_of_le hg2 hg.size, (hg.block g hg2 (hne g _ _ _ hb2)).trans hb2⟩
  · exact hb.trans ⟨hg.os, hg.tape, hg.output, hg.size, fun k hk => hg.block k (Nat.lt_of_lt_of_le hk hb.size) (fun e => by
      have := (hrow k e.symm).1; omega)⟩

theorem lit_reads (w : World) (v : Value) (e : TypeId) : Reads (w.alloc (.cells #[v] e)) (w.heap.size + 1) 1 (some ⟨w.heap.size, 0, none⟩) 1 [v] :=
  ⟨rfl, fun _ => ⟨w.heap.size, 0, rfl, by omega, fun j u hu => by rw [Nat.zero_add, (Blk.new w e #[v]).cell]; simpa using hu⟩⟩
theorem bi_own (w : World) (xs : List Int) (n B : Nat) (hB : w.heap.size ≤ B) : OwnFrom B (BI w xs n) := by
  rintro pre X Y row ⟨A, c', vs, h⟩ hg hrow
  exact ⟨A, c', vs, bx_own w xs n B hB A c' vs pre X Y row h hg hrow⟩
/-- An append's run, not opened. -/
def AppSem (ts : Array TypeId) (ty : TypeId) (vs : Array Value) : Sem Value := Builtin.append_ ts ty vs
theorem app_fold (ts : Array TypeId) (ty : TypeId) (vs : Array Value) : Builtin.append_ ts ty vs = AppSem ts ty vs := rfl
/-- What a clone and the append of it leave. -/
def CloneRest (V W1 W2 : World) (B0 n q : Nat) (xs : List Int) (vs : List Value) (A1 A2 A3 : Option Addr) (c1 c2 c3 : Nat) : Prop :=
  W2.ownsRow (B0 + 3) 23 1 (.slice A3 (q + 1) c3) (q + 1) (vs ++ [.slice A2 n c2]) ∧ q + 1 ≤ c3 ∧ n ≤ c2 ∧ W1.ownsRow V.heap.size 3 1 (.slice A2 n c2) n (icells xs) ∧
    Below V.heap.size V W1 ∧ KeepT 23 (W1.alloc (.cells #[.slice A2 n c2] 23)) W2 ∧ Below (B0 + 3) (W1.alloc (.cells #[.slice A2 n c2] 23)) W2 ∧ Blk W2 B0 26 #[.slice A1 q c1] ∧ (W1.alloc (.cells #[.slice A2 n c2] 23)).grownBy W2 (Value.slice A1 q c1).ownBlock
theorem clone_app (b off n c : Nat) (xs : List Int) (V : World) (B0 : Nat) (A1 : Option Addr) (q c1 : Nat) (vs : List Value) (hn : n ≤ 1000) (hr : Reads V V.heap.size 1 (some ⟨b, off, none⟩) n (icells xs))
    (hbx : Blk V B0 26 #[.slice A1 q c1]) (hrow : V.ownsRow (B0 + 3) 23 1 (.slice A1 q c1) q vs) (hq : q ≤ 1000) (hB0 : B0 + 3 ≤ V.heap.size) :
    Calls Try.prog 26 #[.slice (some ⟨b, off, none⟩) n c] V fun e W1 => ∃ (A2 : Option Addr) (c2 : Nat) (A3 : Option Addr) (c3 : Nat) (W2 : World), e = .returned (.slice A2 n c2) ∧
      W1.cell? ⟨B0, 0, none⟩ = some (.slice A1 q c1) ∧ (W1.alloc (.cells #[.slice A2 n c2] 23)).cell? ⟨B0, 0, none⟩ = some (.slice A1 q c1) ∧ (AppSem #[26, 26] 26 #[.slice A1 q c1, .slice (some ⟨W1.heap.size, 0, none⟩) 1 1]).run Try.prog (W1.alloc (.cells #[.slice A2 n c2] 23)) = .ok (.slice A3 (q + 1) c3) W2 ∧
      W2.cell? ⟨B0, 0, none⟩ = some (.slice A1 q c1) ∧ W2.frozen? ⟨B0, 0, none⟩ = false ∧ Hid (CloneRest V W1 W2 B0 n q xs vs A1 A2 A3 c1 c2 c3) := by
  refine (clone_any b off n c xs V hn hr).mono ?_
  rintro e W1 ⟨A2, c2, rfl, hc2, hown2, hb2⟩
  have hsw := hb2.size
  have hbx1 := hbx.sub hb2
  have hrow1 := (own_below hrow hb2).alloc (.cells #[.slice A2 n c2] 23)
  obtain ⟨v3, W2, hrun, hown3, hg3⟩ := run_appR (W1.alloc (.cells #[.slice A2 n c2] 23)) 26 26 23 1 24 elSl (B0 + 3) _ q vs hrow1 _ (some ⟨W1.heap.size, 0, none⟩) 1 1 [.slice A2 n c2] (lit_reads _ _ _) (by simp [Value.oneCell']) (by omega) (by omega) (by simp; omega)
  obtain ⟨A3, c3, rfl, hc3⟩ := own_form hown3
  have hk3 := keepT_of hrow1 hg3
  have hblk3 := (hbx1.alloc (.cells #[.slice A2 n c2] 23)).keepT hk3 (by decide)
  exact ⟨A2, c2, A3, c3, W2, rfl, hbx1.cell 0, cell_past _ (hbx1.cell 0), hrun, hblk3.cell 0, hblk3.frozen 0, hown3, hc3, hc2, hown2, hb2, hk3, (Below.refl _ _).grown hg3 (by simp; omega) (fun k hk => (hrow1.lt k hk).1), hblk3, hg3⟩

theorem clone_rest {V W1 W2 : World} {B0 n q : Nat} {xs : List Int} {vs : List Value} {A1 A2 A3 : Option Addr} {c1 c2 c3 : Nat} {gs : List (List Int)} (h : CloneRest V W1 W2 B0 n q xs vs A1 A2 A3 c1 c2 c3)
    (hbx : Blk V B0 26 #[.slice A1 q c1]) (hrow : V.ownsRow (B0 + 3) 23 1 (.slice A1 q c1) q vs) (hB0 : B0 + 3 ≤ V.heap.size) (hl : xs.length = n) (hva : Vals V V.heap.size vs gs) :
    KeepsOthers V (W2.setCell ⟨B0, 0, none⟩ (.slice A3 (q + 1) c3)) ∧ KpB B0 V (W2.setCell ⟨B0, 0, none⟩ (.slice A3 (q + 1) c3)) ∧ Boxed (W2.setCell ⟨B0, 0, none⟩ (.slice A3 (q + 1) c3)) B0 26 (.slice A3 (q + 1) c3) ∧
      (W2.setCell ⟨B0, 0, none⟩ (.slice A3 (q + 1) c3)).ownsRow (B0 + 3) 23 1 (.slice A3 (q + 1) c3) (q + 1) (vs ++ [.slice A2 n c2]) ∧
      Vals (W2.setCell ⟨B0, 0, none⟩ (.slice A3 (q + 1) c3)) (W2.setCell ⟨B0, 0, none⟩ (.slice A3 (q + 1) c3)).heap.size (vs ++ [.slice A2 n c2]) (gs ++ [xs]) ∧ B0 + 3 ≤ (W2.setCell ⟨B0, 0, none⟩ (.slice A3 (q + 1) c3)).heap.size := by
  obtain ⟨hown3, hc3, hc2, hown2, hb2, hk3, hb3, hblk, hg3⟩ := h
  subst hl
  have hs1 := hb2.size
  have hs3 := hb3.size
  rw [World.size_alloc] at hs3
  have hks := keepT_set (i := 0) (keepT_refl 26 W2) hblk (.slice A3 (q + 1) c3)
  have hal : Below W1.heap.size W1 (W1.alloc (.cells #[.slice A2 xs.length c2] 23)) := (Below.refl _ _).alloc (Nat.le_refl _) _
  have hsz : (W2.setCell ⟨B0, 0, none⟩ (.slice A3 (q + 1) c3)).heap.size = W2.heap.size := by simp [World.setCell]
  refine ⟨⟨by omega, fun k o hk ho => ?_⟩, ⟨?_, ?_, ?_⟩, Boxed.set _ hblk, own_keepT hown3 hks (by decide), ?_, by omega⟩
  · have hkl := (Array.getElem?_eq_some_iff.1 hk).1
    have e1 : W1.heap[k]? = some o := (hb2.block k hkl).trans hk
    have e2 : (W1.alloc (.cells #[.slice A2 xs.length c2] 23)).heap[k]? = some o := (hal.block k (by omega)).trans e1
    have e3 : W2.heap[k]? = some o := by
      refine (hg3.block k (by rw [World.size_alloc]; omega) ?_).trans e2
      intro e
      rcases hrow.2 with ⟨hv0, _⟩ | ⟨g, cap, cur, hv0, _, hgb, _⟩
      · rw [hv0] at e; simp [Value.ownBlock] at e
      · rw [hv0] at e
        have : k = g := by simpa [Value.ownBlock] using e
        subst this
        rw [hk] at hgb; cases hgb; cases ho
    rw [Below.heap_setCell _ _ _ _ ?_]
    · exact e3
    · show k ≠ B0
      rintro rfl
      unfold Blk at hbx
      rw [hk] at hbx; cases hbx; cases ho
  · exact (((hb2.mono (show B0 ≤ V.heap.size by omega)).alloc (show B0 ≤ W1.heap.size by omega) _).trans (hb3.mono (show B0 ≤ B0 + 3 by omega))).setCell (p := ⟨B0, 0, none⟩) (Nat.le_refl _) _
  · rw [Below.heap_setCell _ _ _ _ (by show B0 + 1 ≠ B0; omega)]
    exact ((hb3.block _ (by omega)).trans (hal.block _ (by omega))).trans (hb2.block _ (by omega))
  · rw [Below.heap_setCell _ _ _ _ (by show B0 + 2 ≠ B0; omega)]
    exact ((hb3.block _ (by omega)).trans (hal.block _ (by omega))).trans (hb2.block _ (by omega))
  · have v1 := ((hva.below hb2).more hs1).snoc hc2 (irow_own rfl hown2)
    exact (((v1.below hal).keepT hk3 (by decide)).keepT hks (by decide)).more (by omega)
attribute [local go_sem ↓] app_fold
theorem seg_reads {w : World} {B b off n k t : Nat} {xs : List Int} (hkt : k < t) (htn : t ≤ n) (h : Reads w B 1 (some ⟨b, off, none⟩) n (icells xs)) : Reads w B 1 (some ⟨b, off + k, none⟩) (t - k) (icells (sl xs k t)) := by
  have hl := h.1
  rw [icells_len] at hl
  refine ⟨by rw [icells_len, sl_len (by omega)]; omega, fun _ => ?_⟩
  obtain ⟨b', off', e, hb, hc⟩ := h.2 (by omega)
  cases e
  refine ⟨b, off + k, rfl, hb, fun j u hu => ?_⟩
  rw [Nat.add_assoc]
  refine hc (k + j) u ?_
  unfold sl at hu
  rw [icells_take, icells_drop, List.getElem?_take] at hu
  split at hu
  · rw [List.getElem?_drop] at hu; exact hu
  · cases hu

set_option maxHeartbeats 4000000 in
set_option maxRecDepth 100000 in
theorem implBlendsOf_yes (A : Option Addr) (n c : Nat) (xs : List Int) (wd : Int) (w : World) (h8 : n ≤ 8) (hnc : n ≤ c) (hxs : xs.length = n) (hin : InB xs 3001) (hr : Reads w w.heap.size 1 A n (icells xs)) (h1 : wd ≤ 200000) (hasc : ascB xs = true) (h0 : 0 ≤ wd) :
    Calls Try.prog 9 #[.slice A n c, .int .i64 wd] w (GrpPost w xs wd) := by
  have HV := Lib.hid ((implBlendListValid_any A n c xs w h8 hxs hin hr).mono (R' := fun e w' => e = .returned (.bool (ascB xs)) ∧ w = w') fun _ _ ⟨a, b⟩ => ⟨a, b.symm⟩)
  rw [hasc] at HV
  have HY := Lib.hid (blOk_yes hasc h0 h1); clear hasc
  have d0 : decide (wd < 0) = false := decide_eq_false (by omega)
  have d1 : decide (200000 < wd) = false := decide_eq_false (by omega)
  have HIN := Lib.hid hin; have HT := Lib.hid hxs; have HR := Lib.hid hr
  clear hin hxs hr
  refine (callsIn_wide (n := 3)).1 ?_
  refine callsIn_of_wp_marks Try.func9 rfl trivial ?_ rfl
  simp only [Try.ntmps9, List.size_toArray, List.length_cons, List.length_nil, Nat.reduceAdd, Nat.reduceSub, Array.replicate_succ, Array.replicate_zero, List.push_toArray, List.append_toArray, List.nil_append, List.cons_append]
  gi_wp2_with (first | (refine ⟨trivial, ?_⟩; gi_at_call 24; refine (callsIn_wide.2 HV.out).mono ?_; rintro e w' ⟨rfl, rfl⟩) | (refine ⟨trivial, ?_⟩; gi_at_call 25; refine (callsIn_wide.2 (cutBlends_any _ _ _ _ _)).mono ?_; rintro e w' ⟨rfl, rfl⟩))
  have bO := Boxed.new w 26 (.slice none 0 0)
  have bL := Boxed.new (w.alloc (.cells #[.slice none 0 0] 26)) 23 (.slice A n c)
  rw [World.size_alloc] at bL
  have bW := Boxed.new ((w.alloc (.cells #[.slice none 0 0] 26)).alloc (.cells #[.slice A n c] 23)) 3 (.int .i64 wd)
  rw [World.size_alloc, World.size_alloc] at bW
  have hB0 : Below w.heap.size w (((w.alloc (.cells #[.slice none 0 0] 26)).alloc (.cells #[.slice A n c] 23)).alloc (.cells #[.int .i64 wd] 3)) := (((Below.refl _ w).alloc (Nat.le_refl _) _).alloc (by simp) _).alloc (by simp; omega) _
  obtain ⟨b, off, hseq, _, hA⟩ := cut_stops 2 (by omega) A n c w.heap.size xs wd h8 hnc HT.out HIN.out h0 h1 (((w.alloc (.cells #[.slice none 0 0] 26)).alloc (.cells #[.slice A n c] 23)).alloc (.cells #[.int .i64 wd] 3)) (bL.alloc _).cell bW.cell (HR.out.below hB0)
  refine wpIn_rangeFunc_ownG rfl (by omega) (gf := 33) (lb := #[.pointer (some ⟨w.heap.size + 1, 0, none⟩), .pointer (some ⟨w.heap.size + 1 + 1, 0, none⟩)]) rfl trivial (enters_of Try.func33 (by kernel_rfl) rfl)
    hseq KpB.trans (fun W l o o' hl ho hc hk => ⟨belowK_b (w := w) (Nat.le_refl _) W l o o' (by simp at hl; omega) ho hc hk, World.putObj_heap_other (by simp at hl; omega), World.putObj_heap_other (by simp at hl; omega)⟩) (Below.refl _ _) (fun _ => rfl)
    (BI w xs n)
    (fun _ _ _ => False)
    (bi_own w xs n _ (by simp; omega))
    (fun _ _ _ _ _ hs _ _ => hs)
    ⟨none, 0, [], (bO.alloc _).alloc _, World.ownsRow_nil _ _ _ _, Nat.le_refl _, vals_nil _ _, hB0, by simp⟩
    (fun x => { tmps := #[.slice A n c, .int .i64 wd, undef, undef, .slice none 0 0, .bool false, .pointer (some ⟨w.heap.size, 0, none⟩), encG b off c x, .slice A n c, .bool true, .bool false, .bool false, .int .i64 wd, .bool false, .bool false, .bool false, .int .i64 wd, .bool false, .bool false, .slice A n c, .int .i64 wd, .func (.func 33) #[] #[.pointer (some ⟨w.heap.size + 1, 0, none⟩), .pointer (some ⟨w.heap.size + 1 + 1, 0, none⟩)], encG b off c x, undef, undef, undef, undef, undef, undef], defers := [] }) ?assign ?body ?done ?stop
  case assign =>
    intro l x W K hK
    gi_wp2
    exact hK
  case body =>
    rintro l pre ⟨⟨k, t⟩, hkt, htn⟩ W ⟨A1, c1, vs, hv, hrow, hc1, hva, hB, hsz3⟩ hlt
    have HSZ := Lib.hid hsz3; clear hsz3
    simp only at hkt htn
    obtain rfl := hA (by omega)
    have HRC := Lib.hid (seg_reads hkt htn ((HR.out.below hB).more hB.size))
    have HV := Lib.hid hv; have HROW := Lib.hid hrow; have HVA := Lib.hid hva; have HBB := Lib.hid hB
    have hcell := hv.cell
    clear hv hrow hva hB hB0 bO bL bW hseq
    dsimp only [encG]
    have hmx : Try.prog.follows .mixedOrders = true := by kernel_rfl
    obtain ⟨q, hq⟩ : ∃ q, pre.length = q := ⟨_, rfl⟩
    rw [hq] at HV HROW hcell hc1 hlt
    have HQ := Lib.hid hq; clear hq
    gi_wp2
    have hsz3 := HSZ.out
    have HCL := Lib.hid (clone_app b (off + k) (t - k) (c - k) (sl xs k t) W.drew w.heap.size A1 q c1 vs (by omega) HRC.out.drew (Blk.drew HV.out) (ownsRow_drew' HROW.out) (by omega) hsz3)
    gi_region_with_o ((refine ⟨trivial, ?_⟩; gi_at_call 26; refine (CallsIn.inRound l (callsIn_wide.2 HCL.out)).mono ?_; rintro e W1 ⟨A2, c2, A3, c3, W2, rfl, z1, z1b, hrun, z2, z3, HREST⟩))
    all_goals
      obtain ⟨r1, r2, r3, r4, r5, r6⟩ := clone_rest HREST.out (Blk.drew HV.out) (ownsRow_drew' HROW.out) HSZ.out (sl_len (by rw [HT.out]; exact htn)) HVA.out
      have HK := Lib.hid ((KeepsOthers.drew W).trans r1); have HKP := Lib.hid (kpB_drew r2); have HBX := Lib.hid r3; have HRW := Lib.hid r4; have HVS := Lib.hid r5; have HSS := Lib.hid r6
      clear r1 r2 r3 r4 r5 r6 z1 z1b hrun z2 z3
      gi_wp2
      refine ⟨(KeepsOthers.from HK.out _), HKP.out, ⟨A3, c3, vs ++ [.slice A2 (t - k) c2], ?_, ?_, ?_, ?_, HBB.out.trans HKP.out.1, HSS.out⟩⟩
      · rw [List.length_append, HQ.out]; exact HBX.out
      · rw [List.length_append, HQ.out]; exact HRW.out
      · rw [List.length_append, HQ.out]; exact HREST.out.2.1
      · rw [List.map_append]; exact HVS.out
  case done =>
    rintro D ys W hD hS ⟨A3, c3, vs, hbx⟩ hK
    have hbx2 := (bx_own w xs n w.heap.size (Nat.le_refl _) A3 c3 vs).putObj (.deferred none) hbx (by simp at hD; omega) hK rfl
    have hc := hbx.1.cell
    obtain ⟨_, hrow, hc3, hva, hB, _⟩ := hbx2
    have HG : Hid (Grps (W.putObj D (.deferred none)) A3 ys.length c3 (blG xs wd)) := by
      unfold Hid
      rw [blG_yes HY.out, HT.out, ← hS]
      exact hva.grps (Nat.le_refl _) hc3 hrow
    have HBB := Lib.hid hB
    have HKE := Lib.hid hK; clear hK hrow hva hB hB0 bO bL bW hseq
    gi_wp2
    refine ⟨by simp, .inl ⟨_, _, rfl, run_takeDeferred HKE.out, ?_⟩⟩
    exact ⟨.tuple #[.slice A3 ys.length c3, .bool true], by simp [results, Try.results9, go_sem], ⟨A3, ys.length, c3, by rw [HY.out], HG.out⟩, HBB.out⟩
  case stop =>
    rintro D c pre W _ _ h _
    exact h.elim
end Go.Proofs.Ytmmnkdjibdlcjaa
