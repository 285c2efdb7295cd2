/- The program strikes a term out of the table: the walk. -/
import Derived.Test.YtjglgcgkmfbdpaaDoorMi7
namespace Go.Proofs.YtjglgcgkmfbdpaaDoor
open Go.RowKit Go.Shelf
attribute [local go_sem] Oper.semAt_some

set_option maxHeartbeats 4000000 in
set_option maxRecDepth 100000 in
theorem strike_any (b n S L : Nat) (T : Int → Int → Int) (w : World) (hS : S ≤ 8) (hL : L ≤ 8) (hn : n ≤ 1000000) (ht : Tbl w b n T) (htb : ∀ a d, -1000000 ≤ T a d ∧ T a d ≤ 1000000) :
    Calls Tryd.prog 14 #[.map (some b), .agg #[.int .i64 (S : Int), .int .i64 (L : Int)]] w fun e w' => e = .returned (.tuple #[]) ∧ Tbl w' b (n + 200) (stk T S L (2 * L + 1)) ∧ w.grownBy w' (some b) := by
  refine (callsIn_wide (n := 3)).1 ?_
  refine callsIn_of_wp_marks Tryd.func14 rfl trivial ?_ rfl
  simp only [Tryd.ntmps14, List.size_toArray, List.length_cons, List.length_nil, Nat.reduceAdd, Nat.reduceSub, Array.replicate_succ, Array.replicate_zero, List.push_toArray, List.append_toArray, List.nil_append, List.cons_append]
  have hb := ht.lt
  have HTB := Lib.hid htb; clear htb
  have HT := Lib.hid ht
  obtain ⟨z, hz⟩ : ∃ z, w.heap.size = z := ⟨_, rfl⟩
  have B1 := Blk.new w 36 #[.map (some b)]
  have B2 := Blk.new (w.alloc (.cells #[.map (some b)] 36)) 41 #[.int .i64 (S : Int), .int .i64 (L : Int)]
  have B3 := Blk.new ((w.alloc (.cells #[.map (some b)] 36)).alloc (.cells #[.int .i64 (S : Int), .int .i64 (L : Int)] 41)) 3 #[.int .i64 (-(L : Int))]
  rw [World.size_alloc] at B2
  rw [World.size_alloc, World.size_alloc] at B3
  rw [hz] at B1 B2 B3 hb
  have HB1 := Lib.hid ((B1.alloc (.cells #[.int .i64 (S : Int), .int .i64 (L : Int)] 41)).alloc (.cells #[.int .i64 (-(L : Int))] 3))
  have HB2 := Lib.hid (B2.alloc (.cells #[.int .i64 (-(L : Int))] 3))
  have HB3 := Lib.hid B3
  have HG0 := Lib.hid (gb_alloc (gb_alloc (gb_alloc (gb_refl w (some b)) (.cells #[.map (some b)] 36)) (.cells #[.int .i64 (S : Int), .int .i64 (L : Int)] 41)) (.cells #[.int .i64 (-(L : Int))] 3))
  have HT0 := Lib.hid (ht.below ((((Below.refl w.heap.size w).alloc (Nat.le_refl _) (.cells #[.map (some b)] 36)).alloc (by simp) (.cells #[.int .i64 (S : Int), .int .i64 (L : Int)] 41)).alloc (by simp; omega) (.cells #[.int .i64 (-(L : Int))] 3)))
  have HC0 := Lib.hid (show -(L : Int) + ((0 : Nat) : Int) = -(L : Int) by omega)
  clear ht B1 B2 B3
  gi_wp2
  have HZ := Lib.hid hz; clear hz
  refine wpIn_loop_rounds (2 * L + 2) ?_
  refine (fun (h : ∀ (d r : Nat), r + d = 2 * L + 1 → ∀ (pO : Nat) (Ds : List Nat) (u5 u6 u7 u8 u9 u10 u11 u12 u13 u14 u15 u16 u17 u18 u19 u20 u21 u22 u23 u24 u25 u26 u27 : Value) (W : World),
      Tbl W b (n + r * 9) (stk T S L r) → Blk W z 36 #[.map (some b)] → Blk W (z + 1) 41 #[.int .i64 (S : Int), .int .i64 (L : Int)] → Blk W pO 3 #[.int .i64 (-(L : Int) + (r : Int))] → w.grownBy W (some b) → Shut Ds W → (∀ D ∈ Ds, z ≤ D) →
      Code.roundsIn Fence.wide 3 Tryd.prog _ _ (d + 1) { tmps := #[.map (some b), .agg #[.int .i64 (S : Int), .int .i64 (L : Int)], .pointer (some ⟨z, 0, none⟩), .pointer (some ⟨z + 1, 0, none⟩), .pointer (some ⟨pO, 0, none⟩), u5, u6, u7, u8, u9, u10, u11, u12, u13, u14, u15, u16, u17, u18, u19, u20, u21, u22, u23, u24, u25, u26, u27], defers := Ds.map mark } W) =>
    h (2 * L + 1) 0 (by omega) (z + 1 + 1) [] _ _ _ _ _ _ _ _ _ _ _ _ _ _ _ _ _ _ _ _ _ _ _ _ (by simpa [stk] using HT0.out) HB1.out HB2.out (by rw [HC0.out]; exact HB3.out) HG0.out ⟨List.nodup_nil, fun D hD => absurd hD (by simp)⟩ (fun D hD => absurd hD (by simp))) ?_
  clear HT0 HB1 HB2 HB3 HG0 HC0
  intro d
  induction d with
  | zero =>
    intro r hr pO Ds u5 u6 u7 u8 u9 u10 u11 u12 u13 u14 u15 u16 u17 u18 u19 u20 u21 u22 u23 u24 u25 u26 u27 W hT hz1 hz2 hp hg hsh hDs
    obtain rfl : r = 2 * L + 1 := by omega
    rw [roundsIn_succ]
    have c0 := hp.cell 0
    have c1 := hz2.cell 1
    simp only [List.getElem?_toArray, List.getElem?_cons_zero, List.getElem?_cons_succ] at c0 c1
    have hno : ¬ (-(L : Int) + ((2 * L + 1 : Nat) : Int) ≤ (L : Int)) := by omega
    generalize -(L : Int) + ((2 * L + 1 : Nat) : Int) = o at *
    have HT := Lib.hid hT; have HG := Lib.hid hg; have HSH := Lib.hid hsh; have HD := Lib.hid hDs
    clear hT hg hsh hDs hz1 hz2 hp
    gi_wp2
    refine leaves_marks (b0 := w) (row := some b) Ds W HSH.out (fun D hD => by rw [HZ.out]; exact HD.out D hD) HG.out fun W' hk hg' => ?_
    have HT' := Lib.hid (HT.out.kept (hk b (fun hbD => by have := HD.out b hbD; omega)))
    exact ⟨.tuple #[], by simp [results, Tryd.results14, go_sem], rfl, HT'.out.more (by omega), hg'⟩
  | succ d ih =>
    intro r hr pO Ds u5 u6 u7 u8 u9 u10 u11 u12 u13 u14 u15 u16 u17 u18 u19 u20 u21 u22 u23 u24 u25 u26 u27 W hT hz1 hz2 hp hg hsh hDs
    rw [roundsIn_succ]
    have c0 := hp.cell 0
    have c1 := hz2.cell 1
    have c2 := hz2.cell 0
    simp only [List.getElem?_toArray, List.getElem?_cons_zero, List.getElem?_cons_succ] at c0 c1 c2
    have hyes : -(L : Int) + (r : Int) ≤ (L : Int) := by omega
    have ho1 : -8 ≤ -(L : Int) + (r : Int) := by omega
    have HN := Lib.hid (show -(L : Int) + ((r + 1 : Nat) : Int) = (-(L : Int) + (r : Int)) + 1 by omega)
    have HSTK := Lib.hid (show stk T S L (r + 1) = decRow (stk T S L r) (-(L : Int) + (r : Int)) (prj (S : Int) (S + 1)) from rfl)
    generalize -(L : Int) + (r : Int) = o at *
    have HT := Lib.hid hT; have HG := Lib.hid hg; have HSH := Lib.hid hsh; have HD := Lib.hid hDs; have HP := Lib.hid hp; have H1 := Lib.hid hz1; have H2 := Lib.hid hz2
    have hzW : z + 1 < W.heap.size := hz2.lt
    have hpW : pO < W.heap.size := hp.lt
    clear hT hg hsh hDs hz1 hz2 hp
    gi_wp2_with ((refine ⟨trivial, ?_⟩; gi_at_call 22; refine (callsIn_wide.2 (projections_any _ _)).mono ?_; rintro e w' ⟨rfl, rfl⟩))
    have hal : Below W.heap.size W (W.alloc (.cells #[.int .i64 (S : Int)] 56)) := (Below.refl _ _).alloc (Nat.le_refl _) _
    have cS := (Blk.new W 56 #[.int .i64 (S : Int)]).cell 0
    have HI0 : Hid (RowI w b z pO (n + r * 9) (W.heap.size + 1) (stk T S L r) S L o Ds [] (W.alloc (.cells #[.int .i64 (S : Int)] 56))) :=
      ⟨HT.out.below hal, H1.out.sub hal, H2.out.sub hal, HP.out.sub hal, gb_below HG.out hal, by simp, HSH.out.1, fun D hD => (hal.block D (Array.getElem?_eq_some_iff.1 (HSH.out.2 D hD)).1).trans (HSH.out.2 D hD)⟩
    refine wpIn_rangeFunc_ownG rfl (by omega) (gf := 30) (lb := #[.pointer (some ⟨W.heap.size, 0, none⟩)]) rfl trivial (enters_of Tryd.func30 (by kernel_rfl) rfl)
      (proj_stops 2 (by omega) W.heap.size S hS (W.alloc (.cells #[.int .i64 (S : Int)] 56)) cS) KpJ.trans (fun X l o o' hl ho hc hk => World.putObj_heap_other (by simp at hl; omega)) (Below.refl _ _) (fun _ => rfl)
      (RowI w b z pO (n + r * 9) (W.heap.size + 1) (stk T S L r) S L o Ds) (fun _ _ _ => False)
      (rowI_own w b z pO _ _ _ S L o Ds _ (by simp; have := HG.out.size; omega) (by simp; omega) (by simp; omega) (by simp; omega) (fun D hD => by have := (Array.getElem?_eq_some_iff.1 (HSH.out.2 D hD)).1; simp; omega))
      (fun _ _ _ _ _ hs _ _ => hs) HI0.out
      (fun x => { tmps := #[.map (some b), .agg #[.int .i64 (S : Int), .int .i64 (L : Int)], .pointer (some ⟨z, 0, none⟩), .pointer (some ⟨z + 1, 0, none⟩), .pointer (some ⟨pO, 0, none⟩), .int .i64 x.1, u6, u7, u8, .int .i64 o, .pointer (some ⟨z + 1, 1, none⟩), .int .i64 (L : Int), .bool true, u13, u14, .pointer (some ⟨z + 1, 0, none⟩), .int .i64 (S : Int), .func (.func 30) #[] #[.pointer (some ⟨W.heap.size, 0, none⟩)], .int .i64 x.1, u19, u20, u21, u22, u23, u24, u25, u26, u27], defers := [] }) ?assign ?body ?done ?stop
    case assign =>
      intro l x W K hK
      gi_wp2
      exact hK
    case stop =>
      rintro D c pre W _ _ h _
      exact h.elim
    case body =>
      rintro l pre ⟨x, hx⟩ X ⟨hT, h1, h2, hp, hg, hM, hsh⟩ hlt
      have HTX := Lib.hid hT; have H1X := Lib.hid h1; have H2X := Lib.hid h2; have HPX := Lib.hid hp; have HGX := Lib.hid hg; have HSX := Lib.hid hsh
      have hbX := hT.lt
      clear hT h1 h2 hp hg hsh hal cS HI0 c0 c1 c2
      have HLB : Hid ((pre ++ [(⟨x, hx⟩ : P10)]).map (·.1) = pre.map (·.1) ++ [x]) := by unfold Hid; simp
      have HLE : Hid ((pre ++ [(⟨x, hx⟩ : P10)]).length = pre.length + 1) := by unfold Hid; simp
      have hpl := hlt
      have HIO : Hid (In10 o) := by unfold Hid In10; omega
      have HIX := Lib.hid hx
      have HTD := Lib.hid (HTX.out.kept (w' := X.drew) rfl)
      have hTb : -2000000 ≤ decRow (stk T S L r) o (pre.map (·.1)) o x ∧ decRow (stk T S L r) o (pre.map (·.1)) o x ≤ 2000000 := by
        rw [decRow_at, stk_at]
        have q1 := HTB.out o x
        have q2 := List.count_le_length (a := x) (l := pre.map (·.1))
        rw [List.length_map] at q2
        split <;> split <;> omega
      obtain ⟨C, hC⟩ : ∃ C, decRow (stk T S L r) o (pre.map (·.1)) o x = C := ⟨_, rfl⟩
      obtain ⟨v0, st, W1, l1, e1, l2, hg1, hst⟩ := HTD.out.bump (by unfold maxLen; omega) HIO.out HIX.out
      rw [hC] at hTb l1 l2
      obtain ⟨W2, s1, ht2, hg2⟩ := hst (C - 1) (wf64' (by omega) (by omega))
      have HT2 : Hid (Tbl W2 b (n + r * 9 + (pre ++ [(⟨x, hx⟩ : P10)]).length) (decRow (stk T S L r) o ((pre ++ [(⟨x, hx⟩ : P10)]).map (·.1)))) := by
        unfold Hid; rw [HLB.out, HLE.out, decRow_snoc, hC]; exact ht2
      have HGW := Lib.hid (gb_trans (gb_drew (gb_refl X (some b))) hg2)
      have HGD1 := Lib.hid hg1
      have d0 : W1.cell? ⟨z, 0, none⟩ = some (.map (some b)) := ((H1X.out.drew).tbl HTD.out HGD1.out).cell 0
      have d1 : W1.cell? ⟨pO, 0, none⟩ = some (.int .i64 o) := ((HPX.out.drew).tbl HTD.out HGD1.out).cell 0
      have d2 : X.drew.cell? ⟨z, 0, none⟩ = some (.map (some b)) := H1X.out.drew.cell 0
      have d3 : X.drew.cell? ⟨pO, 0, none⟩ = some (.int .i64 o) := HPX.out.drew.cell 0
      unfold keyV at l1 l2 e1
      clear hst ht2 hg1 hg2 hC
      have u1 : IntKind.i64.wrap (C - 1) = C - 1 := IntWalk.i64_in _ (by omega)
      have hwz := HZ.out
      have hwW := HG.out.size
      have HFIN : Hid (KeepsFrom (W.alloc (.cells #[.int .i64 (S : Int)] 56)).heap.size X W2 ∧ KpJ W.heap.size X W2 ∧ RowI w b z pO (n + r * 9) (W.heap.size + 1) (stk T S L r) S L o Ds (pre ++ [(⟨x, hx⟩ : P10)]) W2) := by
        refine ⟨KeepsFrom.of_grownBy HGW.out (fun j e => by cases e; rw [World.size_alloc]; omega), HGW.out.block _ (by omega) (fun e => by injection e; omega), HT2.out, H1X.out.tbl HTX.out HGW.out, H2X.out.tbl HTX.out HGW.out, HPX.out.tbl HTX.out HGW.out, gb_trans HGX.out HGW.out, Nat.le_trans hM HGW.out.size, HSX.out.1, fun D hD => ?_⟩
        have h8 := HSX.out.2 D hD
        refine (HGW.out.block D (Array.getElem?_eq_some_iff.1 h8).1 ?_).trans h8
        intro e
        injection e with e
        have := HD.out D hD
        omega
      clear hwz hwW
      gi_wp2
      gi_region
      all_goals
        gi_wp2
        exact HFIN.out
    case done =>
      rintro D ys X hD hys ⟨hT, h1, h2, hp, hg, hM, hsh⟩ hK
      have c3 := hp.cell 0
      simp only [List.getElem?_toArray, List.getElem?_cons_zero] at c3
      have HTX := Lib.hid hT; have H1X := Lib.hid h1; have H2X := Lib.hid h2; have HPX := Lib.hid hp; have HGX := Lib.hid hg; have HSX := Lib.hid hsh; have HKX := Lib.hid hK; have HYS := Lib.hid hys
      clear hT h1 h2 hp hg hsh hal cS HI0 c0 c1 c2 hK hys
      gi_wp2
      have HBE := Lib.hid (Blk.new X 3 #[.int .i64 (o + 1)])
      have hal : Below X.heap.size X (X.alloc (.cells #[.int .i64 (o + 1)] 3)) := (Below.refl _ _).alloc (Nat.le_refl _) _
      have HTN : Hid (Tbl X b (n + (r + 1) * 9) (stk T S L (r + 1))) := by
        unfold Hid
        rw [HSTK.out, ← HYS.out]
        refine HTX.out.more ?_
        have : ys.length = S + 1 := by rw [← prj_len (S : Int) (S + 1), ← HYS.out, List.length_map]
        omega
      refine ih (r + 1) (by omega) X.heap.size (D :: Ds) _ _ _ _ _ _ _ _ _ _ _ _ _ _ _ _ _ _ _ _ _ _ _ _ (HTN.out.below hal) (H1X.out.sub hal) (H2X.out.sub hal) (by rw [HN.out]; exact HBE.out) (gb_below HGX.out hal) ⟨List.nodup_cons.2 ⟨fun hDD => ?_, HSX.out.1⟩, fun E hE => ?_⟩ (fun E hE => ?_)
      · have h8 := (Array.getElem?_eq_some_iff.1 (HSH.out.2 D hDD)).1
        rw [World.size_alloc] at hD; omega
      · rcases List.mem_cons.1 hE with rfl | hE
        · exact (hal.block E (Array.getElem?_eq_some_iff.1 HKX.out).1).trans HKX.out
        · exact (hal.block E (Array.getElem?_eq_some_iff.1 (HSX.out.2 E hE)).1).trans (HSX.out.2 E hE)
      · rcases List.mem_cons.1 hE with rfl | hE
        · have := HG.out.size; have := HZ.out; rw [World.size_alloc] at hD; omega
        · exact HD.out E hE
end Go.Proofs.YtjglgcgkmfbdpaaDoor
