/- Blends: the reference's groups, the walk. -/
import Derived.Test.YtmmnkdjibdlcjaaBk2
namespace Go.Proofs.Ytmmnkdjibdlcjaa
open Go.RowKit
attribute [local go_sem ↓] Go.wp_at_zero Go.wp_at_succ

theorem blOk_asc {xs : List Int} {wd : Int} (h : ascB xs = false) : blOk xs wd = false := by unfold blOk; rw [h]; rfl
theorem blOk_low {xs : List Int} {wd : Int} (h : wd < 0) : blOk xs wd = false := by
  unfold blOk; rw [Bool.eq_false_iff]; simp; omega
theorem blOk_yes {xs : List Int} {wd : Int} (h : ascB xs = true) (h0 : 0 ≤ wd) (h1 : wd ≤ 200000) : blOk xs wd = true := by
  unfold blOk; rw [h]; simp; omega
theorem blG_no {xs : List Int} {wd : Int} (h : blOk xs wd = false) : blG xs wd = [] := by unfold blG; rw [h]; rfl
theorem blG_yes {xs : List Int} {wd : Int} (h : blOk xs wd = true) : blG xs wd = grL xs wd xs.length := by unfold blG; rw [h]; rfl
def GrpPost (w : World) (xs : List Int) (wd : Int) (e : Ending) (w' : World) : Prop :=
  (∃ (A' : Option Addr) (q c' : Nat), e = .returned (.tuple #[.slice A' q c', .bool (blOk xs wd)]) ∧ Grps w' A' q c' (blG xs wd)) ∧ Below w.heap.size w w'
theorem grpPost_no {w w' : World} {xs : List Int} {wd : Int} {A : Option Addr} (h : blOk xs wd = false) (hb : Below w.heap.size w w') : GrpPost w xs wd (.returned (.tuple #[.slice A 0 0, .bool false])) w' :=
  ⟨⟨A, 0, 0, by rw [h], by rw [blG_no h]; exact grps_nil _ _⟩, hb⟩

set_option maxHeartbeats 1000000 in
theorem specBlendsOf_no (A : Option Addr) (n c : Nat) (xs : List Int) (wd : Int) (w : World) (h8 : n ≤ 8) (hxs : xs.length = n) (hin : InB xs 3001) (hr : Reads w w.heap.size 1 A n (icells xs)) (h0 : -1 ≤ wd) (h1 : wd ≤ 200000) (hno : blOk xs wd = false) :
    Calls Try.prog 10 #[.slice A n c, .int .i64 wd] w (GrpPost w xs wd) := by
  have HV := Lib.hid (l37Valid_any A n c xs (w.alloc (.cells #[] 23)) h8 hxs hin ((hr.keep (w' := w.alloc (.cells #[] 23)) fun p hp => World.cell?_alloc_lt w _ p hp).more (by simp)))
  have HB := Lib.hid ((Below.refl w.heap.size w).alloc (Nat.le_refl _) (.cells #[] 23))
  clear hr hin
  cases hasc : ascB xs
  · rw [hasc] at HV; clear hasc
    have HN := Lib.hid hno; clear hno
    go_enter Try.func10, Try.ntmps10
    go_wp2_with fail
    refine HV.out.mono ?_
    rintro e w1 ⟨rfl, hb1⟩
    have HB1 := Lib.hid (HB.out.trans (hb1.mono HB.out.size)); clear hb1
    go_wp2_with fail
    go_ret2
    exact grpPost_no HN.out HB1.out
  · have hlo : wd < 0 := by
      rcases Decidable.em (wd < 0) with h | h
      · exact h
      · rw [blOk_yes hasc (by omega) h1] at hno; cases hno
    rw [hasc] at HV; clear hasc
    have HN := Lib.hid hno; clear hno
    have HI : Hid (inB wd 0 200000 = false) := inB_not.2 (by omega)
    go_enter Try.func10, Try.ntmps10
    go_wp2_with fail
    refine HV.out.mono ?_
    rintro e w1 ⟨rfl, hb1⟩
    have HB1 := Lib.hid (HB.out.trans (hb1.mono HB.out.size)); clear hb1
    go_wp2_with fail
    refine (l6In_any _ _ _ _).mono ?_
    rintro e w2 ⟨rfl, rfl⟩
    rw [HI.out]
    go_wp2_with fail
    go_ret2
    exact grpPost_no HN.out HB1.out

set_option maxHeartbeats 4000000 in
theorem specBlendsOf_yes (A : Option Addr) (n c : Nat) (xs : List Int) (wd : Int) (w : World) (h8 : n ≤ 8) (hxs : xs.length = n) (hin : InB xs 3001) (hr : Reads w w.heap.size 1 A n (icells xs)) (h1 : wd ≤ 200000) (hasc : ascB xs = true) (h0 : 0 ≤ wd) :
    Calls Try.prog 10 #[.slice A n c, .int .i64 wd] w (GrpPost w xs wd) := by
  have HV := Lib.hid (l37Valid_any A n c xs (w.alloc (.cells #[] 23)) h8 hxs hin ((hr.keep (w' := w.alloc (.cells #[] 23)) fun p hp => World.cell?_alloc_lt w _ p hp).more (by simp)))
  rw [hasc] at HV
  have HY := Lib.hid (blOk_yes hasc h0 h1); clear hasc
  have HI : Hid (inB wd 0 200000 = true) := inB_iff.2 (by omega)
  have HB := Lib.hid ((Below.refl w.heap.size w).alloc (Nat.le_refl _) (.cells #[] 23))
  have HO := Lib.hid (own_empty w 23 1)
  have HRD := Lib.hid (fun W (hB : Below w.heap.size w W) => (hr.below hB).more hB.size); clear hr
  have HIN := Lib.hid hin; clear hin
  have HT := Lib.hid hxs; clear hxs
  go_enter Try.func10, Try.ntmps10
  go_wp2_with fail
  refine HV.out.mono ?_
  rintro e w1 ⟨rfl, hb1⟩
  have HO1 := Lib.hid (own_below HO.out hb1)
  have HB1 := Lib.hid (HB.out.trans (hb1.mono HB.out.size)); clear hb1 HB HO HV
  go_wp2_with fail
  refine (l6In_any _ _ _ _).mono ?_
  rintro e w2 ⟨rfl, rfl⟩
  rw [HI.out]; clear HI
  go_wp2_with fail
  go_loopw [6, 7] (fun v i wr => ∃ (k m c' : Nat) (A' : Option Addr) (vs : List Value), k ≤ n ∧ i = .int .i64 k ∧ v = .slice A' m c' ∧ m ≤ k ∧ m ≤ c' ∧ Hid (wr.ownsRow w.heap.size 23 1 (.slice A' m c') m vs) ∧ Hid (RI wr w.heap.size xs wd k vs) ∧ Hid (Below w.heap.size w wr)) (fun _ i _ => n - (intOf i).toNat)
  case atStart => exact ⟨0, 0, _, _, [], Nat.zero_le _, rfl, rfl, Nat.le_refl _, Nat.le_refl _, HO1.out, .inl ⟨rfl, rfl⟩, HB1.out⟩
  case round =>
    clear HO1 HB1
    obtain ⟨k, m, c', A', vs, hk, rfl, rfl, hmk, hmc, HW, HRI, HB⟩ := hrel
    by_cases hlt : k < n
    · obtain ⟨b, off, rfl, hb, hx⟩ := (HRD.out wr HB.out).int hlt
      have i1 : (0 : Int) ≤ (k : Int) := by omega
      have i2 : (k : Int) < (n : Int) := by omega
      obtain ⟨x, HX⟩ : ∃ x, Hid (gi xs k = x) := ⟨_, rfl⟩
      rw [HX.out] at hx
      cases hnw : nwB xs wd k
      · have hk0 : k ≠ 0 := by rintro rfl; rw [nwB_zero] at hnw; cases hnw
        have HNW := Lib.hid hnw; clear hnw
        obtain ⟨j, rfl⟩ : ∃ j, k = j + 1 := ⟨k - 1, by omega⟩
        obtain ⟨b', off', e', hb', hy⟩ := (HRD.out wr HB.out).int (show j < n by omega)
        cases e'
        obtain ⟨y, HYY⟩ : ∃ y, Hid (gi xs j = y) := ⟨_, rfl⟩
        rw [HYY.out] at hy
        have hgap : decide (wd < x - y) = false := by have := HNW.out; rw [nwB_succ, HX.out, HYY.out] at this; exact this
        have bx := HIN.out.at (k := j + 1) (by rw [HT.out]; exact hlt)
        have by' := HIN.out.at (k := j) (by rw [HT.out]; omega)
        rw [HX.out] at bx
        rw [HYY.out] at by'
        have hlen := grT_len xs wd (j + 1)
        obtain ⟨vi, A2, n2, c2, D, hvs, hv, hnc2, hl2, ho2, hD0, hD1⟩ : ∃ (vi : List Value) (A2 : Option Addr) (n2 c2 D : Nat), vs = vi ++ [Value.slice A2 n2 c2] ∧ Vals wr D vi (grI xs wd (j + 1)).1 ∧ n2 ≤ c2 ∧ (grI xs wd (j + 1)).2.length = n2 ∧ wr.ownsRow D 3 1 (.slice A2 n2 c2) n2 (icells (grI xs wd (j + 1)).2) ∧ w.heap.size ≤ D ∧ D ≤ wr.heap.size := by
          rcases HRI.out with ⟨h, _⟩ | ⟨_, h⟩
          · omega
          · exact h
        subst hvs
        obtain ⟨q, hq⟩ : ∃ q, vi.length = q := ⟨_, rfl⟩
        have hm : m = q + 1 := by have := HW.out.1; simp at this; omega
        subst hm
        obtain ⟨g, cur, rfl, hg, hblk, hfl⟩ := own_blk HW.out (by omega)
        have hc0 : wr.cell? ⟨g, q, none⟩ = some (.slice A2 n2 c2) := by rw [hblk.cell]; exact hfl q _ (by rw [← hq]; simp)
        have HQ := Lib.hid hq; clear hq
        have HL2 := Lib.hid hl2
        have hn2 : n2 ≤ 1000 := by omega
        have HV := Lib.hid hv
        have HO2 := Lib.hid ho2
        have HBLK := Lib.hid hblk
        clear hv hl2 ho2 hblk hfl hlen HRI
        have e0 : ((j : Int) + 1 == 0) = false := by simp; omega
        have i4 : IntKind.i64.wrap (((j + 1 : Nat) : Int) - 1) = (j : Int) := (IntWalk.i64_in _ (by omega)).trans (by omega)
        have i5 : (0 : Int) ≤ (j : Int) := by omega
        have i6 : (j : Int) < (n : Int) := by omega
        have i7 : IntKind.i64.wrap (x - y) = x - y := IntWalk.i64_in _ (by omega)
        have k1 := After.cell hx
        have k2 := After.cell hy
        go_wp2_with fail
        refine wp_region_after (by kernel_rfl) (by kernel_rfl) ?_
        repeat (go_big_quiet_step (fail))
        refine wpQuiet_nil ?_
        intro w9 hw'
        obtain ⟨⟨w9q, hb9⟩, hw''⟩ := hw'
        subst hw''
        have hx9 := (hb9.cell hb).trans hx
        have hc9 : w9.cell? ⟨g, q, none⟩ = some (.slice A2 n2 c2) := After.cell hc0 ⟨w9, hb9⟩
        have HW9 := Lib.hid (own_below HW.out hb9)
        have HO9 := Lib.hid (own_below HO2.out hb9)
        have HBLK9 := Lib.hid (HBLK.out.sub hb9)
        have HV9 := Lib.hid (HV.out.below (hb9.mono hD1))
        have hD9 : D ≤ w9.heap.size := Nat.le_trans hD1 hb9.size
        have HB9 := Lib.hid (HB.out.trans (hb9.mono HB.out.size))
        clear hb9 HW HO2 HBLK HV HB hx hy hc0 k1 k2 i4 i7 hgap e0
        have i8 : (0 : Int) ≤ (q : Int) := by omega
        have i9 : (q : Int) < (q : Int) + 1 := by omega
        have ia : (0 : Int) ≤ (j : Int) + 1 := by omega
        have ja := cell_past (.cells #[.int .i64 x] 3) hc9
        have jb := cell_past (.cells #[.int .i64 x] 3) hx9
        have ib : (j : Int) + 1 < (n : Int) := by omega
        have HSR : Hid (D ≤ (w9.alloc (.cells #[.int .i64 x] 3)).drew.heap.size) := by unfold Hid; simp; omega
        go_wp2_with fail
        go_region_law ((refine step_app2 _ (by rfl) (.tmp 57) (.tmp 62) _ (by rfl) D 3 1 8 elInt A2 c2 n2 (icells (grI xs wd (j + 1)).2) (by rfl) (ownsRow_drew' (HO9.out.alloc _)) w9.heap.size #[.int .i64 x] (by rfl) (Blk.new w9 _ _).drew (by rfl) (one1 (by rfl)) (by omega) (by omega) HSR.out ?_; intro A3 c3 w3 hown3 hc3 hb3 hk3; have hblk3 := (HBLK9.out.alloc (.cells #[.int .i64 x] 3)).drew.keepT hk3 (by decide); have z2 := (hblk3.cell q).trans ((HBLK9.out.cell q).symm.trans hc9); have z3 := hblk3.frozen q))
        all_goals
          have hks := keepT_set (i := q) (keepT_refl 23 w3) hblk3 (.slice A3 (n2 + 1) c3)
          have ho3 := own_keepT (ownsRow_drew' (HW9.out.alloc (.cells #[.int .i64 x] 3))) hk3 (by decide)
          have HWF := Lib.hid (own_last (v := .slice A3 (n2 + 1) c3) ho3 (by rw [HQ.out]))
          rw [HQ.out] at HWF
          have hbd : Below D w9 (w9.alloc (.cells #[.int .i64 x] 3)).drew := ((Below.refl D w9).alloc hD9 _).drew
          have HVF := Lib.hid (((HV9.out.below hbd).below hb3).keepT hks (by decide))
          have HOF := Lib.hid (own_keepT hown3 hks (by decide))
          have hz : D ≤ (w3.setCell ⟨g, q, none⟩ (.slice A3 (n2 + 1) c3)).heap.size := by have h1 := hbd.size; have h2 := hb3.size; simp at h1 h2 ⊢; omega
          have HRF : Hid (RI (w3.setCell ⟨g, q, none⟩ (.slice A3 (n2 + 1) c3)) w.heap.size xs wd (j + 1 + 1) (vi ++ [.slice A3 (n2 + 1) c3])) := by
            refine .inr ⟨by omega, vi, A3, n2 + 1, c3, D, rfl, ?_, hc3, ?_, ?_, hD0, hz⟩
            · rw [grI_old HNW.out]; exact HVF.out
            · rw [grI_old HNW.out]; simp [HL2.out]
            · rw [grI_old HNW.out, HX.out, icells_snoc]; exact HOF.out
          have HBF := Lib.hid ((((HB9.out.alloc HB9.out.size (.cells #[.int .i64 x] 3)).drew).trans (hb3.mono hD0)).setCell (p := ⟨g, q, none⟩) hg (.slice A3 (n2 + 1) c3))
          clear hks ho3 hbd hz hown3 hb3 hk3 hblk3 z2 z3 HVF HOF
          go_wp2_with fail
          go_roundw
          case rel => exact ⟨j + 1 + 1, q + 1, c', some ⟨g, 0, none⟩, _, by omega, by go_num, rfl, by omega, hmc, HWF.out, HRF.out, HBF.out⟩
          case measure => simp [intOf]; omega
      · have HNW := Lib.hid hnw; clear hnw
        by_cases hk0 : k = 0
        · subst hk0
          simp only [Nat.add_zero] at hx
          go_wp2_with fail
          refine wp_region_after (by kernel_rfl) (by kernel_rfl) ?_
          repeat (go_big_quiet_step (fail))
          refine wpQuiet_nil ?_
          intro w9 hw'
          obtain ⟨⟨w9q, hb9⟩, hw''⟩ := hw'
          subst hw''
          have hx9 := (hb9.cell hb).trans hx
          clear hx
          have HW9 := Lib.hid (own_below HW.out hb9)
          have HRI9 := Lib.hid (HRI.out.below hb9)
          have HB9 := Lib.hid (HB.out.trans (hb9.mono HB.out.size))
          clear hb9 HW HRI HB
          have HSZ : Hid (w.heap.size ≤ ((w9.alloc (.cells #[.int .i64 x] 3)).alloc (.cells #[.slice (some ⟨w9.heap.size, 0, none⟩) 1 1] 23)).heap.size) := by have := HB9.out.size; unfold Hid; simp; omega
          have HBL := Lib.hid (Blk.new (w9.alloc (.cells #[.int .i64 x] 3)) 23 #[.slice (some ⟨w9.heap.size, 0, none⟩) 1 1])
          rw [World.size_alloc] at HBL
          go_wp2_with (at_builtin; refine wpList_app1K _ rfl (.tmp 41) (.tmp 47) _ rfl w.heap.size 23 1 24 elSl A' c' m vs rfl ((HW9.out.alloc _).alloc _) (w9.heap.size + 1) #[.slice (some ⟨w9.heap.size, 0, none⟩) 1 1] rfl HBL.out rfl (one1 rfl) (by omega) (by omega) HSZ.out ?_)
          intro A3 c3 w3 hown3 hc3 hb3 hk3
          have HW3 := Lib.hid hown3
          have hbl := ((Blk.new w9 3 #[.int .i64 x]).alloc (.cells #[.slice (some ⟨w9.heap.size, 0, none⟩) 1 1] 23)).keepT hk3 (by decide)
          rw [← HX.out] at hbl hk3
          have hs3 := (World.size_alloc (w9.alloc (.cells #[.int .i64 x] 3)) (.cells #[.slice (some ⟨w9.heap.size, 0, none⟩) 1 1] 23))
          rw [World.size_alloc] at hs3
          have hs4 := hb3.size
          have hs5 := hbl.lt
          have HRI3 := Lib.hid (ri_new (k := 0) HRI9.out HNW.out HB9.out.size hbl hk3 (by omega))
          have HB3 := Lib.hid ((((HB9.out).alloc HB9.out.size _).alloc (by simp; have := HB9.out.size; omega) _).trans hb3)
          clear hown3 hb3 hk3 hbl hs3 hs4 hs5 hx9 HW9 HRI9 HB9 HSZ HBL
          go_wp2_with fail
          go_roundw
          case rel => exact ⟨0 + 1, m + 1, c3, A3, _, by omega, by go_num, rfl, by omega, hc3, HW3.out, HRI3.out, HB3.out⟩
          case measure => simp [intOf]; omega
        · obtain ⟨j, rfl⟩ : ∃ j, k = j + 1 := ⟨k - 1, by omega⟩
          obtain ⟨b', off', e', hb', hy⟩ := (HRD.out wr HB.out).int (show j < n by omega)
          cases e'
          obtain ⟨y, HYY⟩ : ∃ y, Hid (gi xs j = y) := ⟨_, rfl⟩
          rw [HYY.out] at hy
          have hgap : wd < x - y := by have := HNW.out; rw [nwB_succ, HX.out, HYY.out] at this; simpa using this
          have bx := HIN.out.at (k := j + 1) (by rw [HT.out]; exact hlt)
          have by' := HIN.out.at (k := j) (by rw [HT.out]; omega)
          rw [HX.out] at bx
          rw [HYY.out] at by'
          have e0 : ((j : Int) + 1 == 0) = false := by simp; omega
          have i4 : IntKind.i64.wrap (((j + 1 : Nat) : Int) - 1) = (j : Int) := (IntWalk.i64_in _ (by omega)).trans (by omega)
          have i5 : (0 : Int) ≤ (j : Int) := by omega
          have i6 : (j : Int) < (n : Int) := by omega
          have i7 : IntKind.i64.wrap (x - y) = x - y := IntWalk.i64_in _ (by omega)
          have k1 := After.cell hx
          have k2 := After.cell hy
          go_wp2_with fail
          refine wp_region_after (by kernel_rfl) (by kernel_rfl) ?_
          repeat (go_big_quiet_step (fail))
          refine wpQuiet_nil ?_
          intro w9 hw'
          obtain ⟨⟨w9q, hb9⟩, hw''⟩ := hw'
          subst hw''
          have hx9 := (hb9.cell hb).trans hx
          clear hx
          have HW9 := Lib.hid (own_below HW.out hb9)
          have HRI9 := Lib.hid (HRI.out.below hb9)
          have HB9 := Lib.hid (HB.out.trans (hb9.mono HB.out.size))
          clear hb9 HW HRI HB
          have HSZ : Hid (w.heap.size ≤ ((w9.alloc (.cells #[.int .i64 x] 3)).alloc (.cells #[.slice (some ⟨w9.heap.size, 0, none⟩) 1 1] 23)).heap.size) := by have := HB9.out.size; unfold Hid; simp; omega
          have HBL := Lib.hid (Blk.new (w9.alloc (.cells #[.int .i64 x] 3)) 23 #[.slice (some ⟨w9.heap.size, 0, none⟩) 1 1])
          rw [World.size_alloc] at HBL
          go_wp2_with (at_builtin; refine wpList_app1K _ rfl (.tmp 41) (.tmp 47) _ rfl w.heap.size 23 1 24 elSl A' c' m vs rfl ((HW9.out.alloc _).alloc _) (w9.heap.size + 1) #[.slice (some ⟨w9.heap.size, 0, none⟩) 1 1] rfl HBL.out rfl (one1 rfl) (by omega) (by omega) HSZ.out ?_)
          intro A3 c3 w3 hown3 hc3 hb3 hk3
          have HW3 := Lib.hid hown3
          have hbl := ((Blk.new w9 3 #[.int .i64 x]).alloc (.cells #[.slice (some ⟨w9.heap.size, 0, none⟩) 1 1] 23)).keepT hk3 (by decide)
          rw [← HX.out] at hbl hk3
          have hs3 := (World.size_alloc (w9.alloc (.cells #[.int .i64 x] 3)) (.cells #[.slice (some ⟨w9.heap.size, 0, none⟩) 1 1] 23))
          rw [World.size_alloc] at hs3
          have hs4 := hb3.size
          have hs5 := hbl.lt
          have HRI3 := Lib.hid (ri_new (k := (j + 1)) HRI9.out HNW.out HB9.out.size hbl hk3 (by omega))
          have HB3 := Lib.hid ((((HB9.out).alloc HB9.out.size _).alloc (by simp; have := HB9.out.size; omega) _).trans hb3)
          clear hown3 hb3 hk3 hbl hs3 hs4 hs5 hx9 HW9 HRI9 HB9 HSZ HBL
          go_wp2_with fail
          go_roundw
          case rel => exact ⟨(j + 1) + 1, m + 1, c3, A3, _, by omega, by go_num, rfl, by omega, hc3, HW3.out, HRI3.out, HB3.out⟩
          case measure => simp [intOf]; omega
    · obtain rfl : k = n := by omega
      have hm := ri_len HRI.out
      have HV := Lib.hid (HRI.out.vals)
      have HG := Lib.hid (HV.out.grps (Nat.le_refl _) hmc HW.out)
      clear hm
      go_wp2_with fail
      go_ret2
      refine ⟨⟨A', m, c', by rw [HY.out]; rfl, ?_⟩, HB.out⟩
      rw [blG_yes HY.out, HT.out]
      exact HG.out
end Go.Proofs.Ytmmnkdjibdlcjaa
