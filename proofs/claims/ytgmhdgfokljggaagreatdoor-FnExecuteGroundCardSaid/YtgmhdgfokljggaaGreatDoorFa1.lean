/- The factor of a level: the program's. -/
import Derived.Test.YtgmhdgfokljggaaGreatDoorAk
import Derived.Test.YtgmhdgfokljggaaGreatDoorFc2
import Derived.Test.YtgmhdgfokljggaaGreatDoorRat5
import Derived.Deep.RegionHeld3
import Derived.Deep.CutRange
namespace Go.Proofs.YtgmhdgfokljggaaGreatDoor
open Go.RowKit
attribute [local go_sem ↓] Go.wp_at_zero Go.wp_at_succ

theorem square_any (s l j x : Int) (w : World) (h0 : -1000 ≤ x) (h1 : x ≤ 1000) :
    Calls Tryz.prog 116 #[.agg #[.int .i64 s, .int .i64 l, .int .i64 j], .int .i64 x] w fun e w' => e = .returned (.int .i64 (x * (x + 2))) ∧ w' = w.alloc (.cells #[.int .i64 s, .int .i64 l, .int .i64 j] 156) := by
  have hx := mul_bd (x := x) (y := x + 2) (A := 1000) (B := 1002) (by omega) (by omega)
  have u : IntKind.i64.wrap (x * (x + 2)) = x * (x + 2) := IntWalk.i64_in _ (by omega)
  go_enter Tryz.func116, Tryz.ntmps116
  go_wp2_with fail
  go_ret
  exact ⟨rfl, rfl⟩

/-- The factor of a level. -/
def sq (x : Int) : Int := x * (x + 2)
def facN (t : T2) (j : Int) : Int := 2 * sq j + sq j + sq t.1 - sq (2 * t.2)
def facR (t : T2) (j : Int) : T2 × Bool := if lvB t j = true ∧ j ≠ 0 then ratOf (facN t j) (2 * sq j) else ((0, 0), false)
def Ers (w : World) : Prop := (∃ te pe, w.cell? ⟨0, 0, none⟩ = some (.iface te pe)) ∧ ∃ te pe, w.cell? ⟨1, 0, none⟩ = some (.iface te pe)
theorem Ers.on {w w' : World} (h : Ers w) (hb : Below w.heap.size w w') : Ers w' := by
  obtain ⟨⟨te, pe, h1⟩, te', pe', h2⟩ := h
  exact ⟨⟨te, pe, (hb.cell (World.block_lt_of_cell? _ _ h1)).trans h1⟩, te', pe', (hb.cell (World.block_lt_of_cell? _ _ h2)).trans h2⟩
def FacPost (w : World) (r : T2 × Bool) (e : Ending) (w' : World) : Prop :=
  (if r.2 = true then e = .returned (.tuple #[ratV r.1, .nilIface]) else ∃ te pe, e = .returned (.tuple #[ratV (0, 0), .iface te pe])) ∧ Below w.heap.size w w'

theorem facPost_no {w w' : World} {a b : Int} {te : TypeId} {pe : Value} (h : Below w.heap.size w w') : FacPost w ((a, b), false) (.returned (.tuple #[ratV (0, 0), .iface te pe])) w' := ⟨by rw [if_neg (by simp)]; exact ⟨te, pe, rfl⟩, h⟩
theorem facPost_yes {w w' : World} {a b : Int} (h : Below w.heap.size w w') : FacPost w ((a, b), true) (.returned (.tuple #[ratV (a, b), .nilIface])) w' := ⟨by rw [if_pos rfl], h⟩

set_option maxHeartbeats 8000000 in
theorem factorOf_any (t : T2) (j : Int) (w : World) (hE : Ers w) :
    Calls Tryz.prog 64 #[.agg #[.int .i64 t.1, .int .i64 t.2, .int .i64 j]] w (FacPost w (facR t j)) := by
  have HV := Lib.hid (fun W => LevelValid_all t j W)
  have HB := Lib.hid (((Below.refl w.heap.size w).alloc (Nat.le_refl _) (.cells #[.int .i64 t.1, .int .i64 t.2, .int .i64 j] 31)).alloc (by simp) (.cells #[.int .i64 0, .int .i64 0] 45))
  have HX := Lib.hid ((Blk.new w 31 #[.int .i64 t.1, .int .i64 t.2, .int .i64 j]).alloc (.cells #[.int .i64 0, .int .i64 0] 45))
  have hy := Blk.new (w.alloc (.cells #[.int .i64 t.1, .int .i64 t.2, .int .i64 j] 31)) 45 #[.int .i64 0, .int .i64 0]
  rw [World.size_alloc] at hy
  have HY := Lib.hid hy; clear hy
  have hne : ¬ w.heap.size = 0 := by obtain ⟨_, te, pe, h⟩ := hE; have := World.block_lt_of_cell? _ _ h; simp only at this; omega
  have HE := Lib.hid (fun W (hb : Below w.heap.size w W) => hE.on hb); clear hE
  cases hv : lvB t j
  · have hr : facR t j = ((0, 0), false) := by unfold facR; rw [hv]; simp
    rw [hr]; rw [hv] at HV
    clear hr hv
    obtain ⟨s, l⟩ := t
    simp only at *
    go_enter Tryz.func64, Tryz.ntmps64
    go_wp2_with fail
    refine (HV.out _).mono ?_
    rintro e w1 ⟨rfl, hb1⟩
    have HY1 := Lib.hid (HY.out.sub hb1)
    have HB1 := Lib.hid (HB.out.trans (hb1.mono HB.out.size))
    obtain ⟨⟨te, pe, c1⟩, _⟩ := HE.out _ HB1.out
    obtain ⟨y1, y2, f1, f2⟩ := blk2 HY1.out
    clear hb1
    go_wp2_with fail
    have HZ1 := Lib.hid ((HY1.out.set 0 (.int .i64 0)).set 1 (.int .i64 0))
    have HBZ := Lib.hid ((HB1.out.setCell (p := ⟨w.heap.size + 1, 0, none⟩) (by simp) (.int .i64 0)).setCell (p := ⟨w.heap.size + 1, 1, none⟩) (by simp) (.int .i64 0))
    go_region
    clear c1
    go_wp2_with fail
    refine bodyPost_ret (results_ct0 rfl _ _ (w.heap.size + 1) _ _ rfl HZ1.out.drew Tryz.underlying45 rfl (by kernel_rfl)) rfl ?_
    exact ⟨⟨te, pe, rfl⟩, HBZ.out.drew⟩
  by_cases hj0 : j = 0
  · subst hj0
    have hr : facR t 0 = ((0, 0), false) := by unfold facR; simp
    rw [hr]; rw [hv] at HV
    clear hr hv
    obtain ⟨s, l⟩ := t
    simp only at *
    go_enter Tryz.func64, Tryz.ntmps64
    go_wp2_with fail
    refine (HV.out _).mono ?_
    rintro e w1 ⟨rfl, hb1⟩
    have HY1 := Lib.hid (HY.out.sub hb1)
    have HB1 := Lib.hid (HB.out.trans (hb1.mono HB.out.size))
    obtain ⟨_, ⟨te, pe, c1⟩⟩ := HE.out _ HB1.out
    obtain ⟨y1, y2, f1, f2⟩ := blk2 HY1.out
    obtain ⟨x1, x2, x3⟩ := Level3 (HX.out.sub hb1)
    clear hb1
    go_wp2_with fail
    have HZ1 := Lib.hid ((HY1.out.set 0 (.int .i64 0)).set 1 (.int .i64 0))
    have HBZ := Lib.hid ((HB1.out.setCell (p := ⟨w.heap.size + 1, 0, none⟩) (by simp) (.int .i64 0)).setCell (p := ⟨w.heap.size + 1, 1, none⟩) (by simp) (.int .i64 0))
    go_region
    clear c1
    go_wp2_with fail
    refine bodyPost_ret (results_ct0 rfl _ _ (w.heap.size + 1) _ _ rfl HZ1.out.drew Tryz.underlying45 rfl (by kernel_rfl)) rfl ?_
    exact ⟨⟨te, pe, rfl⟩, HBZ.out.drew⟩
  have hr : facR t j = ratOf (facN t j) (2 * sq j) := by unfold facR; rw [if_pos ⟨hv, hj0⟩]
  have hb := lvB_iff.1 hv
  have hb1 := tvB_iff.1 hb.1
  have hb2 := (triB_iff.1 hb.2).1
  rw [hr]; rw [hv] at HV
  clear hr hv hb
  obtain ⟨s, l⟩ := t
  simp only at *
  have m1 := mul_bd (x := j) (y := j + 2) (A := 24) (B := 26) (by omega) (by omega)
  have m2 := mul_bd (x := s) (y := s + 2) (A := 8) (B := 10) (by omega) (by omega)
  have m3 := mul_bd (x := 2 * l) (y := 2 * l + 2) (A := 16) (B := 18) (by omega) (by omega)
  have e0 : (j == 0) = false := by simpa using hj0
  go_enter Tryz.func64, Tryz.ntmps64
  go_wp2_with fail
  refine (HV.out _).mono ?_
  rintro e w1 ⟨rfl, hc1⟩
  have HY1 := Lib.hid (HY.out.sub hc1)
  have HB1 := Lib.hid (HB.out.trans (hc1.mono HB.out.size))
  obtain ⟨x1, x2, x3⟩ := Level3 (HX.out.sub hc1)
  clear hc1
  go_wp2_with fail
  refine (square_any s l j j _ (by omega) (by omega)).mono ?_
  rintro e w2 ⟨rfl, rfl⟩
  go_upto_region 7 with (fail)
  have HM := Lib.hid (Blk.new w1 156 #[.int .i64 s, .int .i64 l, .int .i64 j])
  obtain ⟨r, hr⟩ : ∃ r, ratOf (facN (s, l) j) (2 * sq j) = r := ⟨_, rfl⟩
  rw [hr]
  have HR := Lib.hid (fun W => implRatOf_any (facN (s, l) j) (2 * sq j) W)
  rw [hr, okV_form] at HR
  have HRE := Lib.hid hr; clear hr
  unfold facN sq at HR
  simp only at HR
  have HY2 := Lib.hid ((HY1.out.alloc (.cells #[.int .i64 s, .int .i64 l, .int .i64 j] 156)).alloc (.cells #[.int .i64 s, .int .i64 l, .int .i64 j] 156))
  have HB2 := Lib.hid (bel_alloc (bel_alloc HB1.out (.cells #[.int .i64 s, .int .i64 l, .int .i64 j] 156)) (.cells #[.int .i64 s, .int .i64 l, .int .i64 j] 156))
  have hsz := HB1.out.size
  have hsy := HY1.out.lt
  go_cut [6, 7] from 30 to 53 (fun s6 s7 wx => ∃ g, s6 = .pointer (some ⟨g, 0, none⟩) ∧ s7 = .bool r.2 ∧ w.heap.size + 1 < g ∧ Hid (Blk wx g 45 #[.int .i64 r.1.1, .int .i64 r.1.2]) ∧ Hid (Blk wx (w.heap.size + 1) 45 #[.int .i64 0, .int .i64 0]) ∧ Hid (Below w.heap.size w wx))
  case first =>
    have u1 : IntKind.i64.wrap (2 * (j * (j + 2))) = 2 * (j * (j + 2)) := IntWalk.i64_in _ (by omega)
    have u2 : IntKind.i64.wrap (2 * (j * (j + 2)) + j * (j + 2)) = 2 * (j * (j + 2)) + j * (j + 2) := IntWalk.i64_in _ (by omega)
    have u3 : IntKind.i64.wrap (2 * (j * (j + 2)) + j * (j + 2) + s * (s + 2)) = 2 * (j * (j + 2)) + j * (j + 2) + s * (s + 2) := IntWalk.i64_in _ (by omega)
    have u4 : IntKind.i64.wrap (2 * l) = 2 * l := IntWalk.i64_in _ (by omega)
    have u5 : IntKind.i64.wrap (2 * (j * (j + 2)) + j * (j + 2) + s * (s + 2) - 2 * l * (2 * l + 2)) = 2 * (j * (j + 2)) + j * (j + 2) + s * (s + 2) - 2 * l * (2 * l + 2) := IntWalk.i64_in _ (by omega)
    have HS := Lib.hid (fun x W => square_any s l j x W)
    obtain ⟨m0, m1, m2⟩ := Level3 HM.out
    go_region_held3 (fun w' => w'.cell? ⟨w1.heap.size, 0, none⟩ = some (.int .i64 s) ∧ w'.cell? ⟨w1.heap.size, 1, none⟩ = some (.int .i64 l) ∧ w'.cell? ⟨w1.heap.size, 2, none⟩ = some (.int .i64 j)) (first | (refine ⟨?_, ?_, ?_⟩ <;> ((repeat (first | assumption | apply cell_past | rw [World.cell?_drew] | refine cell_sub hb9 ?_ | refine cell_far (by simp <;> omega) ?_)); done)) | go_keep)
      (first | (go_at_call 116; refine (HS.out _ _ (by omega) (by omega)).mono ?_; rintro e w' ⟨rfl, rfl⟩) | (go_at_call 117; refine (HR.out _).mono ?_; rintro e w' ⟨rfl, hb9⟩; obtain ⟨hc9, hf9, hs9⟩ := bcell hb9))
    all_goals
      go_wp2_with fail
      go_meet
      case rel =>
        have hs8 := hs9
        simp at hs8
        refine ⟨_, rfl, rfl, ?_, ?_, ?_, ?_⟩
        · omega
        · unfold Hid; repeat (first | (with_reducible refine blk_new' ?_; first | rfl | (simp; done)) | with_reducible refine blk_set2 (a := .int .i64 0) (b := .int .i64 0) ?_ | with_reducible refine blk_sub ?_ hb9 | with_reducible refine Blk.alloc ?_ _ | with_reducible refine Blk.drew ?_)
        · unfold Hid; repeat (first | with_reducible exact HY2.out | with_reducible refine blk_far2 ?_ (by omega) | with_reducible refine blk_sub ?_ hb9 | with_reducible refine Blk.alloc ?_ _ | with_reducible refine Blk.drew ?_)
        · unfold Hid; repeat (first | with_reducible exact HB2.out | with_reducible refine bel_set2 ?_ (by omega) | with_reducible refine bel_sub ?_ hb9 | with_reducible refine bel_alloc ?_ _ | with_reducible refine bel_drew ?_)
  case rest =>
    obtain ⟨g, rfl, rfl, hg, HG, HYR, HBR⟩ := hcut
    obtain ⟨y1, y2, f1, f2⟩ := blk2 HYR.out
    obtain ⟨q1, q2, f3, f4⟩ := blk2 HG.out
    obtain ⟨⟨a, b⟩, ok⟩ := r
    simp only at *
    cases ok
    · obtain ⟨⟨te, pe, c1⟩, _⟩ := HE.out _ HBR.out
      have HZ1 := Lib.hid ((HYR.out.set 0 (.int .i64 0)).set 1 (.int .i64 0))
      have HBZ := Lib.hid (bel_set (g := w.heap.size + 1) (i := 1) (u := .int .i64 0) (bel_set (g := w.heap.size + 1) (i := 0) (u := .int .i64 0) HBR.out (by simp)) (by simp))
      go_wp2_with fail
      go_region
      clear c1
      go_wp2_with fail
      refine bodyPost_ret (results_ct0 rfl _ _ (w.heap.size + 1) _ _ rfl HZ1.out.drew Tryz.underlying45 rfl (by kernel_rfl)) rfl ?_
      exact (by rw [HRE.out]; exact facPost_no HBZ.out.drew)
    · have HZ1 := Lib.hid ((HYR.out.set 0 (.int .i64 a)).set 1 (.int .i64 b))
      have HBZ := Lib.hid (bel_set (g := w.heap.size + 1) (i := 1) (u := .int .i64 b) (bel_set (g := w.heap.size + 1) (i := 0) (u := .int .i64 a) HBR.out (by simp)) (by simp))
      go_wp2_with fail
      refine bodyPost_ret (results_ct0 rfl _ _ (w.heap.size + 1) _ _ rfl HZ1.out Tryz.underlying45 rfl (by kernel_rfl)) rfl ?_
      exact (by rw [HRE.out]; exact facPost_yes HBZ.out)
end Go.Proofs.YtgmhdgfokljggaaGreatDoor
