/- Blends: the program's pieces of a list, produced one by one. -/
import Derived.Test.YtmmnkdjibdlcjaaBk3
import Derived.RangeFuncBox
import Derived.RangeFuncLeaves
import Derived.RangeFuncCalls
import Derived.Shelf.Abstract
import Derived.OwnWalkIn
import Derived.TacticsInMore
import Derived.LoopNIn
import Derived.LoopIn
import Derived.Deep.CutRange
namespace Go.Proofs.Ytmmnkdjibdlcjaa
open Go.RowKit
attribute [local go_sem] Oper.semAt_some

/-- A piece's two ends. -/
abbrev Seg (n : Nat) := { p : Nat × Nat // p.1 < p.2 ∧ p.2 ≤ n }
def sgm (xs : List Int) {n : Nat} (p : Seg n) : List Int := sl xs p.1.1 p.1.2
def encG (b off c : Nat) {n : Nat} (p : Seg n) : Value := .slice (some ⟨b, off + p.1.1, none⟩) (p.1.2 - p.1.1) (c - p.1.1)
/-- Below B0, and the two boxes behind it, all is as it was. -/
def KpB (B0 : Nat) (W W' : World) : Prop := Below B0 W W' ∧ W'.heap[B0 + 1]? = W.heap[B0 + 1]? ∧ W'.heap[B0 + 2]? = W.heap[B0 + 2]?
theorem kpB_refl (B0 : Nat) (W : World) : KpB B0 W W := ⟨Below.refl _ _, rfl, rfl⟩
theorem KpB.trans {B0 : Nat} {A B C : World} (h : KpB B0 A B) (k : KpB B0 B C) : KpB B0 A C := ⟨h.1.trans k.1, k.2.1.trans h.2.1, k.2.2.trans h.2.2⟩
theorem kpB_after {B0 : Nat} {W W' : World} (h : Below W.heap.size W W') (hB : B0 + 2 < W.heap.size) : KpB B0 W W' := ⟨h.mono (by omega), h.block _ (by omega), h.block _ (by omega)⟩
theorem gb_none {W W' : World} (h : Below W.heap.size W W') : W.grownBy W' none := ⟨h.os, h.tape, h.output, h.size, fun k hk _ => h.block k hk⟩

theorem seg_slice (b off n c k T : Nat) (hk : k < T) (hT : T ≤ n) (hn : n ≤ c) (w : World) :
    (Instr.slice 23 (.slice (some ⟨b, off, none⟩) n c) (some (.int .i64 (k : Int))) (some (.int .i64 (T : Int))) none).run Try.prog w = .ok (.slice (some ⟨b, off + k, none⟩) (T - k) (c - k)) w := by
  have hs : (sizeOf (Try.prog.elem 23)).run Try.prog w = .ok 1 w := by kernel_rfl
  rw [run_slice_lh w 23 _ n c (show Try.prog.underlying 23 = some (.slice (Try.prog.elem 23)) by kernel_rfl) .i64 .i64 k T (by omega) (by omega) (by omega), hs]
  simp only [Result.andThen_ok, sliced, Int.toNat_natCast, Option.map_some, Nat.mul_one]
  rw [if_neg (by omega)]
  have : (⟨b, off, none⟩ : Addr).add k = ⟨b, off + k, none⟩ := by unfold Addr.add; split <;> simp_all
  rw [this]

set_option maxHeartbeats 4000000 in
set_option maxRecDepth 100000 in
theorem cut1_in (N : Nat) (hN : 1 ≤ N) (l b off n c B0 : Nat) (xs : List Int) (wd : Int) (h8 : n ≤ 8) (hnc : n ≤ c) (hxs : xs.length = n) (hin : InB xs 3001) (h0 : 0 ≤ wd) (h1 : wd ≤ 200000) (J Jx : List (Seg n) → World → Prop) (W : World)
    (hJ : AbidesFrom W.heap.size J)
    (hY : ∀ pre x W, J pre W → pre.length < n → YieldAt Fence.wide (N - 1) Try.prog l #[encG b off c x] W fun e W' =>
      (e = .returned (.bool true) ∧ J (pre ++ [x]) W' ∧ KpB B0 W W') ∨ (e = .returned (.bool false) ∧ Jx (pre ++ [x]) W'))
    (hBl : W.cell? ⟨B0 + 1, 0, none⟩ = some (.slice (some ⟨b, off, none⟩) n c)) (hBw : W.cell? ⟨B0 + 2, 0, none⟩ = some (.int .i64 wd)) (hr : Reads W B0 1 (some ⟨b, off, none⟩) n (icells xs)) (hJ0 : J [] W) :
    CallsIn Fence.wide N Try.prog 33 #[.func (.yield l) #[] #[], .pointer (some ⟨B0 + 1, 0, none⟩), .pointer (some ⟨B0 + 2, 0, none⟩)] W fun e W' => (∃ v, e = .returned v) ∧
      ((∃ ys : List (Seg n), ys.map (sgm xs) = grL xs wd n ∧ J ys W') ∨ (∃ pre, True ∧ Jx pre W')) := by
  have HJ := Lib.hid hJ; have HY := Lib.hid hY; have HR := Lib.hid hr; have HIN := Lib.hid hin; have HT := Lib.hid hxs; have HJ0 := Lib.hid hJ0
  have hsz : B0 + 2 < W.heap.size := World.block_lt_of_cell? _ _ hBw
  have HBL := Lib.hid hBl; have HBW := Lib.hid hBw
  clear hJ hY hr hin hxs hJ0 hBl hBw
  have hW0 := kpB_refl B0 W
  refine callsIn_of_wp Try.func33 rfl trivial ?_ rfl
  simp only [Try.ntmps33, List.size_toArray, List.length_cons, List.length_nil, Nat.reduceAdd, Nat.reduceSub, Array.replicate_succ, Array.replicate_zero, List.push_toArray, List.append_toArray, List.nil_append, List.cons_append]
  refine wpIn_wide.2 ?_
  go_wp2_with fail
  go_loopw [4] (fun i wr => ∃ (k : Nat) (pre : List (Seg n)), k ≤ n ∧ i = .int .i64 k ∧ Hid (k < n → nwB xs wd k = true) ∧ Hid (pre.map (sgm xs) = grL xs wd k) ∧ pre.length ≤ k ∧ Hid (J pre wr) ∧ Hid (KpB B0 W wr) ∧ B0 + 2 < wr.heap.size) (fun i _ => n - (intOf i).toNat)
  case atStart => exact ⟨0, [], Nat.zero_le _, rfl, fun _ => nwB_zero _ _, rfl, Nat.le_refl _, HJ0.out, hW0, hsz⟩
  case round =>
    clear hW0 hsz HJ0
    obtain ⟨wo, rfl⟩ : ∃ wo : World, wo = wr := ⟨_, rfl⟩
    obtain ⟨k, pre, hk, rfl, HNW, HPRE, hpl, HJW, HKP, hsz⟩ := hrel
    have hBl : wo.cell? ⟨B0 + 1, 0, none⟩ = some (.slice (some ⟨b, off, none⟩) n c) := (World.cell?_of_block HKP.out.2.1).trans HBL.out
    by_cases hlt : k < n
    · have HNk := Lib.hid (HNW.out hlt); clear HNW
      have hBlw := World.block_lt_of_cell? _ _ hBl
      go_wp2_with fail
      clear hBl
      go_loopw [5] (fun v wr => ∃ (t : Nat), k < t ∧ t ≤ n ∧ v = .int .i64 t ∧ Hid (∀ j, k < j → j < t → nwB xs wd j = false) ∧ Hid (Below wo.heap.size wo wr)) (fun v _ => n - (intOf v).toNat)
      case atStart => exact ⟨k + 1, by omega, by omega, by go_num, fun j a b => absurd b (by omega), Below.refl _ _⟩
      case round =>
        obtain ⟨t, hkt, htn, rfl, HG, HQ⟩ := hrel
        have HKQ := Lib.hid (HKP.out.trans (kpB_after HQ.out hsz))
        have HJQ := Lib.hid (HJ.out _ _ _ none HJW.out (gb_none HQ.out) (fun r e => by cases e))
        have hBl : wr.cell? ⟨B0 + 1, 0, none⟩ = some (.slice (some ⟨b, off, none⟩) n c) := (World.cell?_of_block HKQ.out.2.1).trans HBL.out
        have hBw : wr.cell? ⟨B0 + 2, 0, none⟩ = some (.int .i64 wd) := (World.cell?_of_block HKQ.out.2.2).trans HBW.out
        have i1 : (0 : Int) ≤ (t : Int) := by omega
        by_cases hgo : t < n ∧ nwB xs wd t = false
        · obtain ⟨htl, hnt⟩ := hgo
          obtain ⟨j, rfl⟩ : ∃ j, t = j + 1 := ⟨t - 1, by omega⟩
          obtain ⟨x, HX⟩ : ∃ x, Hid (gi xs (j + 1) = x) := ⟨_, rfl⟩
          obtain ⟨y, HYY⟩ : ∃ y, Hid (gi xs j = y) := ⟨_, rfl⟩
          have HRW := Lib.hid (HR.out.below HKQ.out.1)
          obtain ⟨b', off', e', hb', hx⟩ := HRW.out.int htl
          cases e'
          obtain ⟨b', off', e', hb', hy⟩ := HRW.out.int (show j < n by omega)
          cases e'
          rw [HX.out] at hx
          rw [HYY.out] at hy
          have hgap : ¬ (wd < x - y) := by have := hnt; rw [nwB_succ, HX.out, HYY.out] at this; simpa using this
          have bx := HIN.out.at (k := j + 1) (by rw [HT.out]; exact htl)
          have by' := HIN.out.at (k := j) (by rw [HT.out]; omega)
          rw [HX.out] at bx
          rw [HYY.out] at by'
          have HNT := Lib.hid hnt; clear hnt
          have d0 : decide ((j : Int) + 1 < (n : Int)) = true := decide_eq_true (by omega)
          have d1 : decide (x - y ≤ wd) = true := decide_eq_true (by omega)
          have i3 : (0 : Int) ≤ (j : Int) + 1 := by omega
          have i4 : IntKind.i64.wrap ((j : Int) + 1 - 1) = (j : Int) := (IntWalk.i64_in _ (by omega)).trans (by omega)
          have i5 : (0 : Int) ≤ (j : Int) := by omega
          have i6 : (j : Int) < (n : Int) := by omega
          have i7 : IntKind.i64.wrap (x - y) = x - y := IntWalk.i64_in _ (by omega)
          have i8 : (j : Int) + 1 < (n : Int) := by omega
          have k1 := After.cell hx
          have k2 := After.cell hy
          have k3 := After.cell hBl
          have k4 := After.cell hBw
          go_wp2_with fail
          refine wp_region_after (by kernel_rfl) (by kernel_rfl) ?_
          repeat (go_big_quiet_step (fail))
          refine wpQuiet_nil ?_
          intro w9 hw'
          obtain ⟨⟨w9q, hb9⟩, hw''⟩ := hw'
          subst hw''
          have HB9 := Lib.hid (HQ.out.trans (hb9.mono HQ.out.size)); clear hb9
          go_wp2_with fail
          go_roundw
          case rel =>
            refine ⟨j + 1 + 1, by omega, by omega, by go_num, fun i a b => ?_, HB9.out⟩
            rcases Nat.lt_or_ge i (j + 1) with h | h
            · exact HG.out i a h
            · obtain rfl : i = j + 1 := by omega
              exact HNT.out
          case measure => simp [intOf]; omega
        · by_cases htl : t < n
          · have hnt : nwB xs wd t = true := by cases h : nwB xs wd t; (exact absurd ⟨htl, h⟩ hgo); rfl
            obtain ⟨j, rfl⟩ : ∃ j, t = j + 1 := ⟨t - 1, by omega⟩
            obtain ⟨x, HX⟩ : ∃ x, Hid (gi xs (j + 1) = x) := ⟨_, rfl⟩
            obtain ⟨y, HYY⟩ : ∃ y, Hid (gi xs j = y) := ⟨_, rfl⟩
            have HRW := Lib.hid (HR.out.below HKQ.out.1)
            obtain ⟨b', off', e', hb', hx⟩ := HRW.out.int htl
            cases e'
            obtain ⟨b', off', e', hb', hy⟩ := HRW.out.int (show j < n by omega)
            cases e'
            rw [HX.out] at hx
            rw [HYY.out] at hy
            have hgap : wd < x - y := by have := hnt; rw [nwB_succ, HX.out, HYY.out] at this; simpa using this
            have bx := HIN.out.at (k := j + 1) (by rw [HT.out]; exact htl)
            have by' := HIN.out.at (k := j) (by rw [HT.out]; omega)
            rw [HX.out] at bx
            rw [HYY.out] at by'
            have HNT := Lib.hid hnt; clear hnt hgo
            have d0 : decide ((j : Int) + 1 < (n : Int)) = true := decide_eq_true (by omega)
            have d1 : decide (x - y ≤ wd) = false := decide_eq_false (by omega)
            have i3 : (0 : Int) ≤ (j : Int) + 1 := by omega
            have i4 : IntKind.i64.wrap ((j : Int) + 1 - 1) = (j : Int) := (IntWalk.i64_in _ (by omega)).trans (by omega)
            have i5 : (0 : Int) ≤ (j : Int) := by omega
            have i6 : (j : Int) < (n : Int) := by omega
            have i7 : IntKind.i64.wrap (x - y) = x - y := IntWalk.i64_in _ (by omega)
            have i8 : (j : Int) + 1 < (n : Int) := by omega
            have k1 := After.cell hx
            have k2 := After.cell hy
            have k3 := After.cell hBl
            have k4 := After.cell hBw
            go_wp2_with fail
            refine wp_region_after (by kernel_rfl) (by kernel_rfl) ?_
            repeat (go_big_quiet_step (fail))
            refine wpQuiet_nil ?_
            intro w9 hw'
            obtain ⟨⟨w9q, hb9⟩, hw''⟩ := hw'
            subst hw''
            clear k1 k2 k3 k4 i4 i7 d0 d1
            have HEND : Hid (j + 1 < n → nwB xs wd (j + 1) = true) := fun _ => HNT.out
            have HKR := Lib.hid (HKQ.out.trans (kpB_after hb9 (Nat.lt_of_lt_of_le hsz HQ.out.size)))
            have HJR := Lib.hid (HJ.out _ _ _ none HJQ.out (gb_none hb9) (fun r e => by cases e))
            have hBl9 : w9.cell? ⟨B0 + 1, 0, none⟩ = some (.slice (some ⟨b, off, none⟩) n c) := (World.cell?_of_block HKR.out.2.1).trans HBL.out
            have hsz9 : B0 + 2 < w9.heap.size := Nat.lt_of_lt_of_le hsz (Nat.le_trans HQ.out.size hb9.size)
            obtain ⟨fn, tmps, assign, body, hyl, hR⟩ := HY.out pre ⟨(k, (j + 1)), by omega, by omega⟩ w9 HJR.out (by omega)
            have HRD := Lib.hid hR; clear hR
            dsimp only [encG] at hyl
            have HPN : Hid ((pre ++ [(⟨(k, (j + 1)), by omega, by omega⟩ : Seg n)]).map (sgm xs) = grL xs wd (j + 1)) := by
              rw [List.map_append, HPRE.out, gr_cut (f := k) HNk.out HG.out (by omega) (by rw [HT.out]; omega)]
              rfl
            have HPL : Hid ((pre ++ [(⟨(k, (j + 1)), by omega, by omega⟩ : Seg n)]).length ≤ (j + 1)) := by unfold Hid; simp; omega
            have j1 : (0 : Int) ≤ (k : Int) := by omega
            have j2 : (k : Int) ≤ (j : Int) + 1 := by omega
            have j3 : (j : Int) + 1 ≤ (c : Int) := by omega
            have hsl : ∀ w, (Instr.slice 23 (.slice (some ⟨b, off, none⟩) n c) (some (.int .i64 (k : Int))) (some (.int .i64 ((j : Int) + 1))) none).run Try.prog w = .ok (.slice (some ⟨b, off + k, none⟩) ((j + 1) - k) (c - k)) w := fun w => by have h := seg_slice b off n c k (j + 1) hkt htn hnc w; rwa [show (((j + 1 : Nat)) : Int) = (j : Int) + 1 by omega] at h
            clear hb9 hBl hBw HJW HKP HKQ HJQ
            go_upto_region 5 with (fail)
            refine (wpIn_wide (n := N)).1 ?_
            gi_wp2
            refine HRD.out.mono ?_
            rintro e w10 (⟨rfl, hJ3, hk3⟩ | ⟨rfl, hJx3⟩)
            · have HZ := Lib.hid (show B0 + 2 < w10.heap.size by have := hk3.1.size; omega)
              have HJ3 := Lib.hid hJ3
              have HK3 := Lib.hid (HKR.out.trans hk3)
              clear hJ3 hk3 hsl hyl
              gi_wp2
              go_wp2_with fail
              go_roundw
              case rel => exact ⟨(j + 1), _, by omega, by go_num, HEND.out, HPN.out, HPL.out, HJ3.out, HK3.out, HZ.out⟩
              case measure => simp [intOf]; omega
            · have HJX := Lib.hid hJx3; clear hJx3
              gi_wp2
              go_wp2_with fail
              refine bodyPost_ret (results_none rfl _ _ _) rfl ?_
              exact ⟨⟨_, rfl⟩, .inr ⟨_, trivial, HJX.out⟩⟩
          · obtain rfl : t = n := by omega
            have d0 : decide ((t : Int) < (t : Int)) = false := by simp
            have k3 := After.cell hBl
            go_wp2_with fail
            refine wp_region_after (by kernel_rfl) (by kernel_rfl) ?_
            repeat (go_big_quiet_step (fail))
            refine wpQuiet_nil ?_
            intro w9 hw'
            obtain ⟨⟨w9q, hb9⟩, hw''⟩ := hw'
            subst hw''
            clear k3
            have HEND : Hid (t < t → nwB xs wd t = true) := fun h => absurd h (Nat.lt_irrefl _)
            have HKR := Lib.hid (HKQ.out.trans (kpB_after hb9 (Nat.lt_of_lt_of_le hsz HQ.out.size)))
            have HJR := Lib.hid (HJ.out _ _ _ none HJQ.out (gb_none hb9) (fun r e => by cases e))
            have hBl9 : w9.cell? ⟨B0 + 1, 0, none⟩ = some (.slice (some ⟨b, off, none⟩) t c) := (World.cell?_of_block HKR.out.2.1).trans HBL.out
            have hsz9 : B0 + 2 < w9.heap.size := Nat.lt_of_lt_of_le hsz (Nat.le_trans HQ.out.size hb9.size)
            obtain ⟨fn, tmps, assign, body, hyl, hR⟩ := HY.out pre ⟨(k, t), by omega, by omega⟩ w9 HJR.out (by omega)
            have HRD := Lib.hid hR; clear hR
            dsimp only [encG] at hyl
            have HPN : Hid ((pre ++ [(⟨(k, t), by omega, by omega⟩ : Seg t)]).map (sgm xs) = grL xs wd t) := by
              rw [List.map_append, HPRE.out, gr_cut (f := k) HNk.out HG.out (by omega) (by rw [HT.out]; omega)]
              rfl
            have HPL : Hid ((pre ++ [(⟨(k, t), by omega, by omega⟩ : Seg t)]).length ≤ t) := by unfold Hid; simp; omega
            have j1 : (0 : Int) ≤ (k : Int) := by omega
            have j2 : (k : Int) ≤ (t : Int) := by omega
            have j3 : (t : Int) ≤ (c : Int) := by omega
            have hsl : ∀ w, (Instr.slice 23 (.slice (some ⟨b, off, none⟩) t c) (some (.int .i64 (k : Int))) (some (.int .i64 ((t : Int)))) none).run Try.prog w = .ok (.slice (some ⟨b, off + k, none⟩) (t - k) (c - k)) w := fun w => by exact seg_slice b off t c k t hkt htn hnc w
            clear hb9 hBl hBw HJW HKP HKQ HJQ
            go_upto_region 5 with (fail)
            refine (wpIn_wide (n := N)).1 ?_
            gi_wp2
            refine HRD.out.mono ?_
            rintro e w10 (⟨rfl, hJ3, hk3⟩ | ⟨rfl, hJx3⟩)
            · have HZ := Lib.hid (show B0 + 2 < w10.heap.size by have := hk3.1.size; omega)
              have HJ3 := Lib.hid hJ3
              have HK3 := Lib.hid (HKR.out.trans hk3)
              clear hJ3 hk3 hsl hyl
              gi_wp2
              go_wp2_with fail
              go_roundw
              case rel => exact ⟨t, _, by omega, by go_num, HEND.out, HPN.out, HPL.out, HJ3.out, HK3.out, HZ.out⟩
              case measure => simp [intOf]; omega
            · have HJX := Lib.hid hJx3; clear hJx3
              gi_wp2
              go_wp2_with fail
              refine bodyPost_ret (results_none rfl _ _ _) rfl ?_
              exact ⟨⟨_, rfl⟩, .inr ⟨_, trivial, HJX.out⟩⟩
    · obtain rfl : k = n := by omega
      go_wp2_with fail
      go_end0
      exact ⟨⟨_, rfl⟩, .inl ⟨pre, HPRE.out, HJW.out⟩⟩
end Go.Proofs.Ytmmnkdjibdlcjaa
