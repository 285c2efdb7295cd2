/- The program's projections of an angular momentum, produced one by one. -/
import Derived.Test.YtjglgcgkmfbdpaaDoorMi5
import Derived.RangeFuncBox
import Derived.RangeFuncLeaves
import Derived.RangeFuncCalls
import Derived.Shelf.Abstract
import Derived.OwnWalkIn
import Derived.TacticsInMore
import Derived.LoopNIn
import Derived.LoopIn
import Derived.Deep.CutRange
namespace Go.Proofs.YtjglgcgkmfbdpaaDoor
open Go.RowKit
attribute [local go_sem] Oper.semAt_some

/-- A projection. -/
abbrev P10 := { x : Int // In10 x }
def prj (j : Int) (k : Nat) : List Int := (List.range k).map fun (i : Nat) => -j + 2 * (i : Int)
theorem prj_succ (j : Int) (k : Nat) : prj j (k + 1) = prj j k ++ [-j + 2 * (k : Int)] := by simp [prj, List.range_succ]
theorem prj_len (j : Int) (k : Nat) : (prj j k).length = k := by simp [prj]
/-- The box stays. -/
def KpJ (B0 : Nat) (W W' : World) : Prop := W'.heap[B0]? = W.heap[B0]?
theorem KpJ.trans {B0 : Nat} {A B C : World} (h : KpJ B0 A B) (k : KpJ B0 B C) : KpJ B0 A C := Eq.trans k h

set_option maxHeartbeats 2000000 in
set_option maxRecDepth 100000 in
theorem proj_in (N : Nat) (hN : 1 ≤ N) (l B0 : Nat) (j : Nat) (hj : j ≤ 8) (J Jx : List P10 → World → Prop) (W : World)
    (hY : ∀ pre x W, J pre W → pre.length < j + 1 → YieldAt Fence.wide (N - 1) Tryd.prog l #[.int .i64 x.1] W fun e W' =>
      (e = .returned (.bool true) ∧ J (pre ++ [x]) W' ∧ KpJ B0 W W') ∨ (e = .returned (.bool false) ∧ Jx (pre ++ [x]) W'))
    (hB : W.cell? ⟨B0, 0, none⟩ = some (.int .i64 (j : Int))) (hJ0 : J [] W) :
    CallsIn Fence.wide N Tryd.prog 30 #[.func (.yield l) #[] #[], .pointer (some ⟨B0, 0, none⟩)] W fun e W' => (∃ v, e = .returned v) ∧
      ((∃ ys : List P10, ys.map (·.1) = prj (j : Int) (j + 1) ∧ J ys W') ∨ (∃ pre, True ∧ Jx pre W')) := by
  have HY := Lib.hid hY; have HJ0 := Lib.hid hJ0; have HB := Lib.hid hB
  clear hY hJ0
  have hK0 : KpJ B0 W W := rfl
  refine callsIn_of_wp Tryd.func30 rfl trivial ?_ rfl
  simp only [Tryd.ntmps30, List.size_toArray, List.length_cons, List.length_nil, Nat.reduceAdd, Nat.reduceSub, Array.replicate_succ, Array.replicate_zero, List.push_toArray, List.append_toArray, List.nil_append, List.cons_append]
  refine wpIn_wide.2 ?_
  go_wp2_with fail
  clear hB
  go_loopw [3] (fun i wr => ∃ (k : Nat) (pre : List P10), k ≤ j + 1 ∧ i = .int .i64 (-(j : Int) + 2 * (k : Int)) ∧ Hid (pre.map (·.1) = prj (j : Int) k) ∧ Hid (J pre wr) ∧ Hid (KpJ B0 W wr)) (fun i _ => ((j : Int) + 2 - RowKit.intOf i).toNat)
  case atStart => exact ⟨0, [], Nat.zero_le _, by go_num, rfl, HJ0.out, hK0⟩
  case round =>
    clear hK0 HJ0
    obtain ⟨k, pre, hk, rfl, HPE, HJ, HK⟩ := hrel
    have hB : wr.cell? ⟨B0, 0, none⟩ = some (.int .i64 (j : Int)) := (World.cell?_of_block (a := ⟨B0, 0, none⟩) (show wr.heap[B0]? = W.heap[B0]? from HK.out)).trans HB.out
    by_cases hlt : k < j + 1
    · have HPS := Lib.hid (prj_succ (j : Int) k)
      have hP : In10 (-(j : Int) + 2 * (k : Int)) := by unfold In10; omega
      have HLP : Hid (pre.length = k) := by unfold Hid; rw [← prj_len (j : Int) k, ← HPE.out, List.length_map]
      have HPX : Hid ((pre ++ [(⟨-(j : Int) + 2 * (k : Int), hP⟩ : P10)]).map (·.1) = prj (j : Int) (k + 1)) := by unfold Hid; rw [List.map_append, HPE.out, prj_succ]; rfl
      obtain ⟨fn, tmps, assign, body, hyl, hR⟩ := HY.out pre ⟨-(j : Int) + 2 * (k : Int), hP⟩ wr HJ.out (by rw [HLP.out]; omega)
      have HRD := Lib.hid hR; clear hR
      simp only at hyl
      have i1 : -(j : Int) + 2 * (k : Int) ≤ (j : Int) := by omega
      obtain ⟨M, hM⟩ : ∃ M : Int, -(j : Int) + 2 * (k : Int) = M := ⟨_, rfl⟩
      obtain ⟨q, hq⟩ : ∃ q : List P10, pre ++ [(⟨-(j : Int) + 2 * (k : Int), hP⟩ : P10)] = q := ⟨_, rfl⟩
      rw [hq] at HPX HRD
      clear hq
      rw [hM] at i1 hyl
      simp only [hM]
      have i2 : -8 ≤ M := by omega
      have HM := Lib.hid hM; clear hM
      go_upto_region 3 with (fail)
      refine (wpIn_wide (n := N)).1 ?_
      gi_wp2
      refine HRD.out.mono ?_
      rintro e w10 (⟨rfl, hJ3, hk3⟩ | ⟨rfl, hJx3⟩)
      · have HJ3 := Lib.hid hJ3
        have HK3 := Lib.hid (HK.out.trans hk3)
        clear hJ3 hk3 hyl hB
        gi_wp2
        go_wp2_with fail
        go_roundw
        case rel => exact ⟨k + 1, q, by omega, by rw [← HM.out]; go_num, HPX.out, HJ3.out, HK3.out⟩
        case measure => have := HM.out; simp [RowKit.intOf]; omega
      · have HJX := Lib.hid hJx3; clear hJx3
        gi_wp2
        go_wp2_with fail
        refine bodyPost_ret (results_none rfl _ _ _) rfl ?_
        exact ⟨⟨_, rfl⟩, .inr ⟨_, trivial, HJX.out⟩⟩
    · obtain rfl : k = j + 1 := by omega
      have i1 : ¬ (-(j : Int) + 2 * ((j + 1 : Nat) : Int) ≤ (j : Int)) := by omega
      go_wp2_with fail
      go_end0
      exact ⟨⟨_, rfl⟩, .inl ⟨pre, HPE.out, HJ.out⟩⟩
theorem projections_any (j : Int) (w : World) :
    Calls Tryd.prog 22 #[.int .i64 j] w fun e w' => e = .returned (.func (.func 30) #[] #[.pointer (some ⟨w.heap.size, 0, none⟩)]) ∧ w' = w.alloc (.cells #[.int .i64 j] 56) := by
  go_enter Tryd.func22, Tryd.ntmps22
  go_wp2_with fail
  go_ret
  exact ⟨rfl, rfl⟩
theorem proj_stops (N : Nat) (hN : 1 ≤ N) (B0 j : Nat) (hj : j ≤ 8) (w : World) (hB : w.cell? ⟨B0, 0, none⟩ = some (.int .i64 (j : Int))) :
    SeqStopsK Fence.wide N Tryd.prog 30 #[.pointer (some ⟨B0, 0, none⟩)] (fun x : P10 => #[.int .i64 x.1]) (KpJ B0) (fun ys => ys.map (·.1) = prj (j : Int) (j + 1)) (fun _ => True) (j + 1) w := by
  intro l J Jx W hW _ _ hY hJ0
  exact proj_in N hN l B0 j hj J Jx W hY ((hW.cell (p := ⟨B0, 0, none⟩) (World.block_lt_of_cell? _ _ hB)).trans hB) hJ0
end Go.Proofs.YtjglgcgkmfbdpaaDoor
