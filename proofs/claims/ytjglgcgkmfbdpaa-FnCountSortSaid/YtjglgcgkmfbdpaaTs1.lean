/- The sort of terms. -/
import Derived.Test.YtjglgcgkmfbdpaaT1
import Derived.Test.YtjglgcgkmfbdpaaSmall
import Derived.Test.YtjglgcgkmfbdpaaWords2
import Derived.Test.YtjglgcgkmfbdpaaShelf
import Derived.StillTailTactics
import Derived.Deep.DrawnRows
import Derived.Lib.OwnBridge
namespace Go.Proofs.Ytjglgcgkmfbdpaa
open Go.RowKit Go.Sort
attribute [local go_sem ↓] Go.wp_at_zero Go.wp_at_succ

theorem isNaN_any (x : Int) (w : World) : Calls Try.prog 55 #[.int .i64 x] w fun e w' => e = .returned (.bool false) ∧ w' = w := by
  go_enter Try.func55, Try.ntmps55
  go_wp2_with fail
  go_ret
  exact ⟨by simp, rfl⟩
theorem compare_any (x y : Int) (w : World) : Calls Try.prog 52 #[.int .i64 x, .int .i64 y] w fun e w' => e = .returned (.int .i64 (Lib.compareInt x y)) ∧ w' = w := by
  go_enter Try.func52, Try.ntmps52
  go_wp2_with (go_at_call 55; refine (isNaN_any _ _).mono ?_; rintro e w' ⟨rfl, rfl⟩)
  all_goals (go_ret; refine ⟨?_, rfl⟩; unfold Lib.compareInt; (repeat' split) <;> first | rfl | (exfalso; omega))
def or2 (a b : Int) : Int := if a ≠ 0 then a else b
set_option maxHeartbeats 1000000 in
theorem or_any (L : Nat) (a b : Int) (w : World) (hL : Blk w L 3 #[.int .i64 a, .int .i64 b]) :
    Calls Try.prog 51 #[.slice (some ⟨L, 0, none⟩) 2 2] w fun e w' => e = .returned (.int .i64 (or2 a b)) ∧ w' = w := by
  obtain ⟨y1, y2, _, _⟩ := blk2 hL
  clear hL
  go_enter Try.func51, Try.ntmps51
  go_wp2_with fail
  go_loopw [8] (fun i wr => ∃ k : Nat, k ≤ 2 ∧ i = .int .i64 k ∧ wr = w ∧ (0 < k → a = 0) ∧ (1 < k → b = 0)) (fun i _ => 2 - (intOf i).toNat)
  case atStart => exact ⟨0, by omega, rfl, rfl, fun h => absurd h (by omega), fun h => absurd h (by omega)⟩
  case round =>
    obtain ⟨k, hk, rfl, rfl, ha, hb⟩ := hrel
    have hk4 : k = 0 ∨ k = 1 ∨ k = 2 := by omega
    rcases hk4 with rfl | rfl | rfl
    · clear ha hb
      by_cases h : a = 0
      · subst h
        go_wp2_with fail
        go_roundw
        case rel => exact ⟨1, by omega, rfl, by simp, by simp, fun h => absurd h (by omega)⟩
        case measure => simp [intOf]
      · have e1 : (a != 0) = true := by simpa using h
        have he : or2 a b = a := by unfold or2; rw [if_pos h]
        have HE := Lib.hid he; clear he h
        go_wp2_with fail
        go_ret
        exact ⟨ret_int HE.out.symm, rfl⟩
    · have ha0 := ha (by omega)
      subst ha0
      clear ha hb
      have he : or2 0 b = b := by simp [or2]
      by_cases h : b = 0
      · subst h
        go_wp2_with fail
        go_roundw
        case rel => exact ⟨2, by omega, rfl, by simp, by simp, by simp⟩
        case measure => simp [intOf]
      · have e1 : (b != 0) = true := by simpa using h
        have HE := Lib.hid he; clear he h
        go_wp2_with fail
        go_ret
        exact ⟨ret_int HE.out.symm, rfl⟩
    · have ha0 := ha (by omega)
      have hb0 := hb (by omega)
      subst ha0 hb0
      clear ha hb
      go_wp2_with fail
      go_ret
      exact ⟨by simp [or2], rfl⟩

def encT (x : T2) : List Value := [.int .i64 x.1, .int .i64 x.2]
def cfT (x y : T2) : Int := or2 (Lib.compareInt y.1 x.1) (Lib.compareInt y.2 x.2)
set_option maxHeartbeats 2000000 in
theorem compareTerms_any (x y : T2) (W : World) : Calls Try.prog 44 #[.agg #[.int .i64 x.1, .int .i64 x.2], .agg #[.int .i64 y.1, .int .i64 y.2]] W fun e w' => e = .returned (.int .i64 (cfT x y)) ∧ ∃ q os', w' = grow (W.drewN q) os' := by
  obtain ⟨x1, x2⟩ := x
  obtain ⟨y1, y2⟩ := y
  unfold cfT
  have HC1 := Lib.hid (fun W => compare_any y1 x1 W)
  have HC2 := Lib.hid (fun W => compare_any y2 x2 W)
  generalize Lib.compareInt y1 x1 = c1 at *
  generalize Lib.compareInt y2 x2 = c2 at *
  obtain ⟨W2, hW2⟩ : ∃ W2, (W.alloc (.cells #[.int .i64 x1, .int .i64 x2] 38)).alloc (.cells #[.int .i64 y1, .int .i64 y2] 38) = W2 := ⟨_, rfl⟩
  have HE : Hid (∀ o, ∃ q os', W2.drew.alloc o = grow (W.drewN q) os') := fun o => by
    refine ⟨1, (#[.cells #[.int .i64 x1, .int .i64 x2] 38] ++ #[.cells #[.int .i64 y1, .int .i64 y2] 38]) ++ #[o], ?_⟩
    rw [← hW2, alloc_eq_grow, alloc_eq_grow W, alloc_eq_grow (grow _ _), grow_grow]
    show grow (grow (W.drewN 1) _) _ = _
    rw [grow_grow]
  have HX := Lib.hid ((Blk.new W 38 #[.int .i64 x1, .int .i64 x2]).alloc (.cells #[.int .i64 y1, .int .i64 y2] 38))
  have HY := Lib.hid (Blk.new (W.alloc (.cells #[.int .i64 x1, .int .i64 x2] 38)) 38 #[.int .i64 y1, .int .i64 y2])
  go_enter Try.func44, Try.ntmps44
  go_wp2_with fail
  rw [hW2] at HX HY
  obtain ⟨p1, p2, _, _⟩ := blk2 HX.out
  obtain ⟨q1, q2, _, _⟩ := blk2 HY.out
  clear hW2 HX HY
  simp only [World.size_alloc] at q1 q2
  go_still_tail 10, (by kernel_rfl)
  still_call (HC1.out _)
  repeat still_step
  still_call (HC2.out _)
  refine wpStill_nil ?_
  change wpList _ _ _ _ _ W2.drew
  clear p1 p2 q1 q2 HC1 HC2
  generalize W2.drew = W3 at *
  go_wp2_with fail
  refine (or_any W3.heap.size c1 c2 _ (Blk.new _ _ _)).mono ?_
  rintro e w4 ⟨rfl, rfl⟩
  go_wp2_with fail
  go_ret
  exact ⟨rfl, HE.out _⟩
theorem cmpLaysT (blk off size : Nat) (w : World) : CmpLays Try.prog 44 #[] encT 2 cfT blk off size w :=
  fun _ _ _ _ x y => compareTerms_any x y _
end Go.Proofs.Ytjglgcgkmfbdpaa
