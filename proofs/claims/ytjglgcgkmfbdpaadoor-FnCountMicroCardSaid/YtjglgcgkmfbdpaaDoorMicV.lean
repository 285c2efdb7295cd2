/- The microstates of a projection are as many as the levels that have it. -/
import Derived.Test.YtjglgcgkmfbdpaaDoorMicP
import Derived.Test.YtjglgcgkmfbdpaaDoorCntP
namespace Go.Proofs.YtjglgcgkmfbdpaaDoor
open Go.RowKit

def stT (ms : List T2) (M sp : Int) : Int := if (M - sp) % 2 = 0 then cnt ms ((M - sp) / 2) sp else 0
def stF (ms : List T2) (M : Int) : Nat → Int
  | 0 => 0
  | k + 1 => stF ms M k + stT ms M ((k : Int) - 5)
def lvF (ts : List T2) (a : Nat) : Nat → Int
  | 0 => 0
  | k + 1 => lvF ts a k + cntJ ts ((a : Int) + (k : Int))
def prM (n q : Nat) : Int := (q : Int) * 2 - 6 + ((n % 2 : Nat) : Int)
theorem stT_bd (ms : List T2) (M sp : Int) : 0 ≤ stT ms M sp ∧ stT ms M sp ≤ ms.length := by
  unfold stT
  split
  · exact cnt_bd _ _ _
  · omega
theorem stF_bd (ms : List T2) (M : Int) (h : ms.length ≤ 252) : ∀ k : Nat, 0 ≤ stF ms M k ∧ stF ms M k ≤ 252 * k := by
  intro k
  induction k with
  | zero => simp [stF]
  | succ k ih => have := stT_bd ms M ((k : Int) - 5); unfold stF; omega
theorem cntJ_bd (ts : List T2) (j : Int) : 0 ≤ cntJ ts j ∧ cntJ ts j ≤ ts.length := by
  unfold cntJ; have := List.countP_le_length (l := ts) (p := fun t => decide (j ∈ lvJs t)); omega
theorem lvF_bd (ts : List T2) (a : Nat) (h : ts.length ≤ 40) : ∀ k : Nat, 0 ≤ lvF ts a k ∧ lvF ts a k ≤ 40 * k := by
  intro k
  induction k with
  | zero => simp [lvF]
  | succ k ih => have := cntJ_bd ts ((a : Int) + (k : Int)); unfold lvF; omega
theorem sl_0_0 : ∀ q : Fin 7, stF (lit 0 0) (prM 0 q.val) 11 = lvF (trms 0 0) (prM 0 q.val).natAbs (25 - (prM 0 q.val).natAbs) := by decide +kernel
theorem sl_0_1 : ∀ q : Fin 7, stF (lit 0 1) (prM 1 q.val) 11 = lvF (trms 0 1) (prM 1 q.val).natAbs (25 - (prM 1 q.val).natAbs) := by decide +kernel
theorem sl_0_2 : ∀ q : Fin 7, stF (lit 0 2) (prM 2 q.val) 11 = lvF (trms 0 2) (prM 2 q.val).natAbs (25 - (prM 2 q.val).natAbs) := by decide +kernel
theorem sl_1_0 : ∀ q : Fin 7, stF (lit 1 0) (prM 0 q.val) 11 = lvF (trms 1 0) (prM 0 q.val).natAbs (25 - (prM 0 q.val).natAbs) := by decide +kernel
theorem sl_1_1 : ∀ q : Fin 7, stF (lit 1 1) (prM 1 q.val) 11 = lvF (trms 1 1) (prM 1 q.val).natAbs (25 - (prM 1 q.val).natAbs) := by decide +kernel
theorem sl_1_2 : ∀ q : Fin 7, stF (lit 1 2) (prM 2 q.val) 11 = lvF (trms 1 2) (prM 2 q.val).natAbs (25 - (prM 2 q.val).natAbs) := by decide +kernel
theorem sl_1_3 : ∀ q : Fin 7, stF (lit 1 3) (prM 3 q.val) 11 = lvF (trms 1 3) (prM 3 q.val).natAbs (25 - (prM 3 q.val).natAbs) := by decide +kernel
theorem sl_1_4 : ∀ q : Fin 7, stF (lit 1 4) (prM 4 q.val) 11 = lvF (trms 1 4) (prM 4 q.val).natAbs (25 - (prM 4 q.val).natAbs) := by decide +kernel
theorem sl_1_5 : ∀ q : Fin 7, stF (lit 1 5) (prM 5 q.val) 11 = lvF (trms 1 5) (prM 5 q.val).natAbs (25 - (prM 5 q.val).natAbs) := by decide +kernel
theorem sl_1_6 : ∀ q : Fin 7, stF (lit 1 6) (prM 6 q.val) 11 = lvF (trms 1 6) (prM 6 q.val).natAbs (25 - (prM 6 q.val).natAbs) := by decide +kernel
theorem sl_2_0 : ∀ q : Fin 7, stF (lit 2 0) (prM 0 q.val) 11 = lvF (trms 2 0) (prM 0 q.val).natAbs (25 - (prM 0 q.val).natAbs) := by decide +kernel
theorem sl_2_1 : ∀ q : Fin 7, stF (lit 2 1) (prM 1 q.val) 11 = lvF (trms 2 1) (prM 1 q.val).natAbs (25 - (prM 1 q.val).natAbs) := by decide +kernel
theorem sl_2_2 : ∀ q : Fin 7, stF (lit 2 2) (prM 2 q.val) 11 = lvF (trms 2 2) (prM 2 q.val).natAbs (25 - (prM 2 q.val).natAbs) := by decide +kernel
theorem sl_2_3 : ∀ q : Fin 7, stF (lit 2 3) (prM 3 q.val) 11 = lvF (trms 2 3) (prM 3 q.val).natAbs (25 - (prM 3 q.val).natAbs) := by decide +kernel
theorem sl_2_4 : ∀ q : Fin 7, stF (lit 2 4) (prM 4 q.val) 11 = lvF (trms 2 4) (prM 4 q.val).natAbs (25 - (prM 4 q.val).natAbs) := by decide +kernel
theorem sl_2_5 : ∀ q : Fin 7, stF (lit 2 5) (prM 5 q.val) 11 = lvF (trms 2 5) (prM 5 q.val).natAbs (25 - (prM 5 q.val).natAbs) := by decide +kernel
theorem sl_2_6 : ∀ q : Fin 7, stF (lit 2 6) (prM 6 q.val) 11 = lvF (trms 2 6) (prM 6 q.val).natAbs (25 - (prM 6 q.val).natAbs) := by decide +kernel
theorem sl_2_7 : ∀ q : Fin 7, stF (lit 2 7) (prM 7 q.val) 11 = lvF (trms 2 7) (prM 7 q.val).natAbs (25 - (prM 7 q.val).natAbs) := by decide +kernel
theorem sl_2_8 : ∀ q : Fin 7, stF (lit 2 8) (prM 8 q.val) 11 = lvF (trms 2 8) (prM 8 q.val).natAbs (25 - (prM 8 q.val).natAbs) := by decide +kernel
theorem sl_2_9 : ∀ q : Fin 7, stF (lit 2 9) (prM 9 q.val) 11 = lvF (trms 2 9) (prM 9 q.val).natAbs (25 - (prM 9 q.val).natAbs) := by decide +kernel
theorem sl_2_10 : ∀ q : Fin 7, stF (lit 2 10) (prM 10 q.val) 11 = lvF (trms 2 10) (prM 10 q.val).natAbs (25 - (prM 10 q.val).natAbs) := by decide +kernel
theorem sl_all {l n : Nat} (hl : l ≤ 2) (hn : n ≤ capL l) (q : Fin 7) : stF (lit l n) (prM n q.val) 11 = lvF (trms l n) (prM n q.val).natAbs (25 - (prM n q.val).natAbs) := by
  unfold capL at hn
  have h : l = 0 ∨ l = 1 ∨ l = 2 := by omega
  rcases h with rfl | rfl | rfl
  · have h : n = 0 ∨ n = 1 ∨ n = 2 := by omega
    rcases h with rfl | rfl | rfl
    · exact sl_0_0 q
    · exact sl_0_1 q
    · exact sl_0_2 q
  · have h : n = 0 ∨ n = 1 ∨ n = 2 ∨ n = 3 ∨ n = 4 ∨ n = 5 ∨ n = 6 := by omega
    rcases h with rfl | rfl | rfl | rfl | rfl | rfl | rfl
    · exact sl_1_0 q
    · exact sl_1_1 q
    · exact sl_1_2 q
    · exact sl_1_3 q
    · exact sl_1_4 q
    · exact sl_1_5 q
    · exact sl_1_6 q
  · have h : n = 0 ∨ n = 1 ∨ n = 2 ∨ n = 3 ∨ n = 4 ∨ n = 5 ∨ n = 6 ∨ n = 7 ∨ n = 8 ∨ n = 9 ∨ n = 10 := by omega
    rcases h with rfl | rfl | rfl | rfl | rfl | rfl | rfl | rfl | rfl | rfl | rfl
    · exact sl_2_0 q
    · exact sl_2_1 q
    · exact sl_2_2 q
    · exact sl_2_3 q
    · exact sl_2_4 q
    · exact sl_2_5 q
    · exact sl_2_6 q
    · exact sl_2_7 q
    · exact sl_2_8 q
    · exact sl_2_9 q
    · exact sl_2_10 q
end Go.Proofs.YtjglgcgkmfbdpaaDoor
