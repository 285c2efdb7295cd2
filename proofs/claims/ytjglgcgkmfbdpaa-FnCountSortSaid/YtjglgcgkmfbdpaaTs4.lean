/- The stable sort of terms: a permutation. -/
import Derived.Test.YtjglgcgkmfbdpaaTs3
namespace Go.Proofs.Ytjglgcgkmfbdpaa
open Go.RowKit Go.Sort
attribute [local go_sem ↓] Go.wp_at_zero Go.wp_at_succ

theorem sortStableT_any (g n c : Nat) (ts : List T2) (w : World) (hl : ts.length = n) (hn : n < 20) (hg : g < w.heap.size) (hH : HoldsK encT 2 w g 0 ts.toArray) :
    Calls Try.prog 50 #[.slice (some ⟨g, 0, none⟩) n c, .func (.func 44) #[] #[]] w fun e w' =>
      e = .returned (.tuple #[]) ∧ ∃ m os, w' = sortWorldK encT 2 w g 0 m (Sort.insertionSort (ltOf cfT) ts.toArray 0 n) os := by
  have HI := Lib.hid (stableT_any g n c ts w hl hn hg hH)
  clear hH hl
  generalize Sort.insertionSort (ltOf cfT) ts.toArray 0 n = r at *
  go_enter Try.func50, Try.ntmps50
  go_wp2_with fail
  refine HI.out.mono ?_
  rintro e w1 ⟨rfl, m, os, hw⟩
  have HW := Lib.hid hw; clear hw
  go_wp2_with fail
  go_end0
  exact ⟨rfl, m, os, HW.out⟩
theorem ltT (x y : T2) : ltOf cfT x y = decide (y.1 < x.1 ∨ (x.1 = y.1 ∧ y.2 < x.2)) := by
  unfold ltOf cfT or2 Lib.compareInt
  rw [decide_eq_decide]
  (repeat' split) <;> omega
theorem swoT : SWO (ltOf cfT) where
  irrefl x := by rw [ltT]; simp
  trans x y z h1 h2 := by rw [ltT] at *; simp only [decide_eq_true_eq] at *; omega
  ntrans x y z h1 h2 := by rw [ltT] at *; simp only [decide_eq_false_iff_not] at *; omega
end Go.Proofs.Ytjglgcgkmfbdpaa
