/- The stable sort of at most 19 terms. -/
import Derived.Test.YtjglgcgkmfbdpaaTs2
namespace Go.Proofs.Ytjglgcgkmfbdpaa
open Go.RowKit Go.Sort
attribute [local go_sem ↓] Go.wp_at_zero Go.wp_at_succ

set_option maxHeartbeats 1000000 in
theorem stableT_any (g n c : Nat) (ts : List T2) (w : World) (hl : ts.length = n) (hn : n < 20) (hg : g < w.heap.size) (hH : HoldsK encT 2 w g 0 ts.toArray) :
    Calls Try.prog 54 #[.slice (some ⟨g, 0, none⟩) n c, .int .i64 n, .func (.func 44) #[] #[]] w fun e w' =>
      e = .returned (.tuple #[]) ∧ ∃ m os, w' = sortWorldK encT 2 w g 0 m (Sort.insertionSort (ltOf cfT) ts.toArray 0 n) os := by
  have HI := Lib.hid (insT_any g n c ts w hl (by omega) hg hH)
  clear hH hl
  generalize Sort.insertionSort (ltOf cfT) ts.toArray 0 n = r at *
  have i1 : ¬ ((20 : Int) ≤ (n : Int)) := by omega
  have i2 : ¬ ((20 : Int) < (n : Int)) := by omega
  go_enter Try.func54, Try.ntmps54
  go_wp2_with fail
  refine wp_loop_rounds 1 ?_
  rw [rounds_succ]
  go_wp2_with fail
  refine HI.out.mono ?_
  rintro e w1 ⟨rfl, m, os, hw⟩
  have HW := Lib.hid hw; clear hw
  go_wp2_with fail
  refine wp_loop_rounds 1 ?_
  rw [rounds_succ]
  go_wp2_with fail
  go_end0
  exact ⟨rfl, m, os, HW.out⟩
end Go.Proofs.Ytjglgcgkmfbdpaa
