/- The insertion sort of terms. -/
import Derived.Test.YtjglgcgkmfbdpaaTs1
namespace Go.Proofs.Ytjglgcgkmfbdpaa
open Go.RowKit Go.Sort
attribute [local go_sem ↓] Go.wp_at_zero Go.wp_at_succ

theorem insT_any (g n c : Nat) (ts : List T2) (w : World) (hl : ts.length = n) (hn : n ≤ 1000) (hg : g < w.heap.size) (hH : HoldsK encT 2 w g 0 ts.toArray) :
    Calls Try.prog 57 #[.slice (some ⟨g, 0, none⟩) n c, .int .i64 (0 : Nat), .int .i64 n, .func (.func 44) #[] #[]] w fun e w' =>
      e = .returned (.tuple #[]) ∧ ∃ m os, w' = sortWorldK encT 2 w g 0 m (Sort.insertionSort (ltOf cfT) ts.toArray 0 n) os := by
  have eg : ∀ args w, (callFunc 44 args).run Try.prog w = .ok (.enter 44 args) w := enters_of Try.func44 (by kernel_rfl) rfl
  have hsz : ts.toArray.size = n := by simpa using hl
  have hcon := AnyQ.insertionSortCmpFunc Try.insTerms 2 Try.isAgg38 Try.sizeOf38 encT (fun _ => rfl) (fun x v hv => by simp [encT] at hv; rcases hv with rfl | rfl <;> rfl) cfT 44 #[] g 0 c 0 n ts.toArray w eg (cmpLaysT g 0 _ w) hH hg (Nat.zero_le _) (by omega) (by omega)
  rwa [hsz] at hcon
end Go.Proofs.Ytjglgcgkmfbdpaa
