/- A node copied. -/
import Derived.Test.YtnljibgjfobkbaaNv
import Derived.Test.YtnljibgjfobkbaaWords2
import Derived.Deep.DrawnRows
namespace Go.Proofs.Ytnljibgjfobkbaa
open Go.RowKit
attribute [local go_sem ↓] Go.wp_at_zero Go.wp_at_succ

theorem toNode_any (a b : Int) (o : Bool) (w : World) :
    Calls Try.prog 14 #[.agg #[.int .i64 a, .int .i64 b, .bool o]] w fun e w' => e = .returned (.agg #[.int .i64 a, .int .i64 b, .bool o]) ∧ Below w.heap.size w w' := by
  go_enter Try.func14, Try.ntmps14
  go_wp2_with fail
  refine bodyPost_ret (v := .agg #[.int .i64 a, .int .i64 b, .bool o]) (by simp [results, Try.results14, go_sem]) rfl ⟨rfl, ?_⟩
  repeat (first | exact Below.refl _ _ | refine Below.alloc ?_ (by simp; try omega) _ | refine Below.setCell ?_ (by simp; try omega) _)
end Go.Proofs.Ytnljibgjfobkbaa
