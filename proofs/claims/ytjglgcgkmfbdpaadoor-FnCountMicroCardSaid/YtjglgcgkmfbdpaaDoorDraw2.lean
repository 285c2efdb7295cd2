/- Lists of terms: elements. -/
import Derived.Test.YtjglgcgkmfbdpaaDoorT1
namespace Go.Proofs.YtjglgcgkmfbdpaaDoor
open Go.RowKit

theorem elTerm : ElemOk Tryd.prog 25 41 2 16 := elemOk Tryd.underlying25 (z := .agg #[.int .i64 0, .int .i64 0]) (by kernel_rfl) rfl (by omega)
theorem tcells_snoc (ts : List T2) (t : T2) : tcells (ts ++ [t]) = tcells ts ++ [.int .i64 t.1, .int .i64 t.2] := by simp [tcells]
end Go.Proofs.YtjglgcgkmfbdpaaDoor
