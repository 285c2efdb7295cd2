/- What the closing text of this seat's tied card shares: the door's own heap meets the condition; what the condition gives the walk. -/
import Derived.Test.YtjglgcgkmfbdpaaDoorMi1
import Derived.Test.YtjglgcgkmfbdpaaDoorLawKit
import Derived.Lib.LaidTab
import Derived.LaidMore
import Derived.LaidHandle
import Derived.Stop.Joined
import Derived.MakeChecks
namespace Go.Proofs.YtjglgcgkmfbdpaaDoor
open Go.ChangeShapes Go.WideShapes Go.ChangeAt Go.RowKit

def laid2 : List (String × DataW Unit) := [("math/bits.deBruijn32tab", Rows.laid_math_bits_deBruijn32tab), ("math/bits.deBruijn64tab", Rows.laid_math_bits_deBruijn64tab)]
def tab64 : List Int := Lib.deBruijn64tab.map fun (k : Nat) => (k : Int)
theorem gDb : Tryd.prog.globalNamed "math/bits.deBruijn64tab" = some 1 := by kernel_rfl
theorem tDb : (Tryd.prog.globals[1]?).map (·.type) = some 73 := by kernel_rfl
theorem dDb : (Rows.laid_math_bits_deBruijn64tab : DataW Unit) = Lib.tabData .u8 tab64 := by kernel_rfl
/-- The door's own heap meets the condition. -/
theorem door_met (os : Os) (args : Array Value) : laidMetH Tryd.prog laid2 ((World.doorLaid Tryd.prog 400 os).forCall (fun _ _ => 0) ⟨#[], args, []⟩).memory :=
  laidMetH_of_parts3 (fuel := 8) (laidMet_of_run' 8 (by kernel_rfl) (by kernel_rfl)) (by kernel_rfl) (by kernel_rfl)
theorem dbt_of_laid {W : World} (h : laidMetH Tryd.prog laid2 W) : Dbt W := by
  rw [MakeChecks.laidMetH_plain _ _ _ (by kernel_rfl)] at h
  obtain ⟨ps, ⟨g0, t0, cs0, f0, p0, q0, hg0, ht0, hv0, hd0, ⟨g1, t1, cs1, f1, p1, q1, hg1, ht1, hv1, hd1, _, _⟩, _⟩, _, _⟩ := h
  obtain rfl := Option.some.inj (gDb.symm.trans hg1)
  obtain rfl := Option.some.inj (tDb.symm.trans ht1)
  rw [dDb] at hd1
  have e := Lib.cells_of_tab Tryd.underlying73 Tryd.underlying5 (by kernel_rfl) (by kernel_rfl) hd1
  have hT : Lib.TabIs Tryd.prog W "math/bits.deBruijn64tab" .u8 tab64 := by
    unfold Lib.TabIs
    rw [hv1, ← e]
  intro k hk
  have hl : tab64.length = 64 := by decide
  have := hT.cell gDb k (by rw [hl]; exact hk)
  rw [this]
  have hk2 : k < Lib.deBruijn64tab.length := by
    have : Lib.deBruijn64tab.length = 64 := by decide
    omega
  simp [tab64, List.getD, hk2]
end Go.Proofs.YtjglgcgkmfbdpaaDoor
