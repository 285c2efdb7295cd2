/- The table of trailing zeros, out of the nine laid variables. -/
import Derived.Test.YtjdfbnlaiiknpaaGreatDoorMi
import Derived.Test.YtjdfbnlaiiknpaaGreatDoorDoorKit9
import Derived.Lib.LaidTab
namespace Go.Proofs.YtjdfbnlaiiknpaaGreatDoor
open Go.ChangeShapes Go.WideShapes Go.ChangeAt Go.RowKit

def tab64 : List Int := Lib.deBruijn64tab.map fun (k : Nat) => (k : Int)
theorem gDb : Tryz.prog.globalNamed "math/bits.deBruijn64tab" = some 3 := by kernel_rfl
theorem tDb : (Tryz.prog.globals[3]?).map (·.type) = some 216 := by kernel_rfl
theorem dDb : (Rows.laid_math_bits_deBruijn64tab : DataW Unit) = Lib.tabData .u8 tab64 := by kernel_rfl
theorem dbt_of_laid9 {W : World} (h : laidMetH Tryz.prog laid9 W) : Mi.Dbt W := by
  rw [MakeChecks.laidMetH_plain _ _ _ (by kernel_rfl)] at h
  obtain ⟨ps, ⟨g0, t0, cs0, f0, p0, q0, hg0, ht0, hv0, hd0, ⟨g1, t1, cs1, f1, p1, q1, hg1, ht1, hv1, hd1, _, _⟩, _⟩, _, _⟩ := h
  obtain rfl := Option.some.inj (gDb.symm.trans hg1)
  obtain rfl := Option.some.inj (tDb.symm.trans ht1)
  rw [dDb] at hd1
  have e := Lib.cells_of_tab Tryz.underlying216 Tryz.underlying5 (by kernel_rfl) (by kernel_rfl) hd1
  have hT : Lib.TabIs Tryz.prog W "math/bits.deBruijn64tab" .u8 tab64 := by
    unfold Lib.TabIs
    rw [hv1, ← e]
  intro k hk
  have hl : tab64.length = 64 := by decide
  have := hT.cell gDb k (by rw [hl]; exact hk)
  rw [this]
  have hk2 : k < Lib.deBruijn64tab.length := by
    have : Lib.deBruijn64tab.length = 64 := by decide
    omega
  simp [tab64, List.getD, hk2]
end Go.Proofs.YtjdfbnlaiiknpaaGreatDoor
