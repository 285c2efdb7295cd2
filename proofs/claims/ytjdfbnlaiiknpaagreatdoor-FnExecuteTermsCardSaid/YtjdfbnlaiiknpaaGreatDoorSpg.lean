/- strings.Split at one byte. -/
import Derived.Test.YtjdfbnlaiiknpaaGreatDoorSpl
import Derived.Test.YtjdfbnlaiiknpaaGreatDoorShelf
namespace Go.Proofs.YtjdfbnlaiiknpaaGreatDoor
open Go.RowKit Go.Lib

theorem bs_eq (x y : List UInt8) : ((bs x).toList == (bs y).toList) = decide (x = y) := by
  rw [show (bs x).toList = x from ByteArray.toList_mk x, show (bs y).toList = y from ByteArray.toList_mk y]
  rw [Bool.eq_iff_iff]; simp
/-- A package variable that holds some integer. -/
def Mx (w : World) : Prop := ∃ m, w.cell? ⟨0, 0, none⟩ = some (.int .i64 m)
theorem Mx.on {w w' : World} (h : Mx w) (hb : Below w.heap.size w w') : Mx w' := by
  obtain ⟨m, hm⟩ := h
  exact ⟨m, (hb.cell (World.block_lt_of_cell? _ _ hm)).trans hm⟩
theorem split_any (l : List UInt8) (c : UInt8) (w : World) (hm : Mx w) (hs : l.length < 4294967281) :
    Calls Tryz.prog 23 #[.string (bs l), .string (bs [c])] w fun e w' =>
      e = .returned (.slice (some ⟨w.heap.size, 0, none⟩) (spl c l).length (spl c l).length) ∧ w' = w.alloc (.cells ((spl c l).map fun x => Value.string (bs x)).toArray 9) := by
  obtain ⟨m, hm⟩ := hm
  have h := Tryz.strings_Split (bs l) (bs [c]) m w (by rw [bs_size]; exact hs) hm (by rw [bs_size]; exact Nat.le_refl _)
  rw [splitB_spl, show countB (bs l) (bs [c]) + 1 = (spl c l).length from ?_, List.map_map] at h
  · exact h
  · have : countB (bs l) (bs [c]) = count l [c] := by
      show count _ _ = _
      rw [show (bs l).data.toList = l by simp [bs], show (bs [c]).data.toList = [c] by simp [bs]]
    rw [this]; exact count_spl c l
end Go.Proofs.YtjdfbnlaiiknpaaGreatDoor
