/- A strings.Builder that is written into. -/
import Derived.Test.YtjdfbnlaiiknpaaGreatDoorTx2
import Derived.Shelf.Strings.BuilderK
import Derived.Test.YtjdfbnlaiiknpaaGreatDoorWs
namespace Go.Proofs.YtjdfbnlaiiknpaaGreatDoor
open Go.RowKit

theorem writeString_any (B b : Nat) (l s : List UInt8) (w : World) (h : Lib.IsBuilderF 49 5 B b (Lib.byteCells l) w) (hlen : l.length + s.length ≤ 140737488355328) (hBw : B ≤ w.heap.size) :
    Calls Tryz.prog 24 #[.pointer (some ⟨b, 0, none⟩), .string (bs s)] w fun e w' => e = .returned (.tuple #[.int .i64 (bs s).size, .nilIface]) ∧ Lib.IsBuilderF 49 5 B b (Lib.byteCells (l ++ s)) w' ∧ Below B w w' :=
  (Any.Builder_WriteString_k (ρ := Tryz.laysWs_ren) { Tryz.laysWs with } Tryz.Builder_Extra_Ws B b _ (bs s) w h (by rw [Lib.byteCells_length, bs_size]; exact hlen) hBw).mono fun e w' hw => ⟨hw.1, .inr (by rw [Lib.byteCells_append]; exact hw.2.1), hw.2.2.1⟩
theorem builder_new {w : World} {B : Nat} (hB : B ≤ w.heap.size) : Lib.IsBuilderF 49 5 B w.heap.size (Lib.byteCells []) (w.alloc (.cells #[.pointer none, .slice none 0 0] 49)) :=
  .inl ⟨hB, .slice none 0 0, heap_alloc_new w _, World.ownsRowF_nil _ _ _ _, by simp [Value.ownBlock]⟩
theorem builder_below {B b : Nat} {xs : List Value} {W W' : World} (h : Lib.IsBuilderF 49 5 B b xs W) (hb : Below W.heap.size W W') : Lib.IsBuilderF 49 5 B b xs W' := by
  have go : ∀ p, Lib.BuilderAtF 49 5 B b p xs W → Lib.BuilderAtF 49 5 B b p xs W' := fun p h => by
    have hlt := h.lt
    obtain ⟨hB, v, hv, hown, hne⟩ := h
    exact ⟨hB, v, (hb.block b hlt).trans hv, hown.kept (row := none) ⟨hb.os, hb.tape, hb.output, hb.size, fun k hk _ => hb.block k hk⟩ (Classical.em _), hne⟩
  exact h.elim (fun x => .inl (go _ x)) (fun x => .inr (go _ x))

end Go.Proofs.YtjdfbnlaiiknpaaGreatDoor
