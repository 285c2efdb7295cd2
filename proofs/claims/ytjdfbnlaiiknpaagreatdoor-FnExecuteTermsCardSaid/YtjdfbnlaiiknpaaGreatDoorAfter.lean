/- Regions that draw their order, whose operations only read, and whose callees may make memory of their own. -/
import Derived.Test.YtjdfbnlaiiknpaaGreatDoorWords
import Derived.BigQuiet
namespace Go.Proofs.YtjdfbnlaiiknpaaGreatDoor
open Go.RowKit

/-- A world that has only grown since w. -/
structure After (w : World) where
  w' : World
  below : Below w.heap.size w w'

instance (w : World) : Inhabited (After w) := ⟨⟨w, Below.refl _ w⟩⟩
theorem After.cell {w : World} {a : Addr} {v : Value} (h : w.cell? a = some v) (p : After w) : p.w'.cell? a = some v :=
  (p.below.cell (World.block_lt_of_cell? _ _ h)).trans h
theorem After.frozen {w : World} {a : Addr} {b : Bool} (hb : a.block < w.heap.size) (h : w.frozen? a = b) (p : After w) : p.w'.frozen? a = b := by
  rw [← h]
  unfold World.frozen?
  rw [p.below.block _ hb]

theorem wp_region_after {P : Program} {id : Nat} {Q : Exit → Act → World → Prop} {a : Act} {w : World} {l : List Oper} (hm : P.follows .mixedOrders = true) (hB : Region.lexB .any l.toArray = true)
    (h : wpQuiet P l.toArray (fun w' => ∃ p : After w, w' = p.w') (fun a' => ∀ w', (∃ p : After w, w' = p.w') → Q .normal a' w') l a) : (Code.region id l.toArray true).wp P Q a w :=
  wp_region_quiet (C := fun w' => ∃ p : After w, w' = p.w') hm hB ⟨⟨w.drew, (Below.refl _ w).drew⟩, rfl⟩ (by simpa using h)

theorem after_call {P : Program} {f : FuncId} {args : Array Value} {w : World} {v : Value} (p : After w)
    (h : Calls P f args p.w' fun e w' => e = .returned v ∧ Below p.w'.heap.size p.w' w') : Calls P f args p.w' fun e w'' => e = .returned v ∧ ∃ q : After w, w'' = q.w' :=
  h.mono fun _ _ ⟨he, hb⟩ => ⟨he, ⟨_, p.below.trans (hb.mono p.below.size)⟩, rfl⟩
theorem after_same {P : Program} {f : FuncId} {args : Array Value} {w : World} {v : Value} (p : After w)
    (h : Calls P f args p.w' fun e w' => e = .returned v ∧ p.w' = w') : Calls P f args p.w' fun e w'' => e = .returned v ∧ ∃ q : After w, w'' = q.w' :=
  h.mono fun _ _ ⟨he, hb⟩ => ⟨he, p, hb.symm⟩
end Go.Proofs.YtjdfbnlaiiknpaaGreatDoor
