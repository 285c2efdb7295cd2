/- Parts of the proof of : Words2. -/
import Derived.Test.YtammfhheibaeaaaGreatDoorQ00
set_option maxHeartbeats 20000000
set_option maxRecDepth 1000000
set_option linter.unusedSimpArgs false
set_option linter.unusedVariables false
namespace Go.Proofs.YtammfhheibaeaaaGreatDoor
section
open Go.RowKit
theorem cell_past {w:World} {b q:Nat} {v:Value} (o:Obj) (h:w.cell? ⟨b,q,none⟩=some v):(w.alloc o).cell? ⟨b,q,none⟩=some v :=
 (World.cell?_alloc_lt w o _ (World.block_lt_of_cell? _ _ h)).trans h
end
end Go.Proofs.YtammfhheibaeaaaGreatDoor
