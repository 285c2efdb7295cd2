/-
  DERIVED. GIVEN WITH THE SEED: THE CARDS: each row of YtjglgcgkmfbdpaaDoorRows.lean that lists a variable, with what it lists TIED to the program's text (the seventh form; the later family's looks); each row that meets fmt, with fmt's text TOLD by the authors' own Lean function (tested against real Go, not proved from fmt's source: count such statements apart). THE CARD IS WHAT COUNTS. Prove the row's statement (the work); the ties are given (YtjglgcgkmfbdpaaDoorTie.lean); close each card by the builder's one call (the guide's Derived/Test/ToyasCard.lean, 'card_holds'). Laid BY PROGRAM, IN A SANDBOX (cutbox-door.mjs). By AI agents, Wed Nov 11 2026. No macro, syntax, notation, axiom, sorry.
-/
import Derived.Test.YtjglgcgkmfbdpaaDoorRows
import GoSem.ClaimSeven
namespace Go.Proofs.YtjglgcgkmfbdpaaDoor
namespace Rows

/-- THE TIED CARD OF 'laws.FnCountMicro'. -/
def fnCountMicroCard : Claim7 := { stood := { row := fnCountMicroRow, standIns := [], harness := (true, "313cd695c3fe153b6b79bbd2fd809707e2d67d4a091ba5a48641a4ec382fef13"), looks := false }, kinds := [], alts := [], laidByText := true, laidKinds := [.data, .data], laidTests := true, laidLooks := .later }
def FnCountMicroCardSaid : Prop := Claim7.holds Tryd.pinned (.plain (OpenSpec.ofChange fnCountMicroSpec)) fnCountMicroCard

/-- THE SECOND FORM's CARD OF 'laws.FnCountMicro'. -/
def fnCountMicroUptoCard : Claim7 := { stood := { row := fnCountMicroUptoRow, standIns := [], harness := (true, "313cd695c3fe153b6b79bbd2fd809707e2d67d4a091ba5a48641a4ec382fef13"), looks := false }, kinds := [], alts := [], laidByText := true, laidKinds := [.data, .data], laidTests := true, laidLooks := .later }
def FnCountMicroUptoCardSaid : Prop := Claim7.holds Tryd.pinned (.plain (OpenSpec.upto fnCountMicroSpec)) fnCountMicroUptoCard
end Rows
end Go.Proofs.YtjglgcgkmfbdpaaDoor
