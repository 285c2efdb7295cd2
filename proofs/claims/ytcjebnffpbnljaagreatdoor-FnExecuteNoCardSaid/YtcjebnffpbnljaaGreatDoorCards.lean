/-
  DERIVED. GIVEN WITH THE SEED: THE CARDS: each row of YtcjebnffpbnljaaGreatDoorRows.lean that lists a variable, with what it lists TIED to the program's text (the seventh form; the later family's looks); each row that meets fmt, with fmt's text TOLD by the authors' own Lean function (tested against real Go, not proved from fmt's source: count such statements apart). THE CARD IS WHAT COUNTS. Prove the row's statement (the work); the ties are given (YtcjebnffpbnljaaGreatDoorTie.lean); close each card by the builder's one call (the guide's Derived/Test/ToyasCard.lean, 'card_holds'). Laid BY PROGRAM, IN A SANDBOX (cutbox-door.mjs). By AI agents, Wed Nov 11 2026. No macro, syntax, notation, axiom, sorry.
-/
import Derived.Test.YtcjebnffpbnljaaGreatDoorRows
import GoSem.ClaimSeven
namespace Go.Proofs.YtcjebnffpbnljaaGreatDoor
namespace Rows

/-- THE TIED CARD OF 'laws.FnExecuteNone'. -/
def fnExecuteNoneCard : Claim7 := { stood := { row := fnExecuteNoneRow, standIns := [], harness := (true, "8b8fb7ca614a08c3c784cc13cf4fc06732ccd81ad780a5261e7a992b24e762f3"), looks := true }, kinds := [], alts := [], laidByText := true, laidKinds := [.data, .data, .data, .data, .sentinel, .sentinel, .sentinel, .sentinel, .pinned], laidTests := true, laidLooks := .later }
def FnExecuteNoneCardSaid : Prop := Claim7.holds Tryz.pinned (.plain (OpenSpec.ofChange fnExecuteNoneSpec)) fnExecuteNoneCard

/-- THE TIED CARD OF 'laws.FnExecuteRest'. -/
def fnExecuteRestCard : Claim7 := { stood := { row := fnExecuteRestRow, standIns := [], harness := (true, "8b8fb7ca614a08c3c784cc13cf4fc06732ccd81ad780a5261e7a992b24e762f3"), looks := true }, kinds := [], alts := [], laidByText := true, laidKinds := [.data, .data, .data, .data, .sentinel, .sentinel, .sentinel, .sentinel, .pinned], laidTests := true, laidLooks := .later }
def FnExecuteRestCardSaid : Prop := Claim7.holds Tryz.pinned (.plain (OpenSpec.ofChange fnExecuteRestSpec)) fnExecuteRestCard

/-- THE TIED CARD OF 'laws.FnExecuteJoin'. -/
def fnExecuteJoinCard : Claim7 := { stood := { row := fnExecuteJoinRow, standIns := [], harness := (true, "8b8fb7ca614a08c3c784cc13cf4fc06732ccd81ad780a5261e7a992b24e762f3"), looks := true }, kinds := [], alts := [], laidByText := true, laidKinds := [.data, .data, .data, .data, .sentinel, .sentinel, .sentinel, .sentinel, .pinned], laidTests := true, laidLooks := .later }
def FnExecuteJoinCardSaid : Prop := Claim7.holds Tryz.pinned (.plain (OpenSpec.ofChange fnExecuteJoinSpec)) fnExecuteJoinCard

/-- THE TIED CARD OF 'laws.FnExecuteWhat'. -/
def fnExecuteWhatCard : Claim7 := { stood := { row := fnExecuteWhatRow, standIns := [], harness := (true, "8b8fb7ca614a08c3c784cc13cf4fc06732ccd81ad780a5261e7a992b24e762f3"), looks := true }, kinds := [], alts := [], laidByText := true, laidKinds := [.data, .data, .data, .data, .sentinel, .sentinel, .sentinel, .sentinel, .pinned], laidTests := true, laidLooks := .later }
def FnExecuteWhatCardSaid : Prop := Claim7.holds Tryz.pinned (.plain (OpenSpec.ofChange fnExecuteWhatSpec)) fnExecuteWhatCard

/-- THE TIED CARD OF 'laws.FnExecuteNo'. -/
def fnExecuteNoCard : Claim7 := { stood := { row := fnExecuteNoRow, standIns := [], harness := (true, "8b8fb7ca614a08c3c784cc13cf4fc06732ccd81ad780a5261e7a992b24e762f3"), looks := true }, kinds := [], alts := [], laidByText := true, laidKinds := [.data, .data, .data, .data, .sentinel, .sentinel, .sentinel, .sentinel, .pinned], laidTests := true, laidLooks := .later }
def FnExecuteNoCardSaid : Prop := Claim7.holds Tryz.pinned (.plain (OpenSpec.ofChange fnExecuteNoSpec)) fnExecuteNoCard

/-- THE SECOND FORM's CARD OF 'laws.FnExecuteNone'. -/
def fnExecuteNoneUptoCard : Claim7 := { stood := { row := fnExecuteNoneUptoRow, standIns := [], harness := (true, "8b8fb7ca614a08c3c784cc13cf4fc06732ccd81ad780a5261e7a992b24e762f3"), looks := true }, kinds := [], alts := [], laidByText := true, laidKinds := [.data, .data, .data, .data, .sentinel, .sentinel, .sentinel, .sentinel, .pinned], laidTests := true, laidLooks := .later }
def FnExecuteNoneUptoCardSaid : Prop := Claim7.holds Tryz.pinned (.plain (OpenSpec.upto fnExecuteNoneSpec)) fnExecuteNoneUptoCard

/-- THE SECOND FORM's CARD OF 'laws.FnExecuteRest'. -/
def fnExecuteRestUptoCard : Claim7 := { stood := { row := fnExecuteRestUptoRow, standIns := [], harness := (true, "8b8fb7ca614a08c3c784cc13cf4fc06732ccd81ad780a5261e7a992b24e762f3"), looks := true }, kinds := [], alts := [], laidByText := true, laidKinds := [.data, .data, .data, .data, .sentinel, .sentinel, .sentinel, .sentinel, .pinned], laidTests := true, laidLooks := .later }
def FnExecuteRestUptoCardSaid : Prop := Claim7.holds Tryz.pinned (.plain (OpenSpec.upto fnExecuteRestSpec)) fnExecuteRestUptoCard

/-- THE SECOND FORM's CARD OF 'laws.FnExecuteJoin'. -/
def fnExecuteJoinUptoCard : Claim7 := { stood := { row := fnExecuteJoinUptoRow, standIns := [], harness := (true, "8b8fb7ca614a08c3c784cc13cf4fc06732ccd81ad780a5261e7a992b24e762f3"), looks := true }, kinds := [], alts := [], laidByText := true, laidKinds := [.data, .data, .data, .data, .sentinel, .sentinel, .sentinel, .sentinel, .pinned], laidTests := true, laidLooks := .later }
def FnExecuteJoinUptoCardSaid : Prop := Claim7.holds Tryz.pinned (.plain (OpenSpec.upto fnExecuteJoinSpec)) fnExecuteJoinUptoCard

/-- THE SECOND FORM's CARD OF 'laws.FnExecuteWhat'. -/
def fnExecuteWhatUptoCard : Claim7 := { stood := { row := fnExecuteWhatUptoRow, standIns := [], harness := (true, "8b8fb7ca614a08c3c784cc13cf4fc06732ccd81ad780a5261e7a992b24e762f3"), looks := true }, kinds := [], alts := [], laidByText := true, laidKinds := [.data, .data, .data, .data, .sentinel, .sentinel, .sentinel, .sentinel, .pinned], laidTests := true, laidLooks := .later }
def FnExecuteWhatUptoCardSaid : Prop := Claim7.holds Tryz.pinned (.plain (OpenSpec.upto fnExecuteWhatSpec)) fnExecuteWhatUptoCard

/-- THE SECOND FORM's CARD OF 'laws.FnExecuteNo'. -/
def fnExecuteNoUptoCard : Claim7 := { stood := { row := fnExecuteNoUptoRow, standIns := [], harness := (true, "8b8fb7ca614a08c3c784cc13cf4fc06732ccd81ad780a5261e7a992b24e762f3"), looks := true }, kinds := [], alts := [], laidByText := true, laidKinds := [.data, .data, .data, .data, .sentinel, .sentinel, .sentinel, .sentinel, .pinned], laidTests := true, laidLooks := .later }
def FnExecuteNoUptoCardSaid : Prop := Claim7.holds Tryz.pinned (.plain (OpenSpec.upto fnExecuteNoSpec)) fnExecuteNoUptoCard
end Rows
end Go.Proofs.YtcjebnffpbnljaaGreatDoor
