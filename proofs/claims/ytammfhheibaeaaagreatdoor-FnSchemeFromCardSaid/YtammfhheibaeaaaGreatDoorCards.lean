/-
  DERIVED. GIVEN WITH THE SEED: THE CARDS: each row of YtammfhheibaeaaaGreatDoorRows.lean that lists a variable, with what it lists TIED to the program's text (the seventh form; the later family's looks); each row that meets fmt, with fmt's text TOLD by the authors' own Lean function (tested against real Go, not proved from fmt's source: count such statements apart). THE CARD IS WHAT COUNTS. Prove the row's statement (the work); the ties are given (YtammfhheibaeaaaGreatDoorTie.lean); close each card by the builder's one call (the guide's Derived/Test/ToyasCard.lean, 'card_holds'). Laid BY PROGRAM, IN A SANDBOX (cutbox-door.mjs). By AI agents, Wed Nov 11 2026. No macro, syntax, notation, axiom, sorry.
-/
import Derived.Test.YtammfhheibaeaaaGreatDoorRows
import GoSem.ClaimSeven
namespace Go.Proofs.YtammfhheibaeaaaGreatDoor
namespace Rows

/-- THE TIED CARD OF 'laws.FnExactSchemeFrom'. -/
def fnExactSchemeFromCard : Claim7 := { stood := { row := fnExactSchemeFromRow, standIns := [], harness := (true, "d0b7833cf30f9bc0fc49f96e02833409389f080ff5bbd8d8c9681c4d8480ee15"), looks := true }, kinds := [], alts := [], laidByText := true, laidKinds := [.data, .data, .data, .data, .handle, .sentinel, .sentinel, .pinned], laidTests := true, laidLooks := .later }
def FnExactSchemeFromCardSaid : Prop := Claim7.holds Tryz.pinned (.plain (OpenSpec.ofChange fnExactSchemeFromSpec)) fnExactSchemeFromCard

/-- THE TIED CARD OF 'laws.FnSchemeFrom'. -/
def fnSchemeFromCard : Claim7 := { stood := { row := fnSchemeFromRow, standIns := [], harness := (true, "d0b7833cf30f9bc0fc49f96e02833409389f080ff5bbd8d8c9681c4d8480ee15"), looks := true }, kinds := [], alts := [], laidByText := true, laidKinds := [.data, .data, .data, .data, .handle, .sentinel, .sentinel, .pinned], laidTests := true, laidLooks := .later }
def FnSchemeFromCardSaid : Prop := Claim7.holds Tryz.pinned (.plain (OpenSpec.ofChange fnSchemeFromSpec)) fnSchemeFromCard

/-- THE SECOND FORM's CARD OF 'laws.FnExactSchemeFrom'. -/
def fnExactSchemeFromUptoCard : Claim7 := { stood := { row := fnExactSchemeFromUptoRow, standIns := [], harness := (true, "d0b7833cf30f9bc0fc49f96e02833409389f080ff5bbd8d8c9681c4d8480ee15"), looks := true }, kinds := [], alts := [], laidByText := true, laidKinds := [.data, .data, .data, .data, .handle, .sentinel, .sentinel, .pinned], laidTests := true, laidLooks := .later }
def FnExactSchemeFromUptoCardSaid : Prop := Claim7.holds Tryz.pinned (.plain (OpenSpec.upto fnExactSchemeFromSpec)) fnExactSchemeFromUptoCard

/-- THE SECOND FORM's CARD OF 'laws.FnSchemeFrom'. -/
def fnSchemeFromUptoCard : Claim7 := { stood := { row := fnSchemeFromUptoRow, standIns := [], harness := (true, "d0b7833cf30f9bc0fc49f96e02833409389f080ff5bbd8d8c9681c4d8480ee15"), looks := true }, kinds := [], alts := [], laidByText := true, laidKinds := [.data, .data, .data, .data, .handle, .sentinel, .sentinel, .pinned], laidTests := true, laidLooks := .later }
def FnSchemeFromUptoCardSaid : Prop := Claim7.holds Tryz.pinned (.plain (OpenSpec.upto fnSchemeFromSpec)) fnSchemeFromUptoCard
end Rows
end Go.Proofs.YtammfhheibaeaaaGreatDoor
