/-
  DERIVED. GIVEN WITH THE SEED: THE CARDS: each row of YtlgdndnaiogooaaGreatDoorRows.lean that lists a variable, with what it lists TIED to the program's text (the seventh form; the later family's looks); each row that meets fmt, with fmt's text TOLD by the authors' own Lean function (tested against real Go, not proved from fmt's source: count such statements apart). THE CARD IS WHAT COUNTS. Prove the row's statement (the work); the ties are given (YtlgdndnaiogooaaGreatDoorTie.lean); close each card by the builder's one call (the guide's Derived/Test/ToyasCard.lean, 'card_holds'). Laid BY PROGRAM, IN A SANDBOX (cutbox-door.mjs). By AI agents, Wed Nov 11 2026. No macro, syntax, notation, axiom, sorry.
-/
import Derived.Test.YtlgdndnaiogooaaGreatDoorRows
import GoSem.ClaimSeven
namespace Go.Proofs.YtlgdndnaiogooaaGreatDoor
namespace Rows

/-- THE TIED CARD OF 'laws.FnExecuteLevels'. -/
def fnExecuteLevelsCard : Claim7 := { stood := { row := fnExecuteLevelsRow, standIns := [], harness := (true, "2d96ca9417319a75730b4dcb347f8b98c81357059cd5b5d16db57473ae2201a7"), looks := true }, kinds := [], alts := [], laidByText := true, laidKinds := [.data, .data, .data, .data, .sentinel, .sentinel, .sentinel, .sentinel, .pinned], laidTests := true, laidLooks := .later }
def FnExecuteLevelsCardSaid : Prop := Claim7.holds Tryz.pinned (.plain (OpenSpec.ofChange fnExecuteLevelsSpec)) fnExecuteLevelsCard

/-- THE TIED CARD OF 'laws.FnExecuteGround'. -/
def fnExecuteGroundCard : Claim7 := { stood := { row := fnExecuteGroundRow, standIns := [], harness := (true, "2d96ca9417319a75730b4dcb347f8b98c81357059cd5b5d16db57473ae2201a7"), looks := true }, kinds := [], alts := [], laidByText := true, laidKinds := [.data, .data, .data, .data, .sentinel, .sentinel, .sentinel, .sentinel, .pinned], laidTests := true, laidLooks := .later }
def FnExecuteGroundCardSaid : Prop := Claim7.holds Tryz.pinned (.plain (OpenSpec.ofChange fnExecuteGroundSpec)) fnExecuteGroundCard

/-- THE TIED CARD OF 'laws.FnExecuteFactor'. -/
def fnExecuteFactorCard : Claim7 := { stood := { row := fnExecuteFactorRow, standIns := [], harness := (true, "2d96ca9417319a75730b4dcb347f8b98c81357059cd5b5d16db57473ae2201a7"), looks := true }, kinds := [], alts := [], laidByText := true, laidKinds := [.data, .data, .data, .data, .sentinel, .sentinel, .sentinel, .sentinel, .pinned], laidTests := true, laidLooks := .later }
def FnExecuteFactorCardSaid : Prop := Claim7.holds Tryz.pinned (.plain (OpenSpec.ofChange fnExecuteFactorSpec)) fnExecuteFactorCard

/-- THE TIED CARD OF 'laws.FnExecuteClebsch'. -/
def fnExecuteClebschCard : Claim7 := { stood := { row := fnExecuteClebschRow, standIns := [], harness := (true, "2d96ca9417319a75730b4dcb347f8b98c81357059cd5b5d16db57473ae2201a7"), looks := true }, kinds := [], alts := [], laidByText := true, laidKinds := [.data, .data, .data, .data, .sentinel, .sentinel, .sentinel, .sentinel, .pinned], laidTests := true, laidLooks := .later }
def FnExecuteClebschCardSaid : Prop := Claim7.holds Tryz.pinned (.plain (OpenSpec.ofChange fnExecuteClebschSpec)) fnExecuteClebschCard

/-- THE TIED CARD OF 'laws.FnExecuteSplit'. -/
def fnExecuteSplitCard : Claim7 := { stood := { row := fnExecuteSplitRow, standIns := [], harness := (true, "2d96ca9417319a75730b4dcb347f8b98c81357059cd5b5d16db57473ae2201a7"), looks := true }, kinds := [], alts := [], laidByText := true, laidKinds := [.data, .data, .data, .data, .sentinel, .sentinel, .sentinel, .sentinel, .pinned], laidTests := true, laidLooks := .later }
def FnExecuteSplitCardSaid : Prop := Claim7.holds Tryz.pinned (.plain (OpenSpec.ofChange fnExecuteSplitSpec)) fnExecuteSplitCard

/-- THE SECOND FORM's CARD OF 'laws.FnExecuteLevels'. -/
def fnExecuteLevelsUptoCard : Claim7 := { stood := { row := fnExecuteLevelsUptoRow, standIns := [], harness := (true, "2d96ca9417319a75730b4dcb347f8b98c81357059cd5b5d16db57473ae2201a7"), looks := true }, kinds := [], alts := [], laidByText := true, laidKinds := [.data, .data, .data, .data, .sentinel, .sentinel, .sentinel, .sentinel, .pinned], laidTests := true, laidLooks := .later }
def FnExecuteLevelsUptoCardSaid : Prop := Claim7.holds Tryz.pinned (.plain (OpenSpec.upto fnExecuteLevelsSpec)) fnExecuteLevelsUptoCard

/-- THE SECOND FORM's CARD OF 'laws.FnExecuteGround'. -/
def fnExecuteGroundUptoCard : Claim7 := { stood := { row := fnExecuteGroundUptoRow, standIns := [], harness := (true, "2d96ca9417319a75730b4dcb347f8b98c81357059cd5b5d16db57473ae2201a7"), looks := true }, kinds := [], alts := [], laidByText := true, laidKinds := [.data, .data, .data, .data, .sentinel, .sentinel, .sentinel, .sentinel, .pinned], laidTests := true, laidLooks := .later }
def FnExecuteGroundUptoCardSaid : Prop := Claim7.holds Tryz.pinned (.plain (OpenSpec.upto fnExecuteGroundSpec)) fnExecuteGroundUptoCard

/-- THE SECOND FORM's CARD OF 'laws.FnExecuteFactor'. -/
def fnExecuteFactorUptoCard : Claim7 := { stood := { row := fnExecuteFactorUptoRow, standIns := [], harness := (true, "2d96ca9417319a75730b4dcb347f8b98c81357059cd5b5d16db57473ae2201a7"), looks := true }, kinds := [], alts := [], laidByText := true, laidKinds := [.data, .data, .data, .data, .sentinel, .sentinel, .sentinel, .sentinel, .pinned], laidTests := true, laidLooks := .later }
def FnExecuteFactorUptoCardSaid : Prop := Claim7.holds Tryz.pinned (.plain (OpenSpec.upto fnExecuteFactorSpec)) fnExecuteFactorUptoCard

/-- THE SECOND FORM's CARD OF 'laws.FnExecuteClebsch'. -/
def fnExecuteClebschUptoCard : Claim7 := { stood := { row := fnExecuteClebschUptoRow, standIns := [], harness := (true, "2d96ca9417319a75730b4dcb347f8b98c81357059cd5b5d16db57473ae2201a7"), looks := true }, kinds := [], alts := [], laidByText := true, laidKinds := [.data, .data, .data, .data, .sentinel, .sentinel, .sentinel, .sentinel, .pinned], laidTests := true, laidLooks := .later }
def FnExecuteClebschUptoCardSaid : Prop := Claim7.holds Tryz.pinned (.plain (OpenSpec.upto fnExecuteClebschSpec)) fnExecuteClebschUptoCard

/-- THE SECOND FORM's CARD OF 'laws.FnExecuteSplit'. -/
def fnExecuteSplitUptoCard : Claim7 := { stood := { row := fnExecuteSplitUptoRow, standIns := [], harness := (true, "2d96ca9417319a75730b4dcb347f8b98c81357059cd5b5d16db57473ae2201a7"), looks := true }, kinds := [], alts := [], laidByText := true, laidKinds := [.data, .data, .data, .data, .sentinel, .sentinel, .sentinel, .sentinel, .pinned], laidTests := true, laidLooks := .later }
def FnExecuteSplitUptoCardSaid : Prop := Claim7.holds Tryz.pinned (.plain (OpenSpec.upto fnExecuteSplitSpec)) fnExecuteSplitUptoCard
end Rows
end Go.Proofs.YtlgdndnaiogooaaGreatDoor
