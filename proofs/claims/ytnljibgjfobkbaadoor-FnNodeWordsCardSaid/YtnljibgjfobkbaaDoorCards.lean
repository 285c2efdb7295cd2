/-
  DERIVED. GIVEN WITH THE SEED: THE CARDS: each row of YtnljibgjfobkbaaDoorRows.lean that lists a variable, with what it lists TIED to the program's text (the seventh form; the later family's looks); each row that meets fmt, with fmt's text TOLD by the authors' own Lean function (tested against real Go, not proved from fmt's source: count such statements apart). THE CARD IS WHAT COUNTS. Prove the row's statement (the work); the ties are given (YtnljibgjfobkbaaDoorTie.lean); close each card by the builder's one call (the guide's Derived/Test/ToyasCard.lean, 'card_holds'). Laid BY PROGRAM, IN A SANDBOX (cutbox-door.mjs). By AI agents, Wed Nov 11 2026. No macro, syntax, notation, axiom, sorry.
-/
import Derived.Test.YtnljibgjfobkbaaDoorRows
import GoSem.ClaimSeven
namespace Go.Proofs.YtnljibgjfobkbaaDoor
namespace Rows

/-- THE TIED CARD OF 'laws.FnExactNodeText'. -/
def fnExactNodeTextCard : Claim7 := { stood := { row := fnExactNodeTextRow, standIns := [], harness := (true, "aa1a793f1d4d410cd76f8ee8c3483bf741dd9b93c87b6182568684ff7000bd8f"), looks := true }, kinds := [], alts := [], laidByText := true, laidKinds := [.data, .data, .data], laidTests := true, laidLooks := .later }
def FnExactNodeTextCardSaid : Prop := Claim7.holds Tryd.pinned (.plain (OpenSpec.ofChange fnExactNodeTextSpec)) fnExactNodeTextCard

/-- THE TIED CARD OF 'laws.FnNodeText'. -/
def fnNodeTextCard : Claim7 := { stood := { row := fnNodeTextRow, standIns := [], harness := (true, "aa1a793f1d4d410cd76f8ee8c3483bf741dd9b93c87b6182568684ff7000bd8f"), looks := true }, kinds := [], alts := [], laidByText := true, laidKinds := [.data, .data, .data], laidTests := true, laidLooks := .later }
def FnNodeTextCardSaid : Prop := Claim7.holds Tryd.pinned (.plain (OpenSpec.ofChange fnNodeTextSpec)) fnNodeTextCard

/-- THE TIED CARD OF 'laws.FnSchemeTextFirst'. -/
def fnSchemeTextFirstCard : Claim7 := { stood := { row := fnSchemeTextFirstRow, standIns := [], harness := (true, "aa1a793f1d4d410cd76f8ee8c3483bf741dd9b93c87b6182568684ff7000bd8f"), looks := true }, kinds := [], alts := [], laidByText := true, laidKinds := [.data, .data, .data], laidTests := true, laidLooks := .later }
def FnSchemeTextFirstCardSaid : Prop := Claim7.holds Tryd.pinned (.plain (OpenSpec.ofChange fnSchemeTextFirstSpec)) fnSchemeTextFirstCard

/-- THE TIED CARD OF 'laws.FnExactTermsText'. -/
def fnExactTermsTextCard : Claim7 := { stood := { row := fnExactTermsTextRow, standIns := [], harness := (true, "aa1a793f1d4d410cd76f8ee8c3483bf741dd9b93c87b6182568684ff7000bd8f"), looks := true }, kinds := [], alts := [], laidByText := true, laidKinds := [.data, .data, .data], laidTests := true, laidLooks := .later }
def FnExactTermsTextCardSaid : Prop := Claim7.holds Tryd.pinned (.plain (OpenSpec.ofChange fnExactTermsTextSpec)) fnExactTermsTextCard

/-- THE TIED CARD OF 'laws.FnTermsText'. -/
def fnTermsTextCard : Claim7 := { stood := { row := fnTermsTextRow, standIns := [], harness := (true, "aa1a793f1d4d410cd76f8ee8c3483bf741dd9b93c87b6182568684ff7000bd8f"), looks := true }, kinds := [], alts := [], laidByText := true, laidKinds := [.data, .data, .data], laidTests := true, laidLooks := .later }
def FnTermsTextCardSaid : Prop := Claim7.holds Tryd.pinned (.plain (OpenSpec.ofChange fnTermsTextSpec)) fnTermsTextCard

/-- THE TIED CARD OF 'laws.FnExactSchemeText'. -/
def fnExactSchemeTextCard : Claim7 := { stood := { row := fnExactSchemeTextRow, standIns := [], harness := (true, "aa1a793f1d4d410cd76f8ee8c3483bf741dd9b93c87b6182568684ff7000bd8f"), looks := true }, kinds := [], alts := [], laidByText := true, laidKinds := [.data, .data, .data], laidTests := true, laidLooks := .later }
def FnExactSchemeTextCardSaid : Prop := Claim7.holds Tryd.pinned (.plain (OpenSpec.ofChange fnExactSchemeTextSpec)) fnExactSchemeTextCard

/-- THE TIED CARD OF 'laws.FnNodeWords'. -/
def fnNodeWordsCard : Claim7 := { stood := { row := fnNodeWordsRow, standIns := [], harness := (true, "aa1a793f1d4d410cd76f8ee8c3483bf741dd9b93c87b6182568684ff7000bd8f"), looks := true }, kinds := [], alts := [], laidByText := true, laidKinds := [.data, .data, .data, .data, .handle, .sentinel, .sentinel, .pinned], laidTests := true, laidLooks := .later }
def FnNodeWordsCardSaid : Prop := Claim7.holds Tryd.pinned (.plain (OpenSpec.ofChange fnNodeWordsSpec)) fnNodeWordsCard

/-- THE TIED CARD OF 'laws.FnSchemeText'. -/
def fnSchemeTextCard : Claim7 := { stood := { row := fnSchemeTextRow, standIns := [], harness := (true, "aa1a793f1d4d410cd76f8ee8c3483bf741dd9b93c87b6182568684ff7000bd8f"), looks := true }, kinds := [], alts := [], laidByText := true, laidKinds := [.data, .data, .data, .data, .handle, .sentinel, .sentinel, .pinned], laidTests := true, laidLooks := .later }
def FnSchemeTextCardSaid : Prop := Claim7.holds Tryd.pinned (.plain (OpenSpec.ofChange fnSchemeTextSpec)) fnSchemeTextCard

/-- THE SECOND FORM's CARD OF 'laws.FnExactNodeText'. -/
def fnExactNodeTextUptoCard : Claim7 := { stood := { row := fnExactNodeTextUptoRow, standIns := [], harness := (true, "aa1a793f1d4d410cd76f8ee8c3483bf741dd9b93c87b6182568684ff7000bd8f"), looks := true }, kinds := [], alts := [], laidByText := true, laidKinds := [.data, .data, .data], laidTests := true, laidLooks := .later }
def FnExactNodeTextUptoCardSaid : Prop := Claim7.holds Tryd.pinned (.plain (OpenSpec.upto fnExactNodeTextSpec)) fnExactNodeTextUptoCard

/-- THE SECOND FORM's CARD OF 'laws.FnNodeText'. -/
def fnNodeTextUptoCard : Claim7 := { stood := { row := fnNodeTextUptoRow, standIns := [], harness := (true, "aa1a793f1d4d410cd76f8ee8c3483bf741dd9b93c87b6182568684ff7000bd8f"), looks := true }, kinds := [], alts := [], laidByText := true, laidKinds := [.data, .data, .data], laidTests := true, laidLooks := .later }
def FnNodeTextUptoCardSaid : Prop := Claim7.holds Tryd.pinned (.plain (OpenSpec.upto fnNodeTextSpec)) fnNodeTextUptoCard

/-- THE SECOND FORM's CARD OF 'laws.FnSchemeTextFirst'. -/
def fnSchemeTextFirstUptoCard : Claim7 := { stood := { row := fnSchemeTextFirstUptoRow, standIns := [], harness := (true, "aa1a793f1d4d410cd76f8ee8c3483bf741dd9b93c87b6182568684ff7000bd8f"), looks := true }, kinds := [], alts := [], laidByText := true, laidKinds := [.data, .data, .data], laidTests := true, laidLooks := .later }
def FnSchemeTextFirstUptoCardSaid : Prop := Claim7.holds Tryd.pinned (.plain (OpenSpec.upto fnSchemeTextFirstSpec)) fnSchemeTextFirstUptoCard

/-- THE SECOND FORM's CARD OF 'laws.FnExactTermsText'. -/
def fnExactTermsTextUptoCard : Claim7 := { stood := { row := fnExactTermsTextUptoRow, standIns := [], harness := (true, "aa1a793f1d4d410cd76f8ee8c3483bf741dd9b93c87b6182568684ff7000bd8f"), looks := true }, kinds := [], alts := [], laidByText := true, laidKinds := [.data, .data, .data], laidTests := true, laidLooks := .later }
def FnExactTermsTextUptoCardSaid : Prop := Claim7.holds Tryd.pinned (.plain (OpenSpec.upto fnExactTermsTextSpec)) fnExactTermsTextUptoCard

/-- THE SECOND FORM's CARD OF 'laws.FnTermsText'. -/
def fnTermsTextUptoCard : Claim7 := { stood := { row := fnTermsTextUptoRow, standIns := [], harness := (true, "aa1a793f1d4d410cd76f8ee8c3483bf741dd9b93c87b6182568684ff7000bd8f"), looks := true }, kinds := [], alts := [], laidByText := true, laidKinds := [.data, .data, .data], laidTests := true, laidLooks := .later }
def FnTermsTextUptoCardSaid : Prop := Claim7.holds Tryd.pinned (.plain (OpenSpec.upto fnTermsTextSpec)) fnTermsTextUptoCard

/-- THE SECOND FORM's CARD OF 'laws.FnExactSchemeText'. -/
def fnExactSchemeTextUptoCard : Claim7 := { stood := { row := fnExactSchemeTextUptoRow, standIns := [], harness := (true, "aa1a793f1d4d410cd76f8ee8c3483bf741dd9b93c87b6182568684ff7000bd8f"), looks := true }, kinds := [], alts := [], laidByText := true, laidKinds := [.data, .data, .data], laidTests := true, laidLooks := .later }
def FnExactSchemeTextUptoCardSaid : Prop := Claim7.holds Tryd.pinned (.plain (OpenSpec.upto fnExactSchemeTextSpec)) fnExactSchemeTextUptoCard

/-- THE SECOND FORM's CARD OF 'laws.FnNodeWords'. -/
def fnNodeWordsUptoCard : Claim7 := { stood := { row := fnNodeWordsUptoRow, standIns := [], harness := (true, "aa1a793f1d4d410cd76f8ee8c3483bf741dd9b93c87b6182568684ff7000bd8f"), looks := true }, kinds := [], alts := [], laidByText := true, laidKinds := [.data, .data, .data, .data, .handle, .sentinel, .sentinel, .pinned], laidTests := true, laidLooks := .later }
def FnNodeWordsUptoCardSaid : Prop := Claim7.holds Tryd.pinned (.plain (OpenSpec.upto fnNodeWordsSpec)) fnNodeWordsUptoCard

/-- THE SECOND FORM's CARD OF 'laws.FnSchemeText'. -/
def fnSchemeTextUptoCard : Claim7 := { stood := { row := fnSchemeTextUptoRow, standIns := [], harness := (true, "aa1a793f1d4d410cd76f8ee8c3483bf741dd9b93c87b6182568684ff7000bd8f"), looks := true }, kinds := [], alts := [], laidByText := true, laidKinds := [.data, .data, .data, .data, .handle, .sentinel, .sentinel, .pinned], laidTests := true, laidLooks := .later }
def FnSchemeTextUptoCardSaid : Prop := Claim7.holds Tryd.pinned (.plain (OpenSpec.upto fnSchemeTextSpec)) fnSchemeTextUptoCard
end Rows
end Go.Proofs.YtnljibgjfobkbaaDoor
