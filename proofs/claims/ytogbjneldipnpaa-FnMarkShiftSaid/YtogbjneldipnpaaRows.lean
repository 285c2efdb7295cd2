/-
  No cell of these rows narrows 'for every input' (looked for: loops, veiled, ifaces, maps, wideKeys, modest, calm, conditions, laid).
  DERIVED. THE GIVEN ROWS OF THIS SEAT. 11 by the template 'for every input the law returns true; each argument reads behind the call as it read before'; 0 by the template 'total and deterministic' (their statements: YtogbjneldipnpaaTotals.lean).
  GIVEN WITH THE SEED: the statements are not yours to turn. If you find one false, say at which input.
  Laid BY PROGRAM, IN A SANDBOX (cutbox-rows.mjs): the forced cells as the released guide's own fill.sh prints them over the translation a9a257a1b439be39… (all of the seat's roots in one cut). By AI agents, Wed Nov 11 2026. No macro, syntax, notation, axiom, sorry.
-/
import Derived.Test.YtogbjneldipnpaaChecked
import GoSem.Claim
import GoSem.ClaimJoined
import GoSem.ClaimMapViews
import Derived.JoinedTies
import Derived.KernelRfl
namespace Go.Proofs.Ytogbjneldipnpaa
/- THE CELL 'sum', in the pinned program and in every row, IS THE sha256 OF THE DUMP (.gsa) THAT YtogbjneldipnpaaProg.lean LOADS. Nothing in Lean hashes anything: it is a label: what it is worth is what the hold of that sum in a sandbox is worth. -/
noncomputable def Try.pinned : Pinned := { name := "ytogbjneldipnpaa", sum := "a9a257a1b439be3940a7a21be7c7e6c42cec8a836ad918c6e0390e7a724103da", checked := Try.checked }
namespace Rows
def none {H : Type} : Left H := { results := [], args := [] }

/-- 'laws.FnExactMarkNumber': WHATEVER THE INPUT: true; the input reads as it did. -/
def fnExactMarkNumberSpec : ChangeSpec := { name := "fnExactMarkNumber", fn := fun _ => fun
  | [d1, d2] => { results := [.lit (.bool true)], args := [d1, d2] }
  | _ => none }
def fnExactMarkNumberRow : OpenClaim := { program := "ytogbjneldipnpaa", sum := "a9a257a1b439be3940a7a21be7c7e6c42cec8a836ad918c6e0390e7a724103da", func := "loop.example/atomicspectra/laws.FnExactMarkNumber", spec := "fnExactMarkNumber", unfollowed := true, recurses := true, apart := false }
def FnExactMarkNumberSaid : Prop := fnExactMarkNumberRow.holds Try.pinned (OpenSpec.ofChange fnExactMarkNumberSpec)

/-- ITS FALSE NEIGHBOUR: 'it returns false'. Refute it at one input. -/
def fnExactMarkNumberWrong : ChangeSpec := { name := "fnExactMarkNumber", fn := fun _ => fun
  | [d1, d2] => { results := [.lit (.bool false)], args := [d1, d2] }
  | _ => none }
def FnExactMarkNumberWrongFalsely : Prop := fnExactMarkNumberRow.holds Try.pinned (OpenSpec.ofChange fnExactMarkNumberWrong)

/-- 'laws.FnMarkAt': WHATEVER THE INPUT: true; the input reads as it did. -/
def fnMarkAtSpec : ChangeSpec := { name := "fnMarkAt", fn := fun _ => fun
  | [d] => { results := [.lit (.bool true)], args := [d] }
  | _ => none }
def fnMarkAtRow : OpenClaim := { program := "ytogbjneldipnpaa", sum := "a9a257a1b439be3940a7a21be7c7e6c42cec8a836ad918c6e0390e7a724103da", func := "loop.example/atomicspectra/laws.FnMarkAt", spec := "fnMarkAt", unfollowed := true, recurses := true, apart := false }
def FnMarkAtSaid : Prop := fnMarkAtRow.holds Try.pinned (OpenSpec.ofChange fnMarkAtSpec)

/-- ITS FALSE NEIGHBOUR: 'it returns false'. Refute it at one input. -/
def fnMarkAtWrong : ChangeSpec := { name := "fnMarkAt", fn := fun _ => fun
  | [d] => { results := [.lit (.bool false)], args := [d] }
  | _ => none }
def FnMarkAtWrongFalsely : Prop := fnMarkAtRow.holds Try.pinned (OpenSpec.ofChange fnMarkAtWrong)

/-- 'laws.FnMarkFewer': WHATEVER THE INPUT: true; the input reads as it did. -/
def fnMarkFewerSpec : ChangeSpec := { name := "fnMarkFewer", fn := fun _ => fun
  | [d] => { results := [.lit (.bool true)], args := [d] }
  | _ => none }
def fnMarkFewerRow : OpenClaim := { program := "ytogbjneldipnpaa", sum := "a9a257a1b439be3940a7a21be7c7e6c42cec8a836ad918c6e0390e7a724103da", func := "loop.example/atomicspectra/laws.FnMarkFewer", spec := "fnMarkFewer", unfollowed := true, recurses := true, apart := false }
def FnMarkFewerSaid : Prop := fnMarkFewerRow.holds Try.pinned (OpenSpec.ofChange fnMarkFewerSpec)

/-- ITS FALSE NEIGHBOUR: 'it returns false'. Refute it at one input. -/
def fnMarkFewerWrong : ChangeSpec := { name := "fnMarkFewer", fn := fun _ => fun
  | [d] => { results := [.lit (.bool false)], args := [d] }
  | _ => none }
def FnMarkFewerWrongFalsely : Prop := fnMarkFewerRow.holds Try.pinned (OpenSpec.ofChange fnMarkFewerWrong)

/-- 'laws.FnMarkLine': WHATEVER THE INPUT: true; the input reads as it did. -/
def fnMarkLineSpec : ChangeSpec := { name := "fnMarkLine", fn := fun _ => fun
  | [d] => { results := [.lit (.bool true)], args := [d] }
  | _ => none }
def fnMarkLineRow : OpenClaim := { program := "ytogbjneldipnpaa", sum := "a9a257a1b439be3940a7a21be7c7e6c42cec8a836ad918c6e0390e7a724103da", func := "loop.example/atomicspectra/laws.FnMarkLine", spec := "fnMarkLine", unfollowed := true, recurses := true, apart := false }
def FnMarkLineSaid : Prop := fnMarkLineRow.holds Try.pinned (OpenSpec.ofChange fnMarkLineSpec)

/-- ITS FALSE NEIGHBOUR: 'it returns false'. Refute it at one input. -/
def fnMarkLineWrong : ChangeSpec := { name := "fnMarkLine", fn := fun _ => fun
  | [d] => { results := [.lit (.bool false)], args := [d] }
  | _ => none }
def FnMarkLineWrongFalsely : Prop := fnMarkLineRow.holds Try.pinned (OpenSpec.ofChange fnMarkLineWrong)

/-- 'laws.FnMarkRises': WHATEVER THE INPUT: true; the input reads as it did. -/
def fnMarkRisesSpec : ChangeSpec := { name := "fnMarkRises", fn := fun _ => fun
  | [d] => { results := [.lit (.bool true)], args := [d] }
  | _ => none }
def fnMarkRisesRow : OpenClaim := { program := "ytogbjneldipnpaa", sum := "a9a257a1b439be3940a7a21be7c7e6c42cec8a836ad918c6e0390e7a724103da", func := "loop.example/atomicspectra/laws.FnMarkRises", spec := "fnMarkRises", unfollowed := true, recurses := true, apart := false }
def FnMarkRisesSaid : Prop := fnMarkRisesRow.holds Try.pinned (OpenSpec.ofChange fnMarkRisesSpec)

/-- ITS FALSE NEIGHBOUR: 'it returns false'. Refute it at one input. -/
def fnMarkRisesWrong : ChangeSpec := { name := "fnMarkRises", fn := fun _ => fun
  | [d] => { results := [.lit (.bool false)], args := [d] }
  | _ => none }
def FnMarkRisesWrongFalsely : Prop := fnMarkRisesRow.holds Try.pinned (OpenSpec.ofChange fnMarkRisesWrong)

/-- 'laws.FnMarkTwice': WHATEVER THE INPUT: true; the input reads as it did. -/
def fnMarkTwiceSpec : ChangeSpec := { name := "fnMarkTwice", fn := fun _ => fun
  | [d] => { results := [.lit (.bool true)], args := [d] }
  | _ => none }
def fnMarkTwiceRow : OpenClaim := { program := "ytogbjneldipnpaa", sum := "a9a257a1b439be3940a7a21be7c7e6c42cec8a836ad918c6e0390e7a724103da", func := "loop.example/atomicspectra/laws.FnMarkTwice", spec := "fnMarkTwice", unfollowed := true, recurses := true, apart := false }
def FnMarkTwiceSaid : Prop := fnMarkTwiceRow.holds Try.pinned (OpenSpec.ofChange fnMarkTwiceSpec)

/-- ITS FALSE NEIGHBOUR: 'it returns false'. Refute it at one input. -/
def fnMarkTwiceWrong : ChangeSpec := { name := "fnMarkTwice", fn := fun _ => fun
  | [d] => { results := [.lit (.bool false)], args := [d] }
  | _ => none }
def FnMarkTwiceWrongFalsely : Prop := fnMarkTwiceRow.holds Try.pinned (OpenSpec.ofChange fnMarkTwiceWrong)

/-- 'laws.FnExactMarkPos': WHATEVER THE INPUT: true; the input reads as it did. -/
def fnExactMarkPosSpec : ChangeSpec := { name := "fnExactMarkPos", fn := fun _ => fun
  | [d1, d2] => { results := [.lit (.bool true)], args := [d1, d2] }
  | _ => none }
def fnExactMarkPosRow : OpenClaim := { program := "ytogbjneldipnpaa", sum := "a9a257a1b439be3940a7a21be7c7e6c42cec8a836ad918c6e0390e7a724103da", func := "loop.example/atomicspectra/laws.FnExactMarkPos", spec := "fnExactMarkPos", unfollowed := true, recurses := true, apart := false }
def FnExactMarkPosSaid : Prop := fnExactMarkPosRow.holds Try.pinned (OpenSpec.ofChange fnExactMarkPosSpec)

/-- ITS FALSE NEIGHBOUR: 'it returns false'. Refute it at one input. -/
def fnExactMarkPosWrong : ChangeSpec := { name := "fnExactMarkPos", fn := fun _ => fun
  | [d1, d2] => { results := [.lit (.bool false)], args := [d1, d2] }
  | _ => none }
def FnExactMarkPosWrongFalsely : Prop := fnExactMarkPosRow.holds Try.pinned (OpenSpec.ofChange fnExactMarkPosWrong)

/-- 'laws.FnMarkPosRises': WHATEVER THE INPUT: true; the input reads as it did. -/
def fnMarkPosRisesSpec : ChangeSpec := { name := "fnMarkPosRises", fn := fun _ => fun
  | [d] => { results := [.lit (.bool true)], args := [d] }
  | _ => none }
def fnMarkPosRisesRow : OpenClaim := { program := "ytogbjneldipnpaa", sum := "a9a257a1b439be3940a7a21be7c7e6c42cec8a836ad918c6e0390e7a724103da", func := "loop.example/atomicspectra/laws.FnMarkPosRises", spec := "fnMarkPosRises", unfollowed := true, recurses := true, apart := false }
def FnMarkPosRisesSaid : Prop := fnMarkPosRisesRow.holds Try.pinned (OpenSpec.ofChange fnMarkPosRisesSpec)

/-- ITS FALSE NEIGHBOUR: 'it returns false'. Refute it at one input. -/
def fnMarkPosRisesWrong : ChangeSpec := { name := "fnMarkPosRises", fn := fun _ => fun
  | [d] => { results := [.lit (.bool false)], args := [d] }
  | _ => none }
def FnMarkPosRisesWrongFalsely : Prop := fnMarkPosRisesRow.holds Try.pinned (OpenSpec.ofChange fnMarkPosRisesWrong)

/-- 'laws.FnMarkShift': WHATEVER THE INPUT: true; the input reads as it did. -/
def fnMarkShiftSpec : ChangeSpec := { name := "fnMarkShift", fn := fun _ => fun
  | [d1, d2] => { results := [.lit (.bool true)], args := [d1, d2] }
  | _ => none }
def fnMarkShiftRow : OpenClaim := { program := "ytogbjneldipnpaa", sum := "a9a257a1b439be3940a7a21be7c7e6c42cec8a836ad918c6e0390e7a724103da", func := "loop.example/atomicspectra/laws.FnMarkShift", spec := "fnMarkShift", unfollowed := true, recurses := true, apart := false }
def FnMarkShiftSaid : Prop := fnMarkShiftRow.holds Try.pinned (OpenSpec.ofChange fnMarkShiftSpec)

/-- ITS FALSE NEIGHBOUR: 'it returns false'. Refute it at one input. -/
def fnMarkShiftWrong : ChangeSpec := { name := "fnMarkShift", fn := fun _ => fun
  | [d1, d2] => { results := [.lit (.bool false)], args := [d1, d2] }
  | _ => none }
def FnMarkShiftWrongFalsely : Prop := fnMarkShiftRow.holds Try.pinned (OpenSpec.ofChange fnMarkShiftWrong)

/-- 'laws.FnMarkPos': WHATEVER THE INPUT: true; the input reads as it did. -/
def fnMarkPosSpec : ChangeSpec := { name := "fnMarkPos", fn := fun _ => fun
  | [d] => { results := [.lit (.bool true)], args := [d] }
  | _ => none }
def fnMarkPosRow : OpenClaim := { program := "ytogbjneldipnpaa", sum := "a9a257a1b439be3940a7a21be7c7e6c42cec8a836ad918c6e0390e7a724103da", func := "loop.example/atomicspectra/laws.FnMarkPos", spec := "fnMarkPos", unfollowed := true, recurses := true, apart := false }
def FnMarkPosSaid : Prop := fnMarkPosRow.holds Try.pinned (OpenSpec.ofChange fnMarkPosSpec)

/-- ITS FALSE NEIGHBOUR: 'it returns false'. Refute it at one input. -/
def fnMarkPosWrong : ChangeSpec := { name := "fnMarkPos", fn := fun _ => fun
  | [d] => { results := [.lit (.bool false)], args := [d] }
  | _ => none }
def FnMarkPosWrongFalsely : Prop := fnMarkPosRow.holds Try.pinned (OpenSpec.ofChange fnMarkPosWrong)

/-- 'laws.FnMarkPosAt': WHATEVER THE INPUT: true; the input reads as it did. -/
def fnMarkPosAtSpec : ChangeSpec := { name := "fnMarkPosAt", fn := fun _ => fun
  | [d] => { results := [.lit (.bool true)], args := [d] }
  | _ => none }
def fnMarkPosAtRow : OpenClaim := { program := "ytogbjneldipnpaa", sum := "a9a257a1b439be3940a7a21be7c7e6c42cec8a836ad918c6e0390e7a724103da", func := "loop.example/atomicspectra/laws.FnMarkPosAt", spec := "fnMarkPosAt", unfollowed := true, recurses := true, apart := false }
def FnMarkPosAtSaid : Prop := fnMarkPosAtRow.holds Try.pinned (OpenSpec.ofChange fnMarkPosAtSpec)

/-- ITS FALSE NEIGHBOUR: 'it returns false'. Refute it at one input. -/
def fnMarkPosAtWrong : ChangeSpec := { name := "fnMarkPosAt", fn := fun _ => fun
  | [d] => { results := [.lit (.bool false)], args := [d] }
  | _ => none }
def FnMarkPosAtWrongFalsely : Prop := fnMarkPosAtRow.holds Try.pinned (OpenSpec.ofChange fnMarkPosAtWrong)

/- THE SECOND FORM. 'bulk': how many values and letters a reading holds, each counted each time it is reached (what is shared counts as often as it is met; a slice's spare places count too). A statement '..UptoSaid' is the law's where the arguments, and the package variables that the reading takes, are together of bulk at most 1048576: NARROWER than '..Said'. Prove '..Said' where nothing that the law and all that it calls make is longer than what came in: it says more and counts as full. Else prove '..UptoSaid'. A law counts once. -/
mutual
def uptoBulk {H : Type} : DataW H → Nat
  | .lit (.string bytes) => bytes.length + 1
  | .lit _ => 1
  | .nil => 1
  | .ptr d => uptoBulk d + 1
  | .slice elems spare => uptoBulkAll elems + uptoBulkAll spare + 1
  | .agg parts => uptoBulkAll parts + 1
  | .iface _ d => uptoBulk d + 1
  | .map entries => uptoBulkEntries entries + 1
  | .held _ => 1
def uptoBulkAll {H : Type} : List (DataW H) → Nat
  | [] => 0
  | d :: r => uptoBulk d + uptoBulkAll r
def uptoBulkEntries {H : Type} : List (Lit × DataW H) → Nat
  | [] => 0
  | x :: r => uptoBulkEntry x + uptoBulkEntries r
def uptoBulkEntry {H : Type} : Lit × DataW H → Nat
  | (.string bytes, d) => bytes.length + uptoBulk d + 1
  | (_, d) => uptoBulk d + 1
 end
def uptoSmall : (H : Type) → List (DataW H) → Bool := fun _ ds => decide (uptoBulkAll ds ≤ 1048576)
def OpenSpec.upto (s : _root_.Go.ChangeSpec) : _root_.Go.OpenSpec := { _root_.Go.OpenSpec.ofChange s with cond := some uptoSmall }

/-- 'laws.FnExactMarkNumber', WHERE WHAT IT READS IS OF BULK AT MOST 1048576: true; the input reads as it did. -/
def fnExactMarkNumberUptoRow : OpenClaim := { program := "ytogbjneldipnpaa", sum := "a9a257a1b439be3940a7a21be7c7e6c42cec8a836ad918c6e0390e7a724103da", func := "loop.example/atomicspectra/laws.FnExactMarkNumber", spec := "fnExactMarkNumber", unfollowed := true, recurses := true, apart := false, narrowed := true }
def FnExactMarkNumberUptoSaid : Prop := fnExactMarkNumberUptoRow.holds Try.pinned (OpenSpec.upto fnExactMarkNumberSpec)

/-- 'laws.FnMarkAt', WHERE WHAT IT READS IS OF BULK AT MOST 1048576: true; the input reads as it did. -/
def fnMarkAtUptoRow : OpenClaim := { program := "ytogbjneldipnpaa", sum := "a9a257a1b439be3940a7a21be7c7e6c42cec8a836ad918c6e0390e7a724103da", func := "loop.example/atomicspectra/laws.FnMarkAt", spec := "fnMarkAt", unfollowed := true, recurses := true, apart := false, narrowed := true }
def FnMarkAtUptoSaid : Prop := fnMarkAtUptoRow.holds Try.pinned (OpenSpec.upto fnMarkAtSpec)

/-- 'laws.FnMarkFewer', WHERE WHAT IT READS IS OF BULK AT MOST 1048576: true; the input reads as it did. -/
def fnMarkFewerUptoRow : OpenClaim := { program := "ytogbjneldipnpaa", sum := "a9a257a1b439be3940a7a21be7c7e6c42cec8a836ad918c6e0390e7a724103da", func := "loop.example/atomicspectra/laws.FnMarkFewer", spec := "fnMarkFewer", unfollowed := true, recurses := true, apart := false, narrowed := true }
def FnMarkFewerUptoSaid : Prop := fnMarkFewerUptoRow.holds Try.pinned (OpenSpec.upto fnMarkFewerSpec)

/-- 'laws.FnMarkLine', WHERE WHAT IT READS IS OF BULK AT MOST 1048576: true; the input reads as it did. -/
def fnMarkLineUptoRow : OpenClaim := { program := "ytogbjneldipnpaa", sum := "a9a257a1b439be3940a7a21be7c7e6c42cec8a836ad918c6e0390e7a724103da", func := "loop.example/atomicspectra/laws.FnMarkLine", spec := "fnMarkLine", unfollowed := true, recurses := true, apart := false, narrowed := true }
def FnMarkLineUptoSaid : Prop := fnMarkLineUptoRow.holds Try.pinned (OpenSpec.upto fnMarkLineSpec)

/-- 'laws.FnMarkRises', WHERE WHAT IT READS IS OF BULK AT MOST 1048576: true; the input reads as it did. -/
def fnMarkRisesUptoRow : OpenClaim := { program := "ytogbjneldipnpaa", sum := "a9a257a1b439be3940a7a21be7c7e6c42cec8a836ad918c6e0390e7a724103da", func := "loop.example/atomicspectra/laws.FnMarkRises", spec := "fnMarkRises", unfollowed := true, recurses := true, apart := false, narrowed := true }
def FnMarkRisesUptoSaid : Prop := fnMarkRisesUptoRow.holds Try.pinned (OpenSpec.upto fnMarkRisesSpec)

/-- 'laws.FnMarkTwice', WHERE WHAT IT READS IS OF BULK AT MOST 1048576: true; the input reads as it did. -/
def fnMarkTwiceUptoRow : OpenClaim := { program := "ytogbjneldipnpaa", sum := "a9a257a1b439be3940a7a21be7c7e6c42cec8a836ad918c6e0390e7a724103da", func := "loop.example/atomicspectra/laws.FnMarkTwice", spec := "fnMarkTwice", unfollowed := true, recurses := true, apart := false, narrowed := true }
def FnMarkTwiceUptoSaid : Prop := fnMarkTwiceUptoRow.holds Try.pinned (OpenSpec.upto fnMarkTwiceSpec)

/-- 'laws.FnExactMarkPos', WHERE WHAT IT READS IS OF BULK AT MOST 1048576: true; the input reads as it did. -/
def fnExactMarkPosUptoRow : OpenClaim := { program := "ytogbjneldipnpaa", sum := "a9a257a1b439be3940a7a21be7c7e6c42cec8a836ad918c6e0390e7a724103da", func := "loop.example/atomicspectra/laws.FnExactMarkPos", spec := "fnExactMarkPos", unfollowed := true, recurses := true, apart := false, narrowed := true }
def FnExactMarkPosUptoSaid : Prop := fnExactMarkPosUptoRow.holds Try.pinned (OpenSpec.upto fnExactMarkPosSpec)

/-- 'laws.FnMarkPosRises', WHERE WHAT IT READS IS OF BULK AT MOST 1048576: true; the input reads as it did. -/
def fnMarkPosRisesUptoRow : OpenClaim := { program := "ytogbjneldipnpaa", sum := "a9a257a1b439be3940a7a21be7c7e6c42cec8a836ad918c6e0390e7a724103da", func := "loop.example/atomicspectra/laws.FnMarkPosRises", spec := "fnMarkPosRises", unfollowed := true, recurses := true, apart := false, narrowed := true }
def FnMarkPosRisesUptoSaid : Prop := fnMarkPosRisesUptoRow.holds Try.pinned (OpenSpec.upto fnMarkPosRisesSpec)

/-- 'laws.FnMarkShift', WHERE WHAT IT READS IS OF BULK AT MOST 1048576: true; the input reads as it did. -/
def fnMarkShiftUptoRow : OpenClaim := { program := "ytogbjneldipnpaa", sum := "a9a257a1b439be3940a7a21be7c7e6c42cec8a836ad918c6e0390e7a724103da", func := "loop.example/atomicspectra/laws.FnMarkShift", spec := "fnMarkShift", unfollowed := true, recurses := true, apart := false, narrowed := true }
def FnMarkShiftUptoSaid : Prop := fnMarkShiftUptoRow.holds Try.pinned (OpenSpec.upto fnMarkShiftSpec)

/-- 'laws.FnMarkPos', WHERE WHAT IT READS IS OF BULK AT MOST 1048576: true; the input reads as it did. -/
def fnMarkPosUptoRow : OpenClaim := { program := "ytogbjneldipnpaa", sum := "a9a257a1b439be3940a7a21be7c7e6c42cec8a836ad918c6e0390e7a724103da", func := "loop.example/atomicspectra/laws.FnMarkPos", spec := "fnMarkPos", unfollowed := true, recurses := true, apart := false, narrowed := true }
def FnMarkPosUptoSaid : Prop := fnMarkPosUptoRow.holds Try.pinned (OpenSpec.upto fnMarkPosSpec)

/-- 'laws.FnMarkPosAt', WHERE WHAT IT READS IS OF BULK AT MOST 1048576: true; the input reads as it did. -/
def fnMarkPosAtUptoRow : OpenClaim := { program := "ytogbjneldipnpaa", sum := "a9a257a1b439be3940a7a21be7c7e6c42cec8a836ad918c6e0390e7a724103da", func := "loop.example/atomicspectra/laws.FnMarkPosAt", spec := "fnMarkPosAt", unfollowed := true, recurses := true, apart := false, narrowed := true }
def FnMarkPosAtUptoSaid : Prop := fnMarkPosAtUptoRow.holds Try.pinned (OpenSpec.upto fnMarkPosAtSpec)

end Rows
end Go.Proofs.Ytogbjneldipnpaa
