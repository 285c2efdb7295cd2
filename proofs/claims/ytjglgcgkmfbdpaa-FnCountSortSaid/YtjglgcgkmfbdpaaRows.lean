/-
  No cell of these rows narrows 'for every input' (looked for: loops, veiled, ifaces, maps, wideKeys, modest, calm, conditions, laid).
  DERIVED. THE GIVEN ROWS OF THIS SEAT. 9 by the template 'for every input the law returns true; each argument reads behind the call as it read before'; 0 by the template 'total and deterministic' (their statements: YtjglgcgkmfbdpaaTotals.lean).
  GIVEN WITH THE SEED: the statements are not yours to turn. If you find one false, say at which input.
  Laid BY PROGRAM, IN A SANDBOX (cutbox-rows.mjs): the forced cells as the released guide's own fill.sh prints them over the translation fa4fec2959b37abf… (all of the seat's roots in one cut). By AI agents, Wed Nov 11 2026. No macro, syntax, notation, axiom, sorry.
-/
import Derived.Test.YtjglgcgkmfbdpaaChecked
import GoSem.Claim
import GoSem.ClaimJoined
import GoSem.ClaimMapViews
import Derived.JoinedTies
import Derived.KernelRfl
namespace Go.Proofs.Ytjglgcgkmfbdpaa
/- THE CELL 'sum', in the pinned program and in every row, IS THE sha256 OF THE DUMP (.gsa) THAT YtjglgcgkmfbdpaaProg.lean LOADS. Nothing in Lean hashes anything: it is a label: what it is worth is what the hold of that sum in a sandbox is worth. -/
noncomputable def Try.pinned : Pinned := { name := "ytjglgcgkmfbdpaa", sum := "fa4fec2959b37abfb25dcd33c1b70b1cd0ef1c5155c88f119c0d0fa4ca25d778", checked := Try.checked }
namespace Rows
def none {H : Type} : Left H := { results := [], args := [] }

/-- 'laws.FnExactCountSpins': WHATEVER THE INPUT: true; the input reads as it did. -/
def fnExactCountSpinsSpec : ChangeSpec := { name := "fnExactCountSpins", fn := fun _ => fun
  | [d1, d2] => { results := [.lit (.bool true)], args := [d1, d2] }
  | _ => none }
def fnExactCountSpinsRow : OpenClaim := { program := "ytjglgcgkmfbdpaa", sum := "fa4fec2959b37abfb25dcd33c1b70b1cd0ef1c5155c88f119c0d0fa4ca25d778", func := "loop.example/atomicspectra/laws.FnExactCountSpins", spec := "fnExactCountSpins", apart := false }
def FnExactCountSpinsSaid : Prop := fnExactCountSpinsRow.holds Try.pinned (OpenSpec.ofChange fnExactCountSpinsSpec)

/-- ITS FALSE NEIGHBOUR: 'it returns false'. Refute it at one input. -/
def fnExactCountSpinsWrong : ChangeSpec := { name := "fnExactCountSpins", fn := fun _ => fun
  | [d1, d2] => { results := [.lit (.bool false)], args := [d1, d2] }
  | _ => none }
def FnExactCountSpinsWrongFalsely : Prop := fnExactCountSpinsRow.holds Try.pinned (OpenSpec.ofChange fnExactCountSpinsWrong)

/-- 'laws.FnCountSpins': WHATEVER THE INPUT: true; the input reads as it did. -/
def fnCountSpinsSpec : ChangeSpec := { name := "fnCountSpins", fn := fun _ => fun
  | [d1, d2] => { results := [.lit (.bool true)], args := [d1, d2] }
  | _ => none }
def fnCountSpinsRow : OpenClaim := { program := "ytjglgcgkmfbdpaa", sum := "fa4fec2959b37abfb25dcd33c1b70b1cd0ef1c5155c88f119c0d0fa4ca25d778", func := "loop.example/atomicspectra/laws.FnCountSpins", spec := "fnCountSpins", apart := false }
def FnCountSpinsSaid : Prop := fnCountSpinsRow.holds Try.pinned (OpenSpec.ofChange fnCountSpinsSpec)

/-- ITS FALSE NEIGHBOUR: 'it returns false'. Refute it at one input. -/
def fnCountSpinsWrong : ChangeSpec := { name := "fnCountSpins", fn := fun _ => fun
  | [d1, d2] => { results := [.lit (.bool false)], args := [d1, d2] }
  | _ => none }
def FnCountSpinsWrongFalsely : Prop := fnCountSpinsRow.holds Try.pinned (OpenSpec.ofChange fnCountSpinsWrong)

/-- 'laws.FnExactCountJ': WHATEVER THE INPUT: true; the input reads as it did. -/
def fnExactCountJSpec : ChangeSpec := { name := "fnExactCountJ", fn := fun _ => fun
  | [d1, d2] => { results := [.lit (.bool true)], args := [d1, d2] }
  | _ => none }
def fnExactCountJRow : OpenClaim := { program := "ytjglgcgkmfbdpaa", sum := "fa4fec2959b37abfb25dcd33c1b70b1cd0ef1c5155c88f119c0d0fa4ca25d778", func := "loop.example/atomicspectra/laws.FnExactCountJ", spec := "fnExactCountJ", apart := false }
def FnExactCountJSaid : Prop := fnExactCountJRow.holds Try.pinned (OpenSpec.ofChange fnExactCountJSpec)

/-- ITS FALSE NEIGHBOUR: 'it returns false'. Refute it at one input. -/
def fnExactCountJWrong : ChangeSpec := { name := "fnExactCountJ", fn := fun _ => fun
  | [d1, d2] => { results := [.lit (.bool false)], args := [d1, d2] }
  | _ => none }
def FnExactCountJWrongFalsely : Prop := fnExactCountJRow.holds Try.pinned (OpenSpec.ofChange fnExactCountJWrong)

/-- 'laws.FnExactCountLevels': WHATEVER THE INPUT: true; the input reads as it did. -/
def fnExactCountLevelsSpec : ChangeSpec := { name := "fnExactCountLevels", fn := fun _ => fun
  | [d] => { results := [.lit (.bool true)], args := [d] }
  | _ => none }
def fnExactCountLevelsRow : OpenClaim := { program := "ytjglgcgkmfbdpaa", sum := "fa4fec2959b37abfb25dcd33c1b70b1cd0ef1c5155c88f119c0d0fa4ca25d778", func := "loop.example/atomicspectra/laws.FnExactCountLevels", spec := "fnExactCountLevels", apart := false }
def FnExactCountLevelsSaid : Prop := fnExactCountLevelsRow.holds Try.pinned (OpenSpec.ofChange fnExactCountLevelsSpec)

/-- ITS FALSE NEIGHBOUR: 'it returns false'. Refute it at one input. -/
def fnExactCountLevelsWrong : ChangeSpec := { name := "fnExactCountLevels", fn := fun _ => fun
  | [d] => { results := [.lit (.bool false)], args := [d] }
  | _ => none }
def FnExactCountLevelsWrongFalsely : Prop := fnExactCountLevelsRow.holds Try.pinned (OpenSpec.ofChange fnExactCountLevelsWrong)

/-- 'laws.FnCountSpinsAll': WHATEVER THE INPUT: true; the input reads as it did. -/
def fnCountSpinsAllSpec : ChangeSpec := { name := "fnCountSpinsAll", fn := fun _ => fun
  | [d] => { results := [.lit (.bool true)], args := [d] }
  | _ => none }
def fnCountSpinsAllRow : OpenClaim := { program := "ytjglgcgkmfbdpaa", sum := "fa4fec2959b37abfb25dcd33c1b70b1cd0ef1c5155c88f119c0d0fa4ca25d778", func := "loop.example/atomicspectra/laws.FnCountSpinsAll", spec := "fnCountSpinsAll", apart := false }
def FnCountSpinsAllSaid : Prop := fnCountSpinsAllRow.holds Try.pinned (OpenSpec.ofChange fnCountSpinsAllSpec)

/-- ITS FALSE NEIGHBOUR: 'it returns false'. Refute it at one input. -/
def fnCountSpinsAllWrong : ChangeSpec := { name := "fnCountSpinsAll", fn := fun _ => fun
  | [d] => { results := [.lit (.bool false)], args := [d] }
  | _ => none }
def FnCountSpinsAllWrongFalsely : Prop := fnCountSpinsAllRow.holds Try.pinned (OpenSpec.ofChange fnCountSpinsAllWrong)

/-- 'laws.FnCountLevels': WHATEVER THE INPUT: true; the input reads as it did. -/
def fnCountLevelsSpec : ChangeSpec := { name := "fnCountLevels", fn := fun _ => fun
  | [d] => { results := [.lit (.bool true)], args := [d] }
  | _ => none }
def fnCountLevelsRow : OpenClaim := { program := "ytjglgcgkmfbdpaa", sum := "fa4fec2959b37abfb25dcd33c1b70b1cd0ef1c5155c88f119c0d0fa4ca25d778", func := "loop.example/atomicspectra/laws.FnCountLevels", spec := "fnCountLevels", apart := false }
def FnCountLevelsSaid : Prop := fnCountLevelsRow.holds Try.pinned (OpenSpec.ofChange fnCountLevelsSpec)

/-- ITS FALSE NEIGHBOUR: 'it returns false'. Refute it at one input. -/
def fnCountLevelsWrong : ChangeSpec := { name := "fnCountLevels", fn := fun _ => fun
  | [d] => { results := [.lit (.bool false)], args := [d] }
  | _ => none }
def FnCountLevelsWrongFalsely : Prop := fnCountLevelsRow.holds Try.pinned (OpenSpec.ofChange fnCountLevelsWrong)

/-- 'laws.FnCountJ': WHATEVER THE INPUT: true; the input reads as it did. -/
def fnCountJSpec : ChangeSpec := { name := "fnCountJ", fn := fun _ => fun
  | [d] => { results := [.lit (.bool true)], args := [d] }
  | _ => none }
def fnCountJRow : OpenClaim := { program := "ytjglgcgkmfbdpaa", sum := "fa4fec2959b37abfb25dcd33c1b70b1cd0ef1c5155c88f119c0d0fa4ca25d778", func := "loop.example/atomicspectra/laws.FnCountJ", spec := "fnCountJ", apart := false }
def FnCountJSaid : Prop := fnCountJRow.holds Try.pinned (OpenSpec.ofChange fnCountJSpec)

/-- ITS FALSE NEIGHBOUR: 'it returns false'. Refute it at one input. -/
def fnCountJWrong : ChangeSpec := { name := "fnCountJ", fn := fun _ => fun
  | [d] => { results := [.lit (.bool false)], args := [d] }
  | _ => none }
def FnCountJWrongFalsely : Prop := fnCountJRow.holds Try.pinned (OpenSpec.ofChange fnCountJWrong)

/-- 'laws.FnCountHund': WHATEVER THE INPUT: true; the input reads as it did. -/
def fnCountHundSpec : ChangeSpec := { name := "fnCountHund", fn := fun _ => fun
  | [d1, d2] => { results := [.lit (.bool true)], args := [d1, d2] }
  | _ => none }
def fnCountHundRow : OpenClaim := { program := "ytjglgcgkmfbdpaa", sum := "fa4fec2959b37abfb25dcd33c1b70b1cd0ef1c5155c88f119c0d0fa4ca25d778", func := "loop.example/atomicspectra/laws.FnCountHund", spec := "fnCountHund", apart := false }
def FnCountHundSaid : Prop := fnCountHundRow.holds Try.pinned (OpenSpec.ofChange fnCountHundSpec)

/-- ITS FALSE NEIGHBOUR: 'it returns false'. Refute it at one input. -/
def fnCountHundWrong : ChangeSpec := { name := "fnCountHund", fn := fun _ => fun
  | [d1, d2] => { results := [.lit (.bool false)], args := [d1, d2] }
  | _ => none }
def FnCountHundWrongFalsely : Prop := fnCountHundRow.holds Try.pinned (OpenSpec.ofChange fnCountHundWrong)

/-- 'laws.FnCountSort': WHATEVER THE INPUT: true; the input reads as it did. -/
def fnCountSortSpec : ChangeSpec := { name := "fnCountSort", fn := fun _ => fun
  | [d1, d2] => { results := [.lit (.bool true)], args := [d1, d2] }
  | _ => none }
def fnCountSortRow : OpenClaim := { program := "ytjglgcgkmfbdpaa", sum := "fa4fec2959b37abfb25dcd33c1b70b1cd0ef1c5155c88f119c0d0fa4ca25d778", func := "loop.example/atomicspectra/laws.FnCountSort", spec := "fnCountSort", unfollowed := true, recurses := true, apart := false }
def FnCountSortSaid : Prop := fnCountSortRow.holds Try.pinned (OpenSpec.ofChange fnCountSortSpec)

/-- ITS FALSE NEIGHBOUR: 'it returns false'. Refute it at one input. -/
def fnCountSortWrong : ChangeSpec := { name := "fnCountSort", fn := fun _ => fun
  | [d1, d2] => { results := [.lit (.bool false)], args := [d1, d2] }
  | _ => none }
def FnCountSortWrongFalsely : Prop := fnCountSortRow.holds Try.pinned (OpenSpec.ofChange fnCountSortWrong)

/- THE SECOND FORM. 'bulk': how many values and letters a reading holds, each counted each time it is reached (what is shared counts as often as it is met; a slice's spare places count too). A statement '..UptoSaid' is the law's where the arguments, and the package variables that the reading takes, are together of bulk at most 1048576: NARROWER than '..Said'. Prove '..Said' where nothing that the law and all that it calls make is longer than what came in: it says more and counts as full. Else prove '..UptoSaid'. A law counts once. -/
mutual
def uptoBulk {H : Type} : DataW H → Nat
  | .lit (.string bytes) => bytes.length + 1
  | .lit _ => 1
  | .nil => 1
  | .ptr d => uptoBulk d + 1
  | .slice elems spare => uptoBulkAll elems + uptoBulkAll spare + 1
  | .agg parts => uptoBulkAll parts + 1
  | .iface _ d => uptoBulk d + 1
  | .map entries => uptoBulkEntries entries + 1
  | .held _ => 1
def uptoBulkAll {H : Type} : List (DataW H) → Nat
  | [] => 0
  | d :: r => uptoBulk d + uptoBulkAll r
def uptoBulkEntries {H : Type} : List (Lit × DataW H) → Nat
  | [] => 0
  | x :: r => uptoBulkEntry x + uptoBulkEntries r
def uptoBulkEntry {H : Type} : Lit × DataW H → Nat
  | (.string bytes, d) => bytes.length + uptoBulk d + 1
  | (_, d) => uptoBulk d + 1
 end
def uptoSmall : (H : Type) → List (DataW H) → Bool := fun _ ds => decide (uptoBulkAll ds ≤ 1048576)
def OpenSpec.upto (s : _root_.Go.ChangeSpec) : _root_.Go.OpenSpec := { _root_.Go.OpenSpec.ofChange s with cond := some uptoSmall }

/-- 'laws.FnExactCountSpins', WHERE WHAT IT READS IS OF BULK AT MOST 1048576: true; the input reads as it did. -/
def fnExactCountSpinsUptoRow : OpenClaim := { program := "ytjglgcgkmfbdpaa", sum := "fa4fec2959b37abfb25dcd33c1b70b1cd0ef1c5155c88f119c0d0fa4ca25d778", func := "loop.example/atomicspectra/laws.FnExactCountSpins", spec := "fnExactCountSpins", apart := false, narrowed := true }
def FnExactCountSpinsUptoSaid : Prop := fnExactCountSpinsUptoRow.holds Try.pinned (OpenSpec.upto fnExactCountSpinsSpec)

/-- 'laws.FnCountSpins', WHERE WHAT IT READS IS OF BULK AT MOST 1048576: true; the input reads as it did. -/
def fnCountSpinsUptoRow : OpenClaim := { program := "ytjglgcgkmfbdpaa", sum := "fa4fec2959b37abfb25dcd33c1b70b1cd0ef1c5155c88f119c0d0fa4ca25d778", func := "loop.example/atomicspectra/laws.FnCountSpins", spec := "fnCountSpins", apart := false, narrowed := true }
def FnCountSpinsUptoSaid : Prop := fnCountSpinsUptoRow.holds Try.pinned (OpenSpec.upto fnCountSpinsSpec)

/-- 'laws.FnExactCountJ', WHERE WHAT IT READS IS OF BULK AT MOST 1048576: true; the input reads as it did. -/
def fnExactCountJUptoRow : OpenClaim := { program := "ytjglgcgkmfbdpaa", sum := "fa4fec2959b37abfb25dcd33c1b70b1cd0ef1c5155c88f119c0d0fa4ca25d778", func := "loop.example/atomicspectra/laws.FnExactCountJ", spec := "fnExactCountJ", apart := false, narrowed := true }
def FnExactCountJUptoSaid : Prop := fnExactCountJUptoRow.holds Try.pinned (OpenSpec.upto fnExactCountJSpec)

/-- 'laws.FnExactCountLevels', WHERE WHAT IT READS IS OF BULK AT MOST 1048576: true; the input reads as it did. -/
def fnExactCountLevelsUptoRow : OpenClaim := { program := "ytjglgcgkmfbdpaa", sum := "fa4fec2959b37abfb25dcd33c1b70b1cd0ef1c5155c88f119c0d0fa4ca25d778", func := "loop.example/atomicspectra/laws.FnExactCountLevels", spec := "fnExactCountLevels", apart := false, narrowed := true }
def FnExactCountLevelsUptoSaid : Prop := fnExactCountLevelsUptoRow.holds Try.pinned (OpenSpec.upto fnExactCountLevelsSpec)

/-- 'laws.FnCountSpinsAll', WHERE WHAT IT READS IS OF BULK AT MOST 1048576: true; the input reads as it did. -/
def fnCountSpinsAllUptoRow : OpenClaim := { program := "ytjglgcgkmfbdpaa", sum := "fa4fec2959b37abfb25dcd33c1b70b1cd0ef1c5155c88f119c0d0fa4ca25d778", func := "loop.example/atomicspectra/laws.FnCountSpinsAll", spec := "fnCountSpinsAll", apart := false, narrowed := true }
def FnCountSpinsAllUptoSaid : Prop := fnCountSpinsAllUptoRow.holds Try.pinned (OpenSpec.upto fnCountSpinsAllSpec)

/-- 'laws.FnCountLevels', WHERE WHAT IT READS IS OF BULK AT MOST 1048576: true; the input reads as it did. -/
def fnCountLevelsUptoRow : OpenClaim := { program := "ytjglgcgkmfbdpaa", sum := "fa4fec2959b37abfb25dcd33c1b70b1cd0ef1c5155c88f119c0d0fa4ca25d778", func := "loop.example/atomicspectra/laws.FnCountLevels", spec := "fnCountLevels", apart := false, narrowed := true }
def FnCountLevelsUptoSaid : Prop := fnCountLevelsUptoRow.holds Try.pinned (OpenSpec.upto fnCountLevelsSpec)

/-- 'laws.FnCountJ', WHERE WHAT IT READS IS OF BULK AT MOST 1048576: true; the input reads as it did. -/
def fnCountJUptoRow : OpenClaim := { program := "ytjglgcgkmfbdpaa", sum := "fa4fec2959b37abfb25dcd33c1b70b1cd0ef1c5155c88f119c0d0fa4ca25d778", func := "loop.example/atomicspectra/laws.FnCountJ", spec := "fnCountJ", apart := false, narrowed := true }
def FnCountJUptoSaid : Prop := fnCountJUptoRow.holds Try.pinned (OpenSpec.upto fnCountJSpec)

/-- 'laws.FnCountHund', WHERE WHAT IT READS IS OF BULK AT MOST 1048576: true; the input reads as it did. -/
def fnCountHundUptoRow : OpenClaim := { program := "ytjglgcgkmfbdpaa", sum := "fa4fec2959b37abfb25dcd33c1b70b1cd0ef1c5155c88f119c0d0fa4ca25d778", func := "loop.example/atomicspectra/laws.FnCountHund", spec := "fnCountHund", apart := false, narrowed := true }
def FnCountHundUptoSaid : Prop := fnCountHundUptoRow.holds Try.pinned (OpenSpec.upto fnCountHundSpec)

/-- 'laws.FnCountSort', WHERE WHAT IT READS IS OF BULK AT MOST 1048576: true; the input reads as it did. -/
def fnCountSortUptoRow : OpenClaim := { program := "ytjglgcgkmfbdpaa", sum := "fa4fec2959b37abfb25dcd33c1b70b1cd0ef1c5155c88f119c0d0fa4ca25d778", func := "loop.example/atomicspectra/laws.FnCountSort", spec := "fnCountSort", unfollowed := true, recurses := true, apart := false, narrowed := true }
def FnCountSortUptoSaid : Prop := fnCountSortUptoRow.holds Try.pinned (OpenSpec.upto fnCountSortSpec)

end Rows
end Go.Proofs.Ytjglgcgkmfbdpaa
