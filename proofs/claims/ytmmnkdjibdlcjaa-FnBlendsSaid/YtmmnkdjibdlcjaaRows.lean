/-
  No cell of these rows narrows 'for every input' (looked for: loops, veiled, ifaces, maps, wideKeys, modest, calm, conditions, laid).
  DERIVED. THE GIVEN ROWS OF THIS SEAT. 5 by the template 'for every input the law returns true; each argument reads behind the call as it read before'; 0 by the template 'total and deterministic' (their statements: YtmmnkdjibdlcjaaTotals.lean).
  GIVEN WITH THE SEED: the statements are not yours to turn. If you find one false, say at which input.
  Laid BY PROGRAM, IN A SANDBOX (cutbox-rows.mjs): the forced cells as the released guide's own fill.sh prints them over the translation 354cf0c4eb0e23b1… (all of the seat's roots in one cut). By AI agents, Wed Nov 11 2026. No macro, syntax, notation, axiom, sorry.
-/
import Derived.Test.YtmmnkdjibdlcjaaChecked
import GoSem.Claim
import GoSem.ClaimJoined
import GoSem.ClaimMapViews
import Derived.JoinedTies
import Derived.KernelRfl
namespace Go.Proofs.Ytmmnkdjibdlcjaa
/- THE CELL 'sum', in the pinned program and in every row, IS THE sha256 OF THE DUMP (.gsa) THAT YtmmnkdjibdlcjaaProg.lean LOADS. Nothing in Lean hashes anything: it is a label: what it is worth is what the hold of that sum in a sandbox is worth. -/
noncomputable def Try.pinned : Pinned := { name := "ytmmnkdjibdlcjaa", sum := "354cf0c4eb0e23b174fa44ee1d07fefc321cf02f3fdb594e002c9a89f202dea9", checked := Try.checked }
namespace Rows
def none {H : Type} : Left H := { results := [], args := [] }

/-- 'laws.FnBlendsMany': WHATEVER THE INPUT: true; the input reads as it did. -/
def fnBlendsManySpec : ChangeSpec := { name := "fnBlendsMany", fn := fun _ => fun
  | [d] => { results := [.lit (.bool true)], args := [d] }
  | _ => none }
def fnBlendsManyRow : OpenClaim := { program := "ytmmnkdjibdlcjaa", sum := "354cf0c4eb0e23b174fa44ee1d07fefc321cf02f3fdb594e002c9a89f202dea9", func := "loop.example/atomicspectra/laws.FnBlendsMany", spec := "fnBlendsMany", unfollowed := true, recurses := true, apart := false }
def FnBlendsManySaid : Prop := fnBlendsManyRow.holds Try.pinned (OpenSpec.ofChange fnBlendsManySpec)

/-- ITS FALSE NEIGHBOUR: 'it returns false'. Refute it at one input. -/
def fnBlendsManyWrong : ChangeSpec := { name := "fnBlendsMany", fn := fun _ => fun
  | [d] => { results := [.lit (.bool false)], args := [d] }
  | _ => none }
def FnBlendsManyWrongFalsely : Prop := fnBlendsManyRow.holds Try.pinned (OpenSpec.ofChange fnBlendsManyWrong)

/-- 'laws.FnBlends': WHATEVER THE INPUT: true; the input reads as it did. -/
def fnBlendsSpec : ChangeSpec := { name := "fnBlends", fn := fun _ => fun
  | [d] => { results := [.lit (.bool true)], args := [d] }
  | _ => none }
def fnBlendsRow : OpenClaim := { program := "ytmmnkdjibdlcjaa", sum := "354cf0c4eb0e23b174fa44ee1d07fefc321cf02f3fdb594e002c9a89f202dea9", func := "loop.example/atomicspectra/laws.FnBlends", spec := "fnBlends", unfollowed := true, recurses := true, apart := false }
def FnBlendsSaid : Prop := fnBlendsRow.holds Try.pinned (OpenSpec.ofChange fnBlendsSpec)

/-- ITS FALSE NEIGHBOUR: 'it returns false'. Refute it at one input. -/
def fnBlendsWrong : ChangeSpec := { name := "fnBlends", fn := fun _ => fun
  | [d] => { results := [.lit (.bool false)], args := [d] }
  | _ => none }
def FnBlendsWrongFalsely : Prop := fnBlendsRow.holds Try.pinned (OpenSpec.ofChange fnBlendsWrong)

/-- 'laws.FnBlendsMore': WHATEVER THE INPUT: true; the input reads as it did. -/
def fnBlendsMoreSpec : ChangeSpec := { name := "fnBlendsMore", fn := fun _ => fun
  | [d] => { results := [.lit (.bool true)], args := [d] }
  | _ => none }
def fnBlendsMoreRow : OpenClaim := { program := "ytmmnkdjibdlcjaa", sum := "354cf0c4eb0e23b174fa44ee1d07fefc321cf02f3fdb594e002c9a89f202dea9", func := "loop.example/atomicspectra/laws.FnBlendsMore", spec := "fnBlendsMore", unfollowed := true, recurses := true, apart := false }
def FnBlendsMoreSaid : Prop := fnBlendsMoreRow.holds Try.pinned (OpenSpec.ofChange fnBlendsMoreSpec)

/-- ITS FALSE NEIGHBOUR: 'it returns false'. Refute it at one input. -/
def fnBlendsMoreWrong : ChangeSpec := { name := "fnBlendsMore", fn := fun _ => fun
  | [d] => { results := [.lit (.bool false)], args := [d] }
  | _ => none }
def FnBlendsMoreWrongFalsely : Prop := fnBlendsMoreRow.holds Try.pinned (OpenSpec.ofChange fnBlendsMoreWrong)

/-- 'laws.FnBlendsShift': WHATEVER THE INPUT: true; the input reads as it did. -/
def fnBlendsShiftSpec : ChangeSpec := { name := "fnBlendsShift", fn := fun _ => fun
  | [d] => { results := [.lit (.bool true)], args := [d] }
  | _ => none }
def fnBlendsShiftRow : OpenClaim := { program := "ytmmnkdjibdlcjaa", sum := "354cf0c4eb0e23b174fa44ee1d07fefc321cf02f3fdb594e002c9a89f202dea9", func := "loop.example/atomicspectra/laws.FnBlendsShift", spec := "fnBlendsShift", unfollowed := true, recurses := true, apart := false }
def FnBlendsShiftSaid : Prop := fnBlendsShiftRow.holds Try.pinned (OpenSpec.ofChange fnBlendsShiftSpec)

/-- ITS FALSE NEIGHBOUR: 'it returns false'. Refute it at one input. -/
def fnBlendsShiftWrong : ChangeSpec := { name := "fnBlendsShift", fn := fun _ => fun
  | [d] => { results := [.lit (.bool false)], args := [d] }
  | _ => none }
def FnBlendsShiftWrongFalsely : Prop := fnBlendsShiftRow.holds Try.pinned (OpenSpec.ofChange fnBlendsShiftWrong)

/-- 'laws.FnBlendMean': WHATEVER THE INPUT: true; the input reads as it did. -/
def fnBlendMeanSpec : ChangeSpec := { name := "fnBlendMean", fn := fun _ => fun
  | [d] => { results := [.lit (.bool true)], args := [d] }
  | _ => none }
def fnBlendMeanRow : OpenClaim := { program := "ytmmnkdjibdlcjaa", sum := "354cf0c4eb0e23b174fa44ee1d07fefc321cf02f3fdb594e002c9a89f202dea9", func := "loop.example/atomicspectra/laws.FnBlendMean", spec := "fnBlendMean", apart := false }
def FnBlendMeanSaid : Prop := fnBlendMeanRow.holds Try.pinned (OpenSpec.ofChange fnBlendMeanSpec)

/-- ITS FALSE NEIGHBOUR: 'it returns false'. Refute it at one input. -/
def fnBlendMeanWrong : ChangeSpec := { name := "fnBlendMean", fn := fun _ => fun
  | [d] => { results := [.lit (.bool false)], args := [d] }
  | _ => none }
def FnBlendMeanWrongFalsely : Prop := fnBlendMeanRow.holds Try.pinned (OpenSpec.ofChange fnBlendMeanWrong)

/- THE SECOND FORM. 'bulk': how many values and letters a reading holds, each counted each time it is reached (what is shared counts as often as it is met; a slice's spare places count too). A statement '..UptoSaid' is the law's where the arguments, and the package variables that the reading takes, are together of bulk at most 1048576: NARROWER than '..Said'. Prove '..Said' where nothing that the law and all that it calls make is longer than what came in: it says more and counts as full. Else prove '..UptoSaid'. A law counts once. -/
mutual
def uptoBulk {H : Type} : DataW H → Nat
  | .lit (.string bytes) => bytes.length + 1
  | .lit _ => 1
  | .nil => 1
  | .ptr d => uptoBulk d + 1
  | .slice elems spare => uptoBulkAll elems + uptoBulkAll spare + 1
  | .agg parts => uptoBulkAll parts + 1
  | .iface _ d => uptoBulk d + 1
  | .map entries => uptoBulkEntries entries + 1
  | .held _ => 1
def uptoBulkAll {H : Type} : List (DataW H) → Nat
  | [] => 0
  | d :: r => uptoBulk d + uptoBulkAll r
def uptoBulkEntries {H : Type} : List (Lit × DataW H) → Nat
  | [] => 0
  | x :: r => uptoBulkEntry x + uptoBulkEntries r
def uptoBulkEntry {H : Type} : Lit × DataW H → Nat
  | (.string bytes, d) => bytes.length + uptoBulk d + 1
  | (_, d) => uptoBulk d + 1
 end
def uptoSmall : (H : Type) → List (DataW H) → Bool := fun _ ds => decide (uptoBulkAll ds ≤ 1048576)
def OpenSpec.upto (s : _root_.Go.ChangeSpec) : _root_.Go.OpenSpec := { _root_.Go.OpenSpec.ofChange s with cond := some uptoSmall }

/-- 'laws.FnBlendsMany', WHERE WHAT IT READS IS OF BULK AT MOST 1048576: true; the input reads as it did. -/
def fnBlendsManyUptoRow : OpenClaim := { program := "ytmmnkdjibdlcjaa", sum := "354cf0c4eb0e23b174fa44ee1d07fefc321cf02f3fdb594e002c9a89f202dea9", func := "loop.example/atomicspectra/laws.FnBlendsMany", spec := "fnBlendsMany", unfollowed := true, recurses := true, apart := false, narrowed := true }
def FnBlendsManyUptoSaid : Prop := fnBlendsManyUptoRow.holds Try.pinned (OpenSpec.upto fnBlendsManySpec)

/-- 'laws.FnBlends', WHERE WHAT IT READS IS OF BULK AT MOST 1048576: true; the input reads as it did. -/
def fnBlendsUptoRow : OpenClaim := { program := "ytmmnkdjibdlcjaa", sum := "354cf0c4eb0e23b174fa44ee1d07fefc321cf02f3fdb594e002c9a89f202dea9", func := "loop.example/atomicspectra/laws.FnBlends", spec := "fnBlends", unfollowed := true, recurses := true, apart := false, narrowed := true }
def FnBlendsUptoSaid : Prop := fnBlendsUptoRow.holds Try.pinned (OpenSpec.upto fnBlendsSpec)

/-- 'laws.FnBlendsMore', WHERE WHAT IT READS IS OF BULK AT MOST 1048576: true; the input reads as it did. -/
def fnBlendsMoreUptoRow : OpenClaim := { program := "ytmmnkdjibdlcjaa", sum := "354cf0c4eb0e23b174fa44ee1d07fefc321cf02f3fdb594e002c9a89f202dea9", func := "loop.example/atomicspectra/laws.FnBlendsMore", spec := "fnBlendsMore", unfollowed := true, recurses := true, apart := false, narrowed := true }
def FnBlendsMoreUptoSaid : Prop := fnBlendsMoreUptoRow.holds Try.pinned (OpenSpec.upto fnBlendsMoreSpec)

/-- 'laws.FnBlendsShift', WHERE WHAT IT READS IS OF BULK AT MOST 1048576: true; the input reads as it did. -/
def fnBlendsShiftUptoRow : OpenClaim := { program := "ytmmnkdjibdlcjaa", sum := "354cf0c4eb0e23b174fa44ee1d07fefc321cf02f3fdb594e002c9a89f202dea9", func := "loop.example/atomicspectra/laws.FnBlendsShift", spec := "fnBlendsShift", unfollowed := true, recurses := true, apart := false, narrowed := true }
def FnBlendsShiftUptoSaid : Prop := fnBlendsShiftUptoRow.holds Try.pinned (OpenSpec.upto fnBlendsShiftSpec)

/-- 'laws.FnBlendMean', WHERE WHAT IT READS IS OF BULK AT MOST 1048576: true; the input reads as it did. -/
def fnBlendMeanUptoRow : OpenClaim := { program := "ytmmnkdjibdlcjaa", sum := "354cf0c4eb0e23b174fa44ee1d07fefc321cf02f3fdb594e002c9a89f202dea9", func := "loop.example/atomicspectra/laws.FnBlendMean", spec := "fnBlendMean", apart := false, narrowed := true }
def FnBlendMeanUptoSaid : Prop := fnBlendMeanUptoRow.holds Try.pinned (OpenSpec.upto fnBlendMeanSpec)

end Rows
end Go.Proofs.Ytmmnkdjibdlcjaa
