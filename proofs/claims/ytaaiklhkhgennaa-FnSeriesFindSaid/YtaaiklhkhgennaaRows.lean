/-
  No cell of these rows narrows 'for every input' (looked for: loops, veiled, ifaces, maps, wideKeys, modest, calm, conditions, laid).
  DERIVED. THE GIVEN ROWS OF THIS SEAT. 12 by the template 'for every input the law returns true; each argument reads behind the call as it read before'; 0 by the template 'total and deterministic' (their statements: YtaaiklhkhgennaaTotals.lean).
  GIVEN WITH THE SEED: the statements are not yours to turn. If you find one false, say at which input.
  Laid BY PROGRAM, IN A SANDBOX (cutbox-rows.mjs): the forced cells as the released guide's own fill.sh prints them over the translation 6d6d9af4108b4a76… (all of the seat's roots in one cut). By AI agents, Wed Nov 11 2026. No macro, syntax, notation, axiom, sorry.
-/
import Derived.Test.YtaaiklhkhgennaaChecked
import GoSem.Claim
import GoSem.ClaimJoined
import GoSem.ClaimMapViews
import Derived.JoinedTies
import Derived.KernelRfl
namespace Go.Proofs.Ytaaiklhkhgennaa
/- THE CELL 'sum', in the pinned program and in every row, IS THE sha256 OF THE DUMP (.gsa) THAT YtaaiklhkhgennaaProg.lean LOADS. Nothing in Lean hashes anything: it is a label: what it is worth is what the hold of that sum in a sandbox is worth. -/
noncomputable def Try.pinned : Pinned := { name := "ytaaiklhkhgennaa", sum := "6d6d9af4108b4a764ce5b2b2c4855d0681401afbc13c4e103322adccddf600f8", checked := Try.checked }
namespace Rows
def none {H : Type} : Left H := { results := [], args := [] }

/-- 'laws.FnExactSeriesLine': WHATEVER THE INPUT: true; the input reads as it did. -/
def fnExactSeriesLineSpec : ChangeSpec := { name := "fnExactSeriesLine", fn := fun _ => fun
  | [d1, d2] => { results := [.lit (.bool true)], args := [d1, d2] }
  | _ => none }
def fnExactSeriesLineRow : OpenClaim := { program := "ytaaiklhkhgennaa", sum := "6d6d9af4108b4a764ce5b2b2c4855d0681401afbc13c4e103322adccddf600f8", func := "loop.example/atomicspectra/laws.FnExactSeriesLine", spec := "fnExactSeriesLine", apart := false }
def FnExactSeriesLineSaid : Prop := fnExactSeriesLineRow.holds Try.pinned (OpenSpec.ofChange fnExactSeriesLineSpec)

/-- ITS FALSE NEIGHBOUR: 'it returns false'. Refute it at one input. -/
def fnExactSeriesLineWrong : ChangeSpec := { name := "fnExactSeriesLine", fn := fun _ => fun
  | [d1, d2] => { results := [.lit (.bool false)], args := [d1, d2] }
  | _ => none }
def FnExactSeriesLineWrongFalsely : Prop := fnExactSeriesLineRow.holds Try.pinned (OpenSpec.ofChange fnExactSeriesLineWrong)

/-- 'laws.FnExactSeriesFind': WHATEVER THE INPUT: true; the input reads as it did. -/
def fnExactSeriesFindSpec : ChangeSpec := { name := "fnExactSeriesFind", fn := fun _ => fun
  | [d] => { results := [.lit (.bool true)], args := [d] }
  | _ => none }
def fnExactSeriesFindRow : OpenClaim := { program := "ytaaiklhkhgennaa", sum := "6d6d9af4108b4a764ce5b2b2c4855d0681401afbc13c4e103322adccddf600f8", func := "loop.example/atomicspectra/laws.FnExactSeriesFind", spec := "fnExactSeriesFind", apart := false }
def FnExactSeriesFindSaid : Prop := fnExactSeriesFindRow.holds Try.pinned (OpenSpec.ofChange fnExactSeriesFindSpec)

/-- ITS FALSE NEIGHBOUR: 'it returns false'. Refute it at one input. -/
def fnExactSeriesFindWrong : ChangeSpec := { name := "fnExactSeriesFind", fn := fun _ => fun
  | [d] => { results := [.lit (.bool false)], args := [d] }
  | _ => none }
def FnExactSeriesFindWrongFalsely : Prop := fnExactSeriesFindRow.holds Try.pinned (OpenSpec.ofChange fnExactSeriesFindWrong)

/-- 'laws.FnSeriesDouble': WHATEVER THE INPUT: true; the input reads as it did. -/
def fnSeriesDoubleSpec : ChangeSpec := { name := "fnSeriesDouble", fn := fun _ => fun
  | [d] => { results := [.lit (.bool true)], args := [d] }
  | _ => none }
def fnSeriesDoubleRow : OpenClaim := { program := "ytaaiklhkhgennaa", sum := "6d6d9af4108b4a764ce5b2b2c4855d0681401afbc13c4e103322adccddf600f8", func := "loop.example/atomicspectra/laws.FnSeriesDouble", spec := "fnSeriesDouble", apart := false }
def FnSeriesDoubleSaid : Prop := fnSeriesDoubleRow.holds Try.pinned (OpenSpec.ofChange fnSeriesDoubleSpec)

/-- ITS FALSE NEIGHBOUR: 'it returns false'. Refute it at one input. -/
def fnSeriesDoubleWrong : ChangeSpec := { name := "fnSeriesDouble", fn := fun _ => fun
  | [d] => { results := [.lit (.bool false)], args := [d] }
  | _ => none }
def FnSeriesDoubleWrongFalsely : Prop := fnSeriesDoubleRow.holds Try.pinned (OpenSpec.ofChange fnSeriesDoubleWrong)

/-- 'laws.FnSeriesSum': WHATEVER THE INPUT: true; the input reads as it did. -/
def fnSeriesSumSpec : ChangeSpec := { name := "fnSeriesSum", fn := fun _ => fun
  | [d1, d2] => { results := [.lit (.bool true)], args := [d1, d2] }
  | _ => none }
def fnSeriesSumRow : OpenClaim := { program := "ytaaiklhkhgennaa", sum := "6d6d9af4108b4a764ce5b2b2c4855d0681401afbc13c4e103322adccddf600f8", func := "loop.example/atomicspectra/laws.FnSeriesSum", spec := "fnSeriesSum", apart := false }
def FnSeriesSumSaid : Prop := fnSeriesSumRow.holds Try.pinned (OpenSpec.ofChange fnSeriesSumSpec)

/-- ITS FALSE NEIGHBOUR: 'it returns false'. Refute it at one input. -/
def fnSeriesSumWrong : ChangeSpec := { name := "fnSeriesSum", fn := fun _ => fun
  | [d1, d2] => { results := [.lit (.bool false)], args := [d1, d2] }
  | _ => none }
def FnSeriesSumWrongFalsely : Prop := fnSeriesSumRow.holds Try.pinned (OpenSpec.ofChange fnSeriesSumWrong)

/-- 'laws.FnSeriesFindLine': WHATEVER THE INPUT: true; the input reads as it did. -/
def fnSeriesFindLineSpec : ChangeSpec := { name := "fnSeriesFindLine", fn := fun _ => fun
  | [d] => { results := [.lit (.bool true)], args := [d] }
  | _ => none }
def fnSeriesFindLineRow : OpenClaim := { program := "ytaaiklhkhgennaa", sum := "6d6d9af4108b4a764ce5b2b2c4855d0681401afbc13c4e103322adccddf600f8", func := "loop.example/atomicspectra/laws.FnSeriesFindLine", spec := "fnSeriesFindLine", apart := false }
def FnSeriesFindLineSaid : Prop := fnSeriesFindLineRow.holds Try.pinned (OpenSpec.ofChange fnSeriesFindLineSpec)

/-- ITS FALSE NEIGHBOUR: 'it returns false'. Refute it at one input. -/
def fnSeriesFindLineWrong : ChangeSpec := { name := "fnSeriesFindLine", fn := fun _ => fun
  | [d] => { results := [.lit (.bool false)], args := [d] }
  | _ => none }
def FnSeriesFindLineWrongFalsely : Prop := fnSeriesFindLineRow.holds Try.pinned (OpenSpec.ofChange fnSeriesFindLineWrong)

/-- 'laws.FnSeries': WHATEVER THE INPUT: true; the input reads as it did. -/
def fnSeriesSpec : ChangeSpec := { name := "fnSeries", fn := fun _ => fun
  | [d] => { results := [.lit (.bool true)], args := [d] }
  | _ => none }
def fnSeriesRow : OpenClaim := { program := "ytaaiklhkhgennaa", sum := "6d6d9af4108b4a764ce5b2b2c4855d0681401afbc13c4e103322adccddf600f8", func := "loop.example/atomicspectra/laws.FnSeries", spec := "fnSeries", apart := false }
def FnSeriesSaid : Prop := fnSeriesRow.holds Try.pinned (OpenSpec.ofChange fnSeriesSpec)

/-- ITS FALSE NEIGHBOUR: 'it returns false'. Refute it at one input. -/
def fnSeriesWrong : ChangeSpec := { name := "fnSeries", fn := fun _ => fun
  | [d] => { results := [.lit (.bool false)], args := [d] }
  | _ => none }
def FnSeriesWrongFalsely : Prop := fnSeriesRow.holds Try.pinned (OpenSpec.ofChange fnSeriesWrong)

/-- 'laws.FnSeriesOrder': WHATEVER THE INPUT: true; the input reads as it did. -/
def fnSeriesOrderSpec : ChangeSpec := { name := "fnSeriesOrder", fn := fun _ => fun
  | [d1, d2] => { results := [.lit (.bool true)], args := [d1, d2] }
  | _ => none }
def fnSeriesOrderRow : OpenClaim := { program := "ytaaiklhkhgennaa", sum := "6d6d9af4108b4a764ce5b2b2c4855d0681401afbc13c4e103322adccddf600f8", func := "loop.example/atomicspectra/laws.FnSeriesOrder", spec := "fnSeriesOrder", apart := false }
def FnSeriesOrderSaid : Prop := fnSeriesOrderRow.holds Try.pinned (OpenSpec.ofChange fnSeriesOrderSpec)

/-- ITS FALSE NEIGHBOUR: 'it returns false'. Refute it at one input. -/
def fnSeriesOrderWrong : ChangeSpec := { name := "fnSeriesOrder", fn := fun _ => fun
  | [d1, d2] => { results := [.lit (.bool false)], args := [d1, d2] }
  | _ => none }
def FnSeriesOrderWrongFalsely : Prop := fnSeriesOrderRow.holds Try.pinned (OpenSpec.ofChange fnSeriesOrderWrong)

/-- 'laws.FnExactSeriesMany': WHATEVER THE INPUT: true; the input reads as it did. -/
def fnExactSeriesManySpec : ChangeSpec := { name := "fnExactSeriesMany", fn := fun _ => fun
  | [d1, d2] => { results := [.lit (.bool true)], args := [d1, d2] }
  | _ => none }
def fnExactSeriesManyRow : OpenClaim := { program := "ytaaiklhkhgennaa", sum := "6d6d9af4108b4a764ce5b2b2c4855d0681401afbc13c4e103322adccddf600f8", func := "loop.example/atomicspectra/laws.FnExactSeriesMany", spec := "fnExactSeriesMany", unfollowed := true, recurses := true, apart := false }
def FnExactSeriesManySaid : Prop := fnExactSeriesManyRow.holds Try.pinned (OpenSpec.ofChange fnExactSeriesManySpec)

/-- ITS FALSE NEIGHBOUR: 'it returns false'. Refute it at one input. -/
def fnExactSeriesManyWrong : ChangeSpec := { name := "fnExactSeriesMany", fn := fun _ => fun
  | [d1, d2] => { results := [.lit (.bool false)], args := [d1, d2] }
  | _ => none }
def FnExactSeriesManyWrongFalsely : Prop := fnExactSeriesManyRow.holds Try.pinned (OpenSpec.ofChange fnExactSeriesManyWrong)

/-- 'laws.FnSeriesRises': WHATEVER THE INPUT: true; the input reads as it did. -/
def fnSeriesRisesSpec : ChangeSpec := { name := "fnSeriesRises", fn := fun _ => fun
  | [d] => { results := [.lit (.bool true)], args := [d] }
  | _ => none }
def fnSeriesRisesRow : OpenClaim := { program := "ytaaiklhkhgennaa", sum := "6d6d9af4108b4a764ce5b2b2c4855d0681401afbc13c4e103322adccddf600f8", func := "loop.example/atomicspectra/laws.FnSeriesRises", spec := "fnSeriesRises", apart := false }
def FnSeriesRisesSaid : Prop := fnSeriesRisesRow.holds Try.pinned (OpenSpec.ofChange fnSeriesRisesSpec)

/-- ITS FALSE NEIGHBOUR: 'it returns false'. Refute it at one input. -/
def fnSeriesRisesWrong : ChangeSpec := { name := "fnSeriesRises", fn := fun _ => fun
  | [d] => { results := [.lit (.bool false)], args := [d] }
  | _ => none }
def FnSeriesRisesWrongFalsely : Prop := fnSeriesRisesRow.holds Try.pinned (OpenSpec.ofChange fnSeriesRisesWrong)

/-- 'laws.FnSeriesFind': WHATEVER THE INPUT: true; the input reads as it did. -/
def fnSeriesFindSpec : ChangeSpec := { name := "fnSeriesFind", fn := fun _ => fun
  | [d] => { results := [.lit (.bool true)], args := [d] }
  | _ => none }
def fnSeriesFindRow : OpenClaim := { program := "ytaaiklhkhgennaa", sum := "6d6d9af4108b4a764ce5b2b2c4855d0681401afbc13c4e103322adccddf600f8", func := "loop.example/atomicspectra/laws.FnSeriesFind", spec := "fnSeriesFind", apart := false }
def FnSeriesFindSaid : Prop := fnSeriesFindRow.holds Try.pinned (OpenSpec.ofChange fnSeriesFindSpec)

/-- ITS FALSE NEIGHBOUR: 'it returns false'. Refute it at one input. -/
def fnSeriesFindWrong : ChangeSpec := { name := "fnSeriesFind", fn := fun _ => fun
  | [d] => { results := [.lit (.bool false)], args := [d] }
  | _ => none }
def FnSeriesFindWrongFalsely : Prop := fnSeriesFindRow.holds Try.pinned (OpenSpec.ofChange fnSeriesFindWrong)

/-- 'laws.FnSeriesLimit': WHATEVER THE INPUT: true; the input reads as it did. -/
def fnSeriesLimitSpec : ChangeSpec := { name := "fnSeriesLimit", fn := fun _ => fun
  | [d] => { results := [.lit (.bool true)], args := [d] }
  | _ => none }
def fnSeriesLimitRow : OpenClaim := { program := "ytaaiklhkhgennaa", sum := "6d6d9af4108b4a764ce5b2b2c4855d0681401afbc13c4e103322adccddf600f8", func := "loop.example/atomicspectra/laws.FnSeriesLimit", spec := "fnSeriesLimit", unfollowed := true, recurses := true, apart := false }
def FnSeriesLimitSaid : Prop := fnSeriesLimitRow.holds Try.pinned (OpenSpec.ofChange fnSeriesLimitSpec)

/-- ITS FALSE NEIGHBOUR: 'it returns false'. Refute it at one input. -/
def fnSeriesLimitWrong : ChangeSpec := { name := "fnSeriesLimit", fn := fun _ => fun
  | [d] => { results := [.lit (.bool false)], args := [d] }
  | _ => none }
def FnSeriesLimitWrongFalsely : Prop := fnSeriesLimitRow.holds Try.pinned (OpenSpec.ofChange fnSeriesLimitWrong)

/-- 'laws.FnSeriesMany': WHATEVER THE INPUT: true; the input reads as it did. -/
def fnSeriesManySpec : ChangeSpec := { name := "fnSeriesMany", fn := fun _ => fun
  | [d] => { results := [.lit (.bool true)], args := [d] }
  | _ => none }
def fnSeriesManyRow : OpenClaim := { program := "ytaaiklhkhgennaa", sum := "6d6d9af4108b4a764ce5b2b2c4855d0681401afbc13c4e103322adccddf600f8", func := "loop.example/atomicspectra/laws.FnSeriesMany", spec := "fnSeriesMany", unfollowed := true, recurses := true, apart := false }
def FnSeriesManySaid : Prop := fnSeriesManyRow.holds Try.pinned (OpenSpec.ofChange fnSeriesManySpec)

/-- ITS FALSE NEIGHBOUR: 'it returns false'. Refute it at one input. -/
def fnSeriesManyWrong : ChangeSpec := { name := "fnSeriesMany", fn := fun _ => fun
  | [d] => { results := [.lit (.bool false)], args := [d] }
  | _ => none }
def FnSeriesManyWrongFalsely : Prop := fnSeriesManyRow.holds Try.pinned (OpenSpec.ofChange fnSeriesManyWrong)

/- THE SECOND FORM. 'bulk': how many values and letters a reading holds, each counted each time it is reached (what is shared counts as often as it is met; a slice's spare places count too). A statement '..UptoSaid' is the law's where the arguments, and the package variables that the reading takes, are together of bulk at most 1048576: NARROWER than '..Said'. Prove '..Said' where nothing that the law and all that it calls make is longer than what came in: it says more and counts as full. Else prove '..UptoSaid'. A law counts once. -/
mutual
def uptoBulk {H : Type} : DataW H → Nat
  | .lit (.string bytes) => bytes.length + 1
  | .lit _ => 1
  | .nil => 1
  | .ptr d => uptoBulk d + 1
  | .slice elems spare => uptoBulkAll elems + uptoBulkAll spare + 1
  | .agg parts => uptoBulkAll parts + 1
  | .iface _ d => uptoBulk d + 1
  | .map entries => uptoBulkEntries entries + 1
  | .held _ => 1
def uptoBulkAll {H : Type} : List (DataW H) → Nat
  | [] => 0
  | d :: r => uptoBulk d + uptoBulkAll r
def uptoBulkEntries {H : Type} : List (Lit × DataW H) → Nat
  | [] => 0
  | x :: r => uptoBulkEntry x + uptoBulkEntries r
def uptoBulkEntry {H : Type} : Lit × DataW H → Nat
  | (.string bytes, d) => bytes.length + uptoBulk d + 1
  | (_, d) => uptoBulk d + 1
 end
def uptoSmall : (H : Type) → List (DataW H) → Bool := fun _ ds => decide (uptoBulkAll ds ≤ 1048576)
def OpenSpec.upto (s : _root_.Go.ChangeSpec) : _root_.Go.OpenSpec := { _root_.Go.OpenSpec.ofChange s with cond := some uptoSmall }

/-- 'laws.FnExactSeriesLine', WHERE WHAT IT READS IS OF BULK AT MOST 1048576: true; the input reads as it did. -/
def fnExactSeriesLineUptoRow : OpenClaim := { program := "ytaaiklhkhgennaa", sum := "6d6d9af4108b4a764ce5b2b2c4855d0681401afbc13c4e103322adccddf600f8", func := "loop.example/atomicspectra/laws.FnExactSeriesLine", spec := "fnExactSeriesLine", apart := false, narrowed := true }
def FnExactSeriesLineUptoSaid : Prop := fnExactSeriesLineUptoRow.holds Try.pinned (OpenSpec.upto fnExactSeriesLineSpec)

/-- 'laws.FnExactSeriesFind', WHERE WHAT IT READS IS OF BULK AT MOST 1048576: true; the input reads as it did. -/
def fnExactSeriesFindUptoRow : OpenClaim := { program := "ytaaiklhkhgennaa", sum := "6d6d9af4108b4a764ce5b2b2c4855d0681401afbc13c4e103322adccddf600f8", func := "loop.example/atomicspectra/laws.FnExactSeriesFind", spec := "fnExactSeriesFind", apart := false, narrowed := true }
def FnExactSeriesFindUptoSaid : Prop := fnExactSeriesFindUptoRow.holds Try.pinned (OpenSpec.upto fnExactSeriesFindSpec)

/-- 'laws.FnSeriesDouble', WHERE WHAT IT READS IS OF BULK AT MOST 1048576: true; the input reads as it did. -/
def fnSeriesDoubleUptoRow : OpenClaim := { program := "ytaaiklhkhgennaa", sum := "6d6d9af4108b4a764ce5b2b2c4855d0681401afbc13c4e103322adccddf600f8", func := "loop.example/atomicspectra/laws.FnSeriesDouble", spec := "fnSeriesDouble", apart := false, narrowed := true }
def FnSeriesDoubleUptoSaid : Prop := fnSeriesDoubleUptoRow.holds Try.pinned (OpenSpec.upto fnSeriesDoubleSpec)

/-- 'laws.FnSeriesSum', WHERE WHAT IT READS IS OF BULK AT MOST 1048576: true; the input reads as it did. -/
def fnSeriesSumUptoRow : OpenClaim := { program := "ytaaiklhkhgennaa", sum := "6d6d9af4108b4a764ce5b2b2c4855d0681401afbc13c4e103322adccddf600f8", func := "loop.example/atomicspectra/laws.FnSeriesSum", spec := "fnSeriesSum", apart := false, narrowed := true }
def FnSeriesSumUptoSaid : Prop := fnSeriesSumUptoRow.holds Try.pinned (OpenSpec.upto fnSeriesSumSpec)

/-- 'laws.FnSeriesFindLine', WHERE WHAT IT READS IS OF BULK AT MOST 1048576: true; the input reads as it did. -/
def fnSeriesFindLineUptoRow : OpenClaim := { program := "ytaaiklhkhgennaa", sum := "6d6d9af4108b4a764ce5b2b2c4855d0681401afbc13c4e103322adccddf600f8", func := "loop.example/atomicspectra/laws.FnSeriesFindLine", spec := "fnSeriesFindLine", apart := false, narrowed := true }
def FnSeriesFindLineUptoSaid : Prop := fnSeriesFindLineUptoRow.holds Try.pinned (OpenSpec.upto fnSeriesFindLineSpec)

/-- 'laws.FnSeries', WHERE WHAT IT READS IS OF BULK AT MOST 1048576: true; the input reads as it did. -/
def fnSeriesUptoRow : OpenClaim := { program := "ytaaiklhkhgennaa", sum := "6d6d9af4108b4a764ce5b2b2c4855d0681401afbc13c4e103322adccddf600f8", func := "loop.example/atomicspectra/laws.FnSeries", spec := "fnSeries", apart := false, narrowed := true }
def FnSeriesUptoSaid : Prop := fnSeriesUptoRow.holds Try.pinned (OpenSpec.upto fnSeriesSpec)

/-- 'laws.FnSeriesOrder', WHERE WHAT IT READS IS OF BULK AT MOST 1048576: true; the input reads as it did. -/
def fnSeriesOrderUptoRow : OpenClaim := { program := "ytaaiklhkhgennaa", sum := "6d6d9af4108b4a764ce5b2b2c4855d0681401afbc13c4e103322adccddf600f8", func := "loop.example/atomicspectra/laws.FnSeriesOrder", spec := "fnSeriesOrder", apart := false, narrowed := true }
def FnSeriesOrderUptoSaid : Prop := fnSeriesOrderUptoRow.holds Try.pinned (OpenSpec.upto fnSeriesOrderSpec)

/-- 'laws.FnExactSeriesMany', WHERE WHAT IT READS IS OF BULK AT MOST 1048576: true; the input reads as it did. -/
def fnExactSeriesManyUptoRow : OpenClaim := { program := "ytaaiklhkhgennaa", sum := "6d6d9af4108b4a764ce5b2b2c4855d0681401afbc13c4e103322adccddf600f8", func := "loop.example/atomicspectra/laws.FnExactSeriesMany", spec := "fnExactSeriesMany", unfollowed := true, recurses := true, apart := false, narrowed := true }
def FnExactSeriesManyUptoSaid : Prop := fnExactSeriesManyUptoRow.holds Try.pinned (OpenSpec.upto fnExactSeriesManySpec)

/-- 'laws.FnSeriesRises', WHERE WHAT IT READS IS OF BULK AT MOST 1048576: true; the input reads as it did. -/
def fnSeriesRisesUptoRow : OpenClaim := { program := "ytaaiklhkhgennaa", sum := "6d6d9af4108b4a764ce5b2b2c4855d0681401afbc13c4e103322adccddf600f8", func := "loop.example/atomicspectra/laws.FnSeriesRises", spec := "fnSeriesRises", apart := false, narrowed := true }
def FnSeriesRisesUptoSaid : Prop := fnSeriesRisesUptoRow.holds Try.pinned (OpenSpec.upto fnSeriesRisesSpec)

/-- 'laws.FnSeriesFind', WHERE WHAT IT READS IS OF BULK AT MOST 1048576: true; the input reads as it did. -/
def fnSeriesFindUptoRow : OpenClaim := { program := "ytaaiklhkhgennaa", sum := "6d6d9af4108b4a764ce5b2b2c4855d0681401afbc13c4e103322adccddf600f8", func := "loop.example/atomicspectra/laws.FnSeriesFind", spec := "fnSeriesFind", apart := false, narrowed := true }
def FnSeriesFindUptoSaid : Prop := fnSeriesFindUptoRow.holds Try.pinned (OpenSpec.upto fnSeriesFindSpec)

/-- 'laws.FnSeriesLimit', WHERE WHAT IT READS IS OF BULK AT MOST 1048576: true; the input reads as it did. -/
def fnSeriesLimitUptoRow : OpenClaim := { program := "ytaaiklhkhgennaa", sum := "6d6d9af4108b4a764ce5b2b2c4855d0681401afbc13c4e103322adccddf600f8", func := "loop.example/atomicspectra/laws.FnSeriesLimit", spec := "fnSeriesLimit", unfollowed := true, recurses := true, apart := false, narrowed := true }
def FnSeriesLimitUptoSaid : Prop := fnSeriesLimitUptoRow.holds Try.pinned (OpenSpec.upto fnSeriesLimitSpec)

/-- 'laws.FnSeriesMany', WHERE WHAT IT READS IS OF BULK AT MOST 1048576: true; the input reads as it did. -/
def fnSeriesManyUptoRow : OpenClaim := { program := "ytaaiklhkhgennaa", sum := "6d6d9af4108b4a764ce5b2b2c4855d0681401afbc13c4e103322adccddf600f8", func := "loop.example/atomicspectra/laws.FnSeriesMany", spec := "fnSeriesMany", unfollowed := true, recurses := true, apart := false, narrowed := true }
def FnSeriesManyUptoSaid : Prop := fnSeriesManyUptoRow.holds Try.pinned (OpenSpec.upto fnSeriesManySpec)

end Rows
end Go.Proofs.Ytaaiklhkhgennaa
