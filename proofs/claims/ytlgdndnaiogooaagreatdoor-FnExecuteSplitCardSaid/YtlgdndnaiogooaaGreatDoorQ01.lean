/- Parts of the proof of : T0 After. -/
import Derived.Test.YtlgdndnaiogooaaGreatDoorRows
import Derived.Test.YtlgdndnaiogooaaGreatDoorQ00
import Derived.WalkSpells
import Derived.WalkLawsBesides
import Derived.BigQuiet
set_option maxHeartbeats 20000000
set_option maxRecDepth 1000000
set_option linter.unusedSimpArgs false
set_option linter.unusedVariables false
namespace Go.Proofs.YtlgdndnaiogooaaGreatDoor
section
open Go.RowKit
abbrev T2:=Int × Int
def inB (n lo hi:Int):Bool:=decide (lo≤n) && decide (n≤hi)
theorem inB_iff {n lo hi:Int}:inB n lo hi=true↔lo≤n∧n≤hi:=by simp [inB]
theorem inB_not {n lo hi:Int}:inB n lo hi=false↔n<lo∨hi<n:=by
 rw [←Bool.not_eq_true,inB_iff];omega
theorem ret_bool {a b:Bool} (h:a=b):Ending.returned (.bool a)=.returned (.bool b):=by rw [h]
theorem ret_int {k:IntKind} {a b:Int} (h:a=b):Ending.returned (.int k a)=.returned (.int k b):=by rw [h]
theorem l6In_any (n lo hi:Int) (w:World) :
 Calls Tryz.prog 49 #[.int .i64 n,.int .i64 lo,.int .i64 hi] w fun e w'=>e=.returned (.bool (inB n lo hi))∧w=w':=by
 go_enter Tryz.func49,Tryz.ntmps49
 go_wp2
 all_goals
  go_ret
  exact ⟨ret_bool (by simp [inB, *] <;> omega),rfl⟩
end
section
open Go.RowKit
structure After (w:World) where
 w':World
 below:Below w.heap.size w w'
instance (w:World):Inhabited (After w):=⟨⟨w,Below.refl _ w⟩⟩
theorem After.cell {w:World} {a:Addr} {v:Value} (h:w.cell? a=some v) (p:After w):p.w'.cell? a=some v :=
 (p.below.cell (World.block_lt_of_cell? _ _ h)).trans h
theorem After.frozen {w:World} {a:Addr} {b:Bool} (hb:a.block<w.heap.size) (h:w.frozen? a=b) (p:After w):p.w'.frozen? a=b:=by
 rw [←h]
 unfold World.frozen?
 rw [p.below.block _ hb]
theorem wp_region_after {P:Program} {id:Nat} {Q:Exit→Act→World→Prop} {a:Act} {w:World} {l:List Oper} (hm:P.follows .mixedOrders=true) (hB:Region.lexB .any l.toArray=true)
 (h:wpQuiet P l.toArray (fun w'=>∃p:After w,w'=p.w') (fun a'=>∀w',(∃p:After w,w'=p.w')→Q .normal a' w') l a):(Code.region id l.toArray true).wp P Q a w :=
 wp_region_quiet (C:=fun w'=>∃p:After w,w'=p.w') hm hB ⟨⟨w.drew,(Below.refl _ w).drew⟩,rfl⟩ (by simpa using h)
theorem after_call {P:Program} {f:FuncId} {args:Array Value} {w:World} {v:Value} (p:After w)
 (h:Calls P f args p.w' fun e w'=>e=.returned v∧Below p.w'.heap.size p.w' w'):Calls P f args p.w' fun e w''=>e=.returned v∧∃q:After w,w''=q.w' :=
 h.mono fun _ _ ⟨he,hb⟩=>⟨he,⟨_,p.below.trans (hb.mono p.below.size)⟩,rfl⟩
theorem after_same {P:Program} {f:FuncId} {args:Array Value} {w:World} {v:Value} (p:After w)
 (h:Calls P f args p.w' fun e w'=>e=.returned v∧p.w'=w'):Calls P f args p.w' fun e w''=>e=.returned v∧∃q:After w,w''=q.w' :=
 h.mono fun _ _ ⟨he,hb⟩=>⟨he,p,hb.symm⟩
end
end Go.Proofs.YtlgdndnaiogooaaGreatDoor
