/- Parts of the proof of : Sf. -/
import Derived.Test.YtammfhheibaeaaaGreatDoorQ16
set_option maxHeartbeats 20000000
set_option maxRecDepth 1000000
set_option linter.unusedSimpArgs false
set_option linter.unusedVariables false
namespace Go.Proofs.YtammfhheibaeaaaGreatDoor
section
open Go.RowKit Go.Lib
attribute [local go_sem ↓] Go.wp_at_zero Go.wp_at_succ
theorem as_nil (t:Value) (w:World) :
 Calls Tryz.prog 17 #[.nilIface,t] w fun e w'=>e=.returned (.bool false)∧w'=w:=by
 go_enter Tryz.func17,Tryz.ntmps17
 go_wp2
 go_ret
 exact ⟨rfl,rfl⟩
theorem SchemeFrom_any (ns:List T3) (w:World) (ht:Tab w) (hm:Mx w) (h:svB ns=true) :
 Calls Tryz.prog 6 #[.string (bs (scT ns))] w fun en w'=>(∃(A:Option Addr) (c:Nat),en=.returned (.tuple #[.slice A ns.length c,.bool true])∧ns.length≤c∧Reads w' w'.heap.size 3 A ns.length (ncells ns)∧w'.ownsRow w.heap.size 34 3 (.slice A ns.length c) ns.length (ncells ns))∧Below w.heap.size w w':=by
 have HC:=Lib.hid (parseScheme_any ns w ht hm h)
 clear ht hm h
 generalize bs (scT ns)=L at *
 go_enter Tryz.func6,Tryz.ntmps6
 go_wp2_with fail
 refine HC.out.mono ?_
 rintro en w1 ⟨⟨A,c,rfl,hc,hr,ho⟩,hb1⟩
 have HO:=Lib.hid ho;clear ho
 have HR:=Lib.hid hr;clear hr
 have HB:=Lib.hid hb1;clear hb1 HC
 go_wp2_with fail
 refine (as_nil _ _).mono ?_
 rintro en w2 ⟨rfl,rfl⟩
 go_wp2_with fail
 go_ret2
 exact ⟨⟨A,c,rfl,hc,(HR.out.below ((Below.refl w1.heap.size w1).alloc (Nat.le_refl _) _)).more (by simp),HO.out.alloc _⟩,HB.out.alloc HB.out.size _⟩
end
end Go.Proofs.YtammfhheibaeaaaGreatDoor
