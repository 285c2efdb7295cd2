/- Parts of the proof of : Sc4. -/
import Derived.Test.YtammfhheibaeaaaGreatDoorQ08
import Derived.Test.YtammfhheibaeaaaGreatDoorQ14
import Derived.Deep.RegionHeld3
set_option maxHeartbeats 20000000
set_option maxRecDepth 1000000
set_option linter.unusedSimpArgs false
set_option linter.unusedVariables false
namespace Go.Proofs.YtammfhheibaeaaaGreatDoor
section
open Go.RowKit
attribute [local go_sem ↓] Go.wp_at_zero Go.wp_at_succ
theorem elNode:ElemOk Tryz.prog 22 34 3 24:=elemOk Tryz.underlying22 (z:=.agg #[.int .i64 0,.int .i64 0,.bool false]) (by kernel_rfl) rfl (by omega)
theorem eqNode_same (a b:Int) (o:Bool) (w:World) :
 Calls Tryz.prog 18 #[.agg #[.int .i64 a,.int .i64 b,.bool o],.agg #[.int .i64 a,.int .i64 b,.bool o]] w fun e w'=>e=.returned (.bool true)∧Below w.heap.size w w':=by
 have hB:∀o1 o2,Below w.heap.size w ((w.alloc o1).alloc o2):=fun o1 o2=>(((Below.refl _ _).alloc (Nat.le_refl _) _).alloc (by simp) _)
 have HB:=Lib.hid hB;clear hB
 go_enter Tryz.func18,Tryz.ntmps18
 go_wp2_with fail
 go_ret
 exact ⟨rfl,HB.out _ _⟩
theorem gN_take (ns:List T3) {k:Nat} (h:k<ns.length):ns.take (k+1)=ns.take k++[gN ns k]:=by
 rw [List.take_succ_eq_append_getElem h];simp [gN,h]
theorem eqNodeS_any (A A':Option Addr) (n c c':Nat) (ns:List T3) (w:World) (hn:n≤1048576) (hr:Reads w w.heap.size 3 A n (ncells ns)) (hr':Reads w w.heap.size 3 A' n (ncells ns)) :
 Calls Tryz.prog 7 #[.slice A n c,.slice A' n c'] w fun e w'=>e=.returned (.bool true)∧Below w.heap.size w w':=by
 have HR:=Lib.hid hr;clear hr
 have HR':=Lib.hid hr';clear hr'
 have hB0:=Below.refl w.heap.size w
 go_enter Tryz.func7,Tryz.ntmps7
 go_wp2_with fail
 go_loopw [5] (fun i wr=>∃(k:Nat),k≤n∧i=.int .i64 k∧Below w.heap.size w wr) (fun i _=>n-(intOf i).toNat)
 case atStart=>exact ⟨0,Nat.zero_le _,rfl,hB0⟩
 case round =>
  clear hB0
  obtain ⟨k,hk,rfl,hB⟩:=hrel
  have HB:=Lib.hid hB;clear hB
  by_cases hlt:k<n
  ·obtain ⟨b,off,rfl,hb,h1,h2,h3⟩:=(HR.out.below HB.out).node hlt
   obtain ⟨b',off',rfl,hb',h1',h2',h3'⟩:=(HR'.out.below HB.out).node hlt
   have HQ:=Lib.hid (fun W=>eqNode_same (gN ns k).1 (gN ns k).2.1 (gN ns k).2.2 W)
   generalize (gN ns k).1=x at *
   generalize (gN ns k).2.1=y at *
   generalize (gN ns k).2.2=z at *
   have k1:=After.cell h1
   have k2:=After.cell h2
   have k3:=After.cell h3
   have k4:=After.cell h1'
   have k5:=After.cell h2'
   have k6:=After.cell h3'
   have i1:(0:Int)≤(k:Int):=by omega
   have i2:(k:Int)<(n:Int):=by omega
   go_wp2_with fail
   refine wp_region_after (by kernel_rfl) (by kernel_rfl) ?_
   repeat (go_big_quiet_step ((go_at_call 18;exact after_call _ (HQ.out _))))
   refine wpQuiet_nil ?_
   intro w9 hw'
   obtain ⟨⟨w9',hb9⟩,hw''⟩:=hw'
   subst hw''
   have HB2:=Lib.hid (HB.out.trans (hb9.mono HB.out.size));clear hb9 k1 k2 k3 k4 k5 k6
   go_wp2_with fail
   go_roundw
   case rel=>exact ⟨k+1,by omega,by go_num,HB2.out⟩
   case measure=>simp [intOf];omega
  ·go_wp2_with fail
   go_ret
   exact ⟨rfl,HB.out⟩
end
end Go.Proofs.YtammfhheibaeaaaGreatDoor
