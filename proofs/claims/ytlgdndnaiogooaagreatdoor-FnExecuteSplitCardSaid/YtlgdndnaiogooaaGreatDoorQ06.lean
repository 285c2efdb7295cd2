/- Parts of the proof of : Cpl. -/
import Derived.Test.YtlgdndnaiogooaaGreatDoorQ05
set_option maxHeartbeats 20000000
set_option maxRecDepth 1000000
set_option linter.unusedSimpArgs false
set_option linter.unusedVariables false
namespace Go.Proofs.YtlgdndnaiogooaaGreatDoor
section
open Go.RowKit
def icells (l:List Int):List Value:=l.map (Value.int .i64)
def cplTo (a b:Int) (k:Nat):List Int:=(List.range k).map fun i:Nat=>((a-b).natAbs:Int)+2*(i:Int)
def cpl (a b:Int):List Int:=cplTo a b ((min a b).toNat+1)
theorem cplTo_succ (a b:Int) (k:Nat):cplTo a b (k+1)=cplTo a b k++[((a-b).natAbs:Int)+2*(k:Int)]:=by
 simp [cplTo,List.range_succ]
theorem cplTo_len (a b:Int) (k:Nat):(cplTo a b k).length=k:=by simp [cplTo]
theorem cpl_len (a b:Int):(cpl a b).length=(min a b).toNat+1:=cplTo_len _ _ _
theorem icells_snoc (l:List Int) (x:Int):icells (l++[x])=icells l++[.int .i64 x]:=by simp [icells]
theorem elInt:ElemOk Tryz.prog 55 3 1 8:=elemOk Tryz.underlying55 (z:=.int .i64 0) (by kernel_rfl) rfl (by omega)
def IntsPost (w:World) (l:List Int) (e:Ending) (w':World):Prop :=
 (∃A c,e=.returned (.slice A l.length c)∧w'.ownsRow w.heap.size 3 1 (.slice A l.length c) l.length (icells l))∧Below w.heap.size w w'
theorem specSpinCoupled_any (a b:Int) (w:World) (a0:0≤a) (a1:a≤24) (b0:0≤b) (b1:b≤24) (h:a+b≤24) :
 Calls Tryz.prog 38 #[.int .i64 a,.int .i64 b] w (IntsPost w (cpl a b)):=by
 have ha:inB a 0 24=true:=inB_iff.2 ⟨a0,a1⟩
 have hb:inB b 0 24=true:=inB_iff.2 ⟨b0,b1⟩
 have HO:=Lib.hid (own_empty w 3 1)
 have HB:=Lib.hid ((Below.refl w.heap.size w).alloc (Nat.le_refl _) (.cells #[] 3))
 go_enter Tryz.func38,Tryz.ntmps38
 go_wp2_with (first
  | (go_at_call 88;refine (specSpinValid_any _ _).mono ?_;rintro e w' ⟨rfl,rfl⟩)
  | (go_at_call 85;refine (l1Abs_any _ _ (by omega) (by omega)).mono ?_;rintro e w' ⟨rfl,rfl⟩))
 go_loopw [5,6] (fun v i wr=>∃(k:Nat) (A:Option Addr) (c:Nat),k≤(min a b).toNat+1∧i=.int .i64 (((a-b).natAbs:Int)+2*(k:Int))∧v=.slice A k c∧wr.ownsRow w.heap.size 3 1 (.slice A k c) k (icells (cplTo a b k))∧Below w.heap.size w wr) (fun _ i _=>(a+b+2-intOf i).toNat)
 case atStart=>exact ⟨0,_,_,by omega,by go_num,rfl,HO.out,HB.out⟩
 case round =>
  obtain ⟨k,A,c,hk,rfl,rfl,hown,hB⟩:=hrel
  have HW:=Lib.hid hown;clear hown
  have HB1:=Lib.hid hB;clear hB
  by_cases hlt:k≤(min a b).toNat
  ·have g1:((a-b).natAbs:Int)+2*(k:Int)≤a+b:=by omega
   generalize hz:((a-b).natAbs:Int)+2*(k:Int)=z at *
   have HZ:=Lib.hid hz
   have z0:0≤z:=by omega
   clear hz
   go_wp2_with (at_builtin;refine wpList_app1 _ rfl (.tmp 34) (.tmp 36) _ rfl w.heap.size 3 1 8 elInt A c k (icells (cplTo a b k)) rfl (HW.out.alloc _) wr.heap.size #[.int .i64 z] rfl (Blk.new wr _ _) rfl ?h1 (by omega) (by omega) (by have:=HB1.out.size;simp;omega) ?_)
   case h1=>rfl
   intro A' c' w3 hown3 hc3 hb3
   have HW3:=Lib.hid hown3;clear hown3
   have HB3:=Lib.hid ((HB1.out.alloc HB1.out.size _).trans hb3);clear hb3
   go_wp2_with fail
   go_roundw
   case rel =>
    refine ⟨k+1,A',c',by omega,by rw [←HZ.out];go_num,rfl,?_,HB3.out⟩
    rw [cplTo_succ,icells_snoc,HZ.out];exact HW3.out
   case measure=>simp [intOf];omega
  ·have g1:¬(((a-b).natAbs:Int)+2*(k:Int)≤a+b):=by omega
   generalize ((a-b).natAbs:Int)+2*(k:Int)=z at *
   go_wp2_with fail
   go_ret
   have hk':k=(min a b).toNat+1:=by omega
   subst hk'
   have hr:=HW.out
   exact ⟨⟨A,c,by rw [cpl_len];rfl,by rw [cpl_len];exact hr⟩,HB1.out⟩
theorem implSpinCoupled_any (a b:Int) (w:World) (a0:0≤a) (a1:a≤24) (b0:0≤b) (b1:b≤24) (h:a+b≤24) :
 Calls Tryz.prog 36 #[.int .i64 a,.int .i64 b] w (IntsPost w (cpl a b)):=by
 have ha:inB a 0 24=true:=inB_iff.2 ⟨a0,a1⟩
 have hb:inB b 0 24=true:=inB_iff.2 ⟨b0,b1⟩
 have HO:=Lib.hid (World.ownsRow_nil w w.heap.size 3 1)
 have HB:=Lib.hid (Below.refl w.heap.size w)
 go_enter Tryz.func36,Tryz.ntmps36
 go_wp2_with (first
  | (go_at_call 87;refine (implSpinValid_any _ _).mono ?_;rintro e w' ⟨rfl,rfl⟩)
  | (go_at_call 81;refine (abs_any _ _ (by omega) (by omega)).mono ?_;rintro e w' ⟨rfl,rfl⟩))
 go_loopw [5,6] (fun v i wr=>∃(k:Nat) (A:Option Addr) (c:Nat),k≤(min a b).toNat+1∧i=.int .i64 (((a-b).natAbs:Int)+2*(k:Int))∧v=.slice A k c∧wr.ownsRow w.heap.size 3 1 (.slice A k c) k (icells (cplTo a b k))∧Below w.heap.size w wr) (fun _ i _=>(a+b+2-intOf i).toNat)
 case atStart=>exact ⟨0,_,_,by omega,by go_num,rfl,HO.out,HB.out⟩
 case round =>
  obtain ⟨k,A,c,hk,rfl,rfl,hown,hB⟩:=hrel
  have HW:=Lib.hid hown;clear hown
  have HB1:=Lib.hid hB;clear hB
  by_cases hlt:k≤(min a b).toNat
  ·have g1:((a-b).natAbs:Int)+2*(k:Int)≤a+b:=by omega
   generalize hz:((a-b).natAbs:Int)+2*(k:Int)=z at *
   have HZ:=Lib.hid hz
   have z0:0≤z:=by omega
   clear hz
   go_wp2_with (at_builtin;refine wpList_app1 _ rfl (.tmp 32) (.tmp 34) _ rfl w.heap.size 3 1 8 elInt A c k (icells (cplTo a b k)) rfl (HW.out.alloc _) wr.heap.size #[.int .i64 z] rfl (Blk.new wr _ _) rfl ?h1 (by omega) (by omega) (by have:=HB1.out.size;simp;omega) ?_)
   case h1=>rfl
   intro A' c' w3 hown3 hc3 hb3
   have HW3:=Lib.hid hown3;clear hown3
   have HB3:=Lib.hid ((HB1.out.alloc HB1.out.size _).trans hb3);clear hb3
   go_wp2_with fail
   go_roundw
   case rel =>
    refine ⟨k+1,A',c',by omega,by rw [←HZ.out];go_num,rfl,?_,HB3.out⟩
    rw [cplTo_succ,icells_snoc,HZ.out];exact HW3.out
   case measure=>simp [intOf];omega
  ·have g1:¬(((a-b).natAbs:Int)+2*(k:Int)≤a+b):=by omega
   generalize ((a-b).natAbs:Int)+2*(k:Int)=z at *
   go_wp2_with fail
   go_ret
   have hk':k=(min a b).toNat+1:=by omega
   subst hk'
   have hr:=HW.out
   exact ⟨⟨A,c,by rw [cpl_len];rfl,by rw [cpl_len];exact hr⟩,HB1.out⟩
end
end Go.Proofs.YtlgdndnaiogooaaGreatDoor
