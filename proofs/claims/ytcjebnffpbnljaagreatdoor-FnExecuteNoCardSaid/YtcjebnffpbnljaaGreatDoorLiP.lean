/- The last line of an output, a script up to its last line's end. -/
import Derived.Test.YtcjebnffpbnljaaGreatDoorLhP
import Derived.Test.YtcjebnffpbnljaaGreatDoorDexP
namespace Go.Proofs.YtcjebnffpbnljaaGreatDoor
section
open Go.RowKit Go.Lib
attribute [local go_sem ↓] Go.wp_at_zero Go.wp_at_succ
theorem at_mid (P q z:List UInt8) (j:Nat) (h:j<q.length):(P++(q++z))[P.length+j]?=q[j]?:=by
 rw[List.getElem?_append_right (by omega),Nat.add_sub_cancel_left,List.getElem?_append_left h]
theorem e10_last {P:List UInt8} (h:E10 P) (r:Nat) (h0:P.length=r+1) (z:List UInt8):(P++z)[r]?=some 10:=by
 rcases h with rfl | ⟨Q,rfl⟩
 ·simp at h0
 ·rw[List.length_append] at h0
  have e:r=Q.length:=by simpa using h0.symm
  subst e
  rw[List.getElem?_append_left (by simp)]
  simp
set_option maxHeartbeats 2000000 in
theorem lastLine_any (P q:List UInt8) (w:World) (hP:E10 P) (hq:(10:UInt8)∉q) (hl:(P++(q++[10])).length≤20000000) :
 Calls Tryz.prog 12 #[.string (bs (P++(q++[10])))] w fun e w'=>e=.returned (.string (bs (q++[10])))∧w=w':=by
 have hl':P.length+q.length+1≤20000000:=by rw[List.length_append,List.length_append] at hl;simp at hl;omega
 have hsz:(bs (P++(q++[10]))).size=P.length+q.length+1:=by rw[bs_size,List.length_append,List.length_append];simp;omega
 have HIX:Hid (∀j,j<q.length→∃y:UInt8,((y.toNat:Int)==10)=false∧∀W,(Instr.index 9 (.string (bs (P++(q++[10])))) (.int .i64 ((P.length:Int)+(j:Int)))).run Tryz.prog W=.ok (.int .u8 (y.toNat:Int)) W):=fun j hj=>by
  have hy:q[j]?=some q[j]:=List.getElem?_eq_getElem hj
  exact⟨q[j],u8_ne (y:=10) fun e=>hq (by rw[←e];exact List.getElem_mem hj),fun W=>idx_strk _ (P.length+j) _ ((at_mid P q [10] j hj).trans hy) W⟩
 have HIR:Hid (∀r,P.length=r+1→∀W,(Instr.index 9 (.string (bs (P++(q++[10])))) (.int .i64 (r:Int))).run Tryz.prog W=.ok (.int .u8 10) W∧(Instr.slice 9 (.string (bs (P++(q++[10])))) (some (.int .i64 ((r:Int)+1))) none none).run Tryz.prog W=.ok (.string (bs (q++[10]))) W):=fun r hr W=>by
  refine⟨idx_strk _ r 10 (e10_last hP r hr _) W,?_⟩
  have h:=sl_tail (P++(q++[10])) (r+1) (by rw[←hr];simp) W
  rw[←hr,List.drop_left] at h
  rw[hr] at h
  exact h
 have HNIL:Hid (P.length=0→bs (P++(q++[10]))=bs (q++[10])):=fun h=>by rw[List.length_eq_zero_iff.1 h];rfl
 clear hl hP hq
 generalize bs (P++(q++[10]))=X at *
 generalize bs (q++[10])=Y at *
 generalize P.length=p at *
 generalize q.length=m at *
 go_enter Tryz.func12,Tryz.ntmps12
 go_wp2_with fail
 go_loopw [3] (fun i wr=>((∃j:Nat,j<m∧i=.int .i64 ((p:Int)+(j:Int)))∨i=.int .i64 ((p:Int)-1))∧wr=w) (fun i _=>(RowKit.intOf i+1).toNat)
 case atStart =>
  refine⟨?_,rfl⟩
  rcases Nat.eq_zero_or_pos m with h | h
  ·exact .inr (by go_num)
  ·exact .inl ⟨m-1,by omega,by go_num⟩
 case round =>
  obtain⟨hor,rfl⟩:=hrel
  rcases hor with ⟨j,hj,rfl⟩ | rfl
  ·obtain⟨y,e1,hidx⟩:=HIX.out j hj
   generalize ((y.toNat:Nat):Int)=yi at *
   have i1:(0:Int)≤(p:Int)+(j:Int):=by omega
   go_wp2_with fail
   go_roundw
   case rel =>
    refine⟨?_,trivial⟩
    rcases Nat.eq_zero_or_pos j with h | h
    ·exact .inr (by go_num)
    ·exact .inl ⟨j-1,by omega,by go_num⟩
   case measure=>simp[RowKit.intOf];omega
  ·rcases p with _ | r
   ·have hn:=HNIL.out rfl
    have i0:(((0:Nat):Int)-1)=-1:=rfl
    rw[i0]
    go_wp2_with fail
    go_ret
    exact⟨rfl,rfl⟩
   ·have i0:(((r+1:Nat):Int)-1)=(r:Int):=by omega
    rw[i0]
    have hir:=fun W=>(HIR.out r rfl W).1
    have hsl:=fun W=>(HIR.out r rfl W).2
    go_wp2_with fail
    go_ret
    exact⟨rfl,rfl⟩
set_option maxHeartbeats 2000000 in
theorem complete_any (l:List UInt8) (w:World) (hl:l.length≤20000000) :
 Calls Tryz.prog 11 #[.string (bs l)] w fun e w'=>e=.returned (.string (bs (cmpl l)))∧w=w':=by
 obtain⟨z,hz,hz10⟩:=cmpl_part l
 have hP:=cmpl_e10 l
 generalize cmpl l=C at *
 subst hz
 have hl':C.length+z.length≤20000000:=by rw[List.length_append] at hl;exact hl
 have hsz:(bs (C++z)).size=C.length+z.length:=by rw[bs_size,List.length_append]
 have HIX:Hid (∀j,j<z.length→∃y:UInt8,((y.toNat:Int)==10)=false∧∀W,(Instr.index 9 (.string (bs (C++z))) (.int .i64 ((C.length:Int)+(j:Int)))).run Tryz.prog W=.ok (.int .u8 (y.toNat:Int)) W):=fun j hj=>by
  have hy:z[j]?=some z[j]:=List.getElem?_eq_getElem hj
  have hm:=at_mid C z [] j hj
  rw[List.append_nil] at hm
  exact⟨z[j],u8_ne (y:=10) fun e=>hz10 (by rw[←e];exact List.getElem_mem hj),fun W=>idx_strk _ (C.length+j) _ (hm.trans hy) W⟩
 have HIR:Hid (∀r,C.length=r+1→∀W,(Instr.index 9 (.string (bs (C++z))) (.int .i64 (r:Int))).run Tryz.prog W=.ok (.int .u8 10) W∧(Instr.slice 9 (.string (bs (C++z))) none (some (.int .i64 ((r:Int)+1))) none).run Tryz.prog W=.ok (.string (bs C)) W):=fun r hr W=>by
  refine⟨idx_strk _ r 10 (e10_last hP r hr _) W,?_⟩
  have h:=sl_head (C++z) (r+1) (by rw[←hr];simp) W
  rw[←hr,List.take_left] at h
  rw[hr] at h
  exact h
 have HNIL:Hid (C.length=0→(⟨#[]⟩:ByteArray)=bs C):=fun h=>by rw[List.length_eq_zero_iff.1 h];rfl
 clear hl hP hz10
 generalize bs (C++z)=X at *
 generalize bs C=Y at *
 generalize C.length=p at *
 generalize z.length=m at *
 go_enter Tryz.func11,Tryz.ntmps11
 go_wp2_with fail
 go_loopw [3] (fun i wr=>((∃j:Nat,j<m∧i=.int .i64 ((p:Int)+(j:Int)+1))∨i=.int .i64 (p:Int))∧wr=w) (fun i _=>(RowKit.intOf i).toNat)
 case atStart =>
  refine⟨?_,rfl⟩
  rcases Nat.eq_zero_or_pos m with h | h
  ·exact .inr (by go_num)
  ·exact .inl ⟨m-1,by omega,by go_num⟩
 case round =>
  obtain⟨hor,rfl⟩:=hrel
  rcases hor with ⟨j,hj,rfl⟩ | rfl
  ·obtain⟨y,e1,hidx⟩:=HIX.out j hj
   generalize ((y.toNat:Nat):Int)=yi at *
   have i1:(0:Int)<(p:Int)+(j:Int)+1:=by omega
   go_wp2_with fail
   go_roundw
   case rel =>
    refine⟨?_,trivial⟩
    rcases Nat.eq_zero_or_pos j with h | h
    ·exact .inr (by go_num)
    ·exact .inl ⟨j-1,by omega,by go_num⟩
   case measure=>simp[RowKit.intOf];omega
  ·rcases p with _ | r
   ·have hn:=HNIL.out rfl
    go_wp2_with fail
    go_ret
    exact⟨rfl,rfl⟩
   ·have i0:((r+1:Nat):Int)=(r:Int)+1:=rfl
    rw[i0]
    have hir:=fun W=>(HIR.out r rfl W).1
    have hsl:=fun W=>(HIR.out r rfl W).2
    have i1:(0:Int)<(r:Int)+1:=by omega
    go_wp2_with fail
    go_ret
    exact⟨rfl,rfl⟩
end
end Go.Proofs.YtcjebnffpbnljaaGreatDoor