/- Parts of the proof of : Tx3. -/
import Derived.Test.YtlgdndnaiogooaaGreatDoorQ05
import Derived.Test.YtlgdndnaiogooaaGreatDoorQ07
set_option maxHeartbeats 20000000
set_option maxRecDepth 1000000
set_option linter.unusedSimpArgs false
set_option linter.unusedVariables false
namespace Go.Proofs.YtlgdndnaiogooaaGreatDoor
section
open Go.RowKit Go.Sort
attribute [local go_sem ↓] Go.wp_at_zero Go.wp_at_succ
def lts:List UInt8:=[83,80,68,70,71,72,73,75,76]
def tmT (t:T2):List UInt8:=if tvB t=true then Lib.decDigits (t.1.toNat+1)++[lts.getD t.2.toNat 0] else []
theorem tmT_len {t:T2} (h:tvB t=true):(tmT t).length=2:=by
 have hb:=tvB_iff.1 h
 unfold tmT
 rw [if_pos h,Lib.decDigits_one (by omega)];rfl
theorem lts_cut (l:Nat) (h:l≤8):(⟨#[83,80,68,70,71,72,73,75,76]⟩:ByteArray).extract l (l+1)=bs [lts.getD l 0]:=by
 have hl:l=0∨l=1∨l=2∨l=3∨l=4∨l=5∨l=6∨l=7∨l=8:=by omega
 rcases hl with rfl | rfl | rfl | rfl | rfl | rfl | rfl | rfl | rfl <;> rfl
theorem slice_lts (l:Nat) (h:l≤8) (W:World) :
 (Instr.slice 9 (.string ⟨#[83,80,68,70,71,72,73,75,76]⟩) (some (.int .i64 (l:Int))) (some (.int .i64 ((l:Int)+1))) none).run Tryz.prog W=.ok (.string (bs [lts.getD l 0])) W:=by
 rw [run_slice_string_if (h:=Tryz.underlying9),if_pos ⟨by omega,by show (l:Int)+1≤9;omega⟩,if_pos ⟨by omega,by omega⟩,Int.toNat_natCast,show ((l:Int)+1).toNat=l+1 by omega,lts_cut l h]
theorem implTermText_any (t:T2) (w:World) :
 Calls Tryz.prog 14 #[.agg #[.int .i64 t.1,.int .i64 t.2]] w fun e w'=>e=.returned (.string (bs (tmT t)))∧Below w.heap.size w w':=by
 have HB0:=Lib.hid ((Below.refl w.heap.size w).alloc (Nat.le_refl _) (.cells #[.int .i64 t.1,.int .i64 t.2] 24))
 have HX0:=Lib.hid (Blk.new w 24 #[.int .i64 t.1,.int .i64 t.2])
 have HV:=Lib.hid (fun W=>implTermValid_any t W)
 cases hv:tvB t
 ·have he:tmT t=[]:=by unfold tmT;rw [hv];simp
  rw [he,bs_nil];rw [hv] at HV;clear hv he
  go_enter Tryz.func14,Tryz.ntmps14
  go_wp2_with fail
  refine (HV.out _).mono ?_
  rintro e w1 ⟨rfl,hb1⟩
  have HB:=Lib.hid (HB0.out.trans (hb1.mono HB0.out.size));clear hb1
  go_wp2_with fail
  go_ret
  exact ⟨rfl,HB.out⟩
 have hb:=tvB_iff.1 hv
 have he:bs (tmT t)=bs (Lib.decDigits (t.1.toNat+1))++bs [lts.getD t.2.toNat 0]:=by unfold tmT;rw [if_pos hv,bs_append]
 rw [he];rw [hv] at HV;clear hv he
 obtain ⟨a,b⟩:=t
 simp only at *
 obtain ⟨s,rfl⟩:=Int.eq_ofNat_of_zero_le hb.1.1
 obtain ⟨l,rfl⟩:=Int.eq_ofNat_of_zero_le hb.2.1
 simp only [Int.toNat_natCast]
 have hi:=fun W=>itoaSmall_any (s+1) (by omega) W
 rw [show (((s+1:Nat):Int))=(s:Int)+1 by omega] at hi
 have HI:=Lib.hid hi;clear hi
 have hz1:(bs (Lib.decDigits (s+1))).size≤7:=by rw [bs_size];exact dig_len7 (by omega)
 have hz2:(bs [lts.getD l 0]).size≤1:=Nat.le_of_eq (bs_size _)
 have HSL:=Lib.hid (fun W=>slice_lts l (by omega) W)
 generalize bs (Lib.decDigits (s+1))=D at *
 generalize bs [lts.getD l 0]=V at *
 have u1:IntKind.i64.wrap ((s:Int)+1)=(s:Int)+1:=IntWalk.i64_in _ (by omega)
 have u2:IntKind.i64.wrap ((l:Int)+1)=(l:Int)+1:=IntWalk.i64_in _ (by omega)
 have HU:=Lib.hid (And.intro u1 u2);clear u1 u2
 go_enter Tryz.func14,Tryz.ntmps14
 go_wp2_with fail
 refine (HV.out _).mono ?_
 rintro e w1 ⟨rfl,hb1⟩
 have HB:=Lib.hid (HB0.out.trans (hb1.mono HB0.out.size))
 obtain ⟨x1,x2,_,_⟩:=blk2 (HX0.out.sub hb1)
 clear hb1
 have k1:=After.cell x1
 have k2:=After.cell x2
 have k3:=HSL.out
 obtain ⟨u1,u2⟩:=HU.out
 go_wp2_with fail
 refine wp_region_after (by kernel_rfl) (by kernel_rfl) ?_
 repeat (go_big_quiet_step ((go_at_call 45;exact after_same _ (HI.out _))))
 refine wpQuiet_nil ?_
 intro w9 hw'
 obtain ⟨⟨w9',hb9⟩,hw''⟩:=hw'
 subst hw''
 have HB9:=Lib.hid (HB.out.trans (hb9.mono HB.out.size));clear hb9 k3 u1 u2
 go_wp2_with fail
 go_ret
 exact ⟨rfl,HB9.out⟩
theorem join_snoc (xs:List (List UInt8)) (y sep:List UInt8):Lib.join (xs++[y]) sep=(if xs=[] then [] else Lib.join xs sep++sep)++y:=by
 cases xs with
 | nil=>simp [Lib.join_one]
 | cons x xs =>
  rw [if_neg (by simp),List.cons_append,Lib.join_cons,Lib.join_cons]
  simp [Lib.joinTail,List.append_assoc]
theorem wpList_app1b {P:Program} (w:World) {ops:Array Oper} {rest:List Oper} {o:Oper} {a:Act} {Q:Exit→Act→World→Prop} (hgd:o.guard=none) (s x:Operand) (t:TypeId)
 (ho:o.op=.call { callee:=.builtin .append,args:=#[s,x],argTypes:=#[t,t] })
 (base:Nat) (e:TypeId) (size bytes:Nat) (hE:ElemOk P t e size bytes)
 (A:Option Addr) (c n:Nat) (xs:List Value) (hs:a.eval s=.slice A n c) (hown:w.ownsRow base e size (.slice A n c) n xs)
 (L:Nat) (cs:Array Value) (hx:a.eval x=.slice (some ⟨L,0,none⟩) 1 1) (hL:Blk w L e cs) (hcs:cs.size=size) (h1:∀u∈cs.toList,u.oneCell'=true)
 (hn:n≤2000000) (hby:bytes≤1000) (hbase:base≤w.heap.size)
 (h:∀A' c' w',w'.ownsRow base e size (.slice A' (n+1) c') (n+1) (xs++cs.toList)→n+1≤c'→Below base w w'→wpList P ops Q rest (a.put o.dst (.slice A' (n+1) c')) w'):wpList P ops Q (o :: rest) a w:=by
 obtain ⟨ht,i,z,hi,hz,hsize,hbytes,hzs,hsz⟩:=hE
 refine wpList_append_own w hgd s x t ho base e i z size bytes ht hi hz hsize hbytes hzs hsz _ n xs hs hown ⟨L,0,none⟩ 1 1 cs.toList hx (by simp [hcs]) ?_ h1 (by unfold maxLen;omega) ?_ hbase ?_
 ·intro j u hj
  have:(⟨L,0,none⟩:Addr).add j=⟨L,j,none⟩:=by unfold Addr.add;split <;> simp_all
  rw [this,hL.cell]
  simpa using hj
 ·calc (n+1)*bytes≤2000001*1000:=Nat.mul_le_mul (by omega) hby
   _≤_:=by omega
 ·intro v' w' hown' hg _
  obtain ⟨A',c',rfl,hc'⟩:=own_form hown'
  refine h A' c' w' hown' hc' ?_
  exact (Below.refl base w).grown hg hbase (fun k hk=>(hown.lt k hk).1)
theorem run_mk0 {P:Program} {t e:TypeId} {size bytes:Nat} (hE:ElemOk P t e size bytes) (n:Nat) (hb:bytes*n≤281474976710656) (hn:n≤9223372036854775807) :
 ∃cs:Array Value,cs.size=n*size∧∀w:World,(Instr.makeSlice t (.int .i64 0) (.int .i64 (n:Int))).run P w=.ok (.slice (some ⟨w.heap.size,0,none⟩) 0 n) (w.alloc (.cells cs e)):=by
 obtain ⟨ht,i,z,hi,hz,hsize,hbytes,hzs,hsz⟩:=hE
 refine ⟨madeCells z.cells (n*i.size),by rw [size_madeCells,hsize],fun w=>?_⟩
 have hb':(i.bytes:Int)*(n:Int)≤281474976710656:=by
  have h:((i.bytes*n:Nat):Int)≤281474976710656:=by rw [hbytes];omega
  rwa [Int.natCast_mul] at h
 have hr:=run_make (P:=P) w t e i z ht hi hz .i64 .i64 0 n (by omega) (by omega) hb' (by omega)
 simpa using hr
theorem elStr:ElemOk Tryz.prog 72 9 1 16:=elemOk Tryz.underlying72 (z:=.string ⟨#[]⟩) (by kernel_rfl) rfl (by omega)
theorem own_blk2 {w:World} {base:Nat} {e:TypeId} {size n c:Nat} {A:Option Addr} {xs:List Value} (h:w.ownsRow base e size (.slice A n c) n xs) (hn:0<n) :
 ∃g cur,A=some ⟨g,0,none⟩∧base≤g∧Blk w g e cur∧Filled cur xs:=by
 have hr:=own_reads h
 rcases h.2 with ⟨hv,h0⟩ | ⟨g,cap,cur,hv,hb,hh,_⟩
 ·omega
 ·have hA:A=some ⟨g,0,none⟩:=by injection hv
  subst hA
  obtain ⟨b,off,e1,_,hc⟩:=hr.2 hn
  cases e1
  refine ⟨g,cur,rfl,hb,hh,fun j u hu=>?_⟩
  have:=hc j u hu
  rw [Nat.zero_add] at this
  rw [←this]
  exact (Blk.cell (t:=e) hh j).symm
def scells (ls:List (List UInt8)):List Value:=ls.map fun l=>.string (bs l)
end
end Go.Proofs.YtlgdndnaiogooaaGreatDoor
