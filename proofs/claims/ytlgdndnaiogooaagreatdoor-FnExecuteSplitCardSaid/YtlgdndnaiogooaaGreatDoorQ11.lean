/- Parts of the proof of : Lt2. -/
import Derived.Test.YtlgdndnaiogooaaGreatDoorQ10
set_option maxHeartbeats 20000000
set_option maxRecDepth 1000000
set_option linter.unusedSimpArgs false
set_option linter.unusedVariables false
namespace Go.Proofs.YtlgdndnaiogooaaGreatDoor
section
open Go.RowKit
attribute [local go_sem ↓] Go.wp_at_zero Go.wp_at_succ
theorem results_ct {P:Program} {fn:Func} {p t1:Tmp} {ty:TypeId} (h:fn.results=#[.cell p ty,.tmp t1]) (tmps:Array Value) (w:World) (g:Nat) (t:TypeId) (cs:Array Value) (fr:Nat × Nat) (d:TypeDesc)
 (hp:tmps.getD p undef=.pointer (some ⟨g,0,none⟩)) (hg:w.heap[g]?=some (.cells cs t fr))
 (hu:P.underlying ty=some d) (hd:(match d with | .struct _ | .array _ _=>true | _=>false)=true) (hi:(P.info? ty).map (·.size)=some cs.size) :
 (results fn tmps).run P w=.ok (.tuple #[.agg cs,tmps.getD t1 undef]) w:=by
 have hp':tmps[p]?.getD undef=.pointer (some ⟨g,0,none⟩):=by simpa using hp
 simp [results,h,hp',asAddr,run_loadVar_row w g t ty cs fr d hg hu hd hi]
theorem idx_strk (l:List UInt8) (k:Nat) (x:UInt8) (hx:l[k]?=some x) (W:World):(Instr.index 9 (.string (bs l)) (.int .i64 (k:Int))).run Tryz.prog W=.ok (.int .u8 (x.toNat:Int)) W:=by
 have hj:k<l.length:=by
  rcases Nat.lt_or_ge k l.length with h1 | h1
  ·exact h1
  ·rw [List.getElem?_eq_none h1] at hx;cases hx
 rw [run_index_string (h:=Tryz.underlying9),dif_pos ⟨by omega,by rw [bs_size];omega⟩]
 have:(bs l)[k]'(by rw [bs_size];exact hj)=x:=by
  rw [List.getElem?_eq_getElem hj] at hx
  injection hx
 simp only [Int.toNat_natCast]
 rw [this]
theorem tm_two (s l:Nat) (hs:s≤8) (hl:l≤8):tmT ((s:Int),(l:Int))=[UInt8.ofNat (49+s),lts.getD l 0]:=by
 have h1:s=0∨s=1∨s=2∨s=3∨s=4∨s=5∨s=6∨s=7∨s=8:=by omega
 unfold tmT
 rw [if_pos (tvB_iff.2 ⟨⟨by simp,by simp;omega⟩,by simp,by simp;omega⟩),Lib.decDigits_one (by simp;omega)]
 simp only [Int.toNat_natCast]
 rcases h1 with rfl | rfl | rfl | rfl | rfl | rfl | rfl | rfl | rfl <;> rfl
theorem lts_ix (l:Nat) (hl:l≤8):Lib.indexByte lts ((lts.getD l 0).toNat:Int).toNat.toUInt8=(l:Int):=by
 have h:∀l:Fin 9,Lib.indexByte lts ((lts.getD l.1 0).toNat:Int).toNat.toUInt8=(l.1:Int):=by decide +kernel
 exact h ⟨l,by omega⟩
theorem exactly_any (A:Option Addr) (c n:Nat) (w:World) :
 Calls Tryz.prog 151 #[.agg #[.slice A n c],.int .i64 n] w fun e w'=>e=.returned (.tuple #[])∧Below w.heap.size w w':=by
 have HB:=Lib.hid ((Below.refl w.heap.size w).alloc (Nat.le_refl _) (.cells #[.slice A n c] 136))
 have h0:=(Blk.new w 136 #[.slice A n c]).cell 0
 have HC:Hid ((w.alloc (.cells #[.slice A n c] 136)).cell? ⟨w.heap.size,0,none⟩=some (.slice A n c)):=h0
 clear h0
 go_enter Tryz.func151,Tryz.ntmps151
 go_wp2_with fail
 go_end0
 exact ⟨rfl,HB.out⟩
theorem lcells_at (t:T2):∀(js:List Int) (k:Nat),k<js.length→(lcells t js)[k*3]?=some (.int .i64 t.1)∧(lcells t js)[k*3+1]?=some (.int .i64 t.2)∧(lcells t js)[k*3+2]?=some (.int .i64 (js.getD k 0))
 | [],k,h=>by simp at h
 | j :: js,0,_=>⟨rfl,rfl,rfl⟩
 | j :: js,k+1,h=>by
  obtain ⟨a,b,c⟩:=lcells_at t js k (by simpa using h)
  have e:lcells t (j :: js)=.int .i64 t.1 :: .int .i64 t.2 :: .int .i64 j :: lcells t js:=rfl
  rw [e,show (k+1)*3=k*3+3 by omega,show k*3+3+1=(k*3+1)+3 by omega,show k*3+3+2=(k*3+2)+3 by omega]
  exact ⟨a,b,c⟩
theorem Reads.lev {w:World} {B:Nat} {A:Option Addr} {n:Nat} {t:T2} {js:List Int} (h:Reads w B 3 A n (lcells t js)) (hl:js.length=n) {k:Nat} (hk:k<n) :
 ∃b off j,A=some ⟨b,off,none⟩∧b<B∧w.cell? ⟨b,off+k*3,none⟩=some (.int .i64 t.1)∧w.cell? ⟨b,off+k*3+1,none⟩=some (.int .i64 t.2)∧w.cell? ⟨b,off+k*3+2,none⟩=some (.int .i64 j)∧Hid (js[k]?=some j):=by
 obtain ⟨b,off,e,hb,hc⟩:=h.2 (by omega)
 obtain ⟨x1,x2,x3⟩:=lcells_at t js k (by omega)
 refine ⟨b,off,js.getD k 0,e,hb,?_,?_,?_,?_⟩
 ·exact hc _ _ x1
 ·exact hc _ _ x2
 ·exact hc _ _ x3
 ·unfold Hid
  rw [List.getD_eq_getElem?_getD,List.getElem?_eq_getElem (by omega)];rfl
theorem sameLevels_any (A A':Option Addr) (n c c':Nat) (t:T2) (js:List Int) (w:World) (hn:n≤1000) (hl:js.length=n) (hr:Reads w w.heap.size 3 A n (lcells t js)) (hr':Reads w w.heap.size 3 A' n (lcells t js)) :
 Calls Tryz.prog 11 #[.slice A n c,.slice A' n c'] w fun e w'=>e=.returned (.bool true)∧Below w.heap.size w w':=by
 have HL:=Lib.hid hl;clear hl
 have HR:=Lib.hid hr;clear hr
 have HR':=Lib.hid hr';clear hr'
 have hB0:=Below.refl w.heap.size w
 go_enter Tryz.func11,Tryz.ntmps11
 go_wp2_with fail
 go_loopw [5] (fun i wr=>∃(k:Nat),k≤n∧i=.int .i64 k∧Hid (Below w.heap.size w wr)) (fun i _=>n-(RowKit.intOf i).toNat)
 case atStart=>exact ⟨0,Nat.zero_le _,rfl,hB0⟩
 case round =>
  clear hB0
  obtain ⟨k,hk,rfl,HB⟩:=hrel
  by_cases hlt:k<n
  ·obtain ⟨b,off,j,rfl,hb,r1,r2,r3,hg⟩:=(HR.out.below HB.out).lev HL.out hlt
   obtain ⟨b',off',j',rfl,hb',q1,q2,q3,hg'⟩:=(HR'.out.below HB.out).lev HL.out hlt
   have e:=hg.out.symm.trans hg'.out
   injection e with e
   subst e
   clear hg hg'
   have i1:(k:Int)<(n:Int):=by omega
   have i0:(0:Int)≤(k:Int):=by omega
   go_wp2_with fail
   go_region
   go_wp2_with fail
   go_roundw
   case rel=>exact ⟨k+1,by omega,by go_num,⟨HB.out.os,HB.out.tape,HB.out.output,HB.out.size,HB.out.block⟩⟩
   case measure=>simp [RowKit.intOf];omega
  ·obtain rfl:k=n:=by omega
   go_wp2_with fail
   go_ret
   exact ⟨rfl,HB.out⟩
theorem TermFrom_any (t:T2) (w:World) (hv:tvB t=true) :
 Calls Tryz.prog 156 #[.string (bs (tmT t))] w fun e w'=>e=.returned (.tuple #[.agg #[.int .i64 t.1,.int .i64 t.2],.bool true])∧Below w.heap.size w w':=by
 have hb:=tvB_iff.1 hv
 have HX:=Lib.hid (fun W=>implTermText_any t W)
 obtain ⟨a,b⟩:=t
 simp only at *
 obtain ⟨s,rfl⟩:=Int.eq_ofNat_of_zero_le hb.1.1
 obtain ⟨l,rfl⟩:=Int.eq_ofNat_of_zero_le hb.2.1
 have hs8:s≤8:=by omega
 have hl8:l≤8:=by omega
 have htm:=tm_two s l hs8 hl8
 have hn2:((bs (tmT ((s:Int),(l:Int)))).size)=2:=by rw [bs_size,htm];rfl
 have HI0:Hid (∀W:World,(Instr.index 9 (.string (bs (tmT ((s:Int),(l:Int))))) (.int .i64 0)).run Tryz.prog W=.ok (.int .u8 (49+(s:Int))) W):=fun W=>by
  have h:=idx_strk (tmT ((s:Int),(l:Int))) 0 (UInt8.ofNat (49+s)) (by rw [htm];rfl) W
  rw [show ((UInt8.ofNat (49+s)).toNat:Int)=49+(s:Int) from ?_] at h
  ·exact h
  ·rw [UInt8.toNat_ofNat'];omega
 obtain ⟨C,hC⟩:∃C:Int,((lts.getD l 0).toNat:Int)=C:=⟨_,rfl⟩
 have HI1:Hid (∀W:World,(Instr.index 9 (.string (bs (tmT ((s:Int),(l:Int))))) (.int .i64 1)).run Tryz.prog W=.ok (.int .u8 C) W):=fun W=>by
  have h:=idx_strk (tmT ((s:Int),(l:Int))) 1 (lts.getD l 0) (by rw [htm];rfl) W
  rw [hC] at h
  exact h
 have HIX:Hid (∀W:World,Calls Tryz.prog 185 #[.string ⟨#[83,80,68,70,71,72,73,75,76]⟩,.int .u8 C] W fun e w'=>e=.returned (.int .i64 (l:Int))∧w'=W):=fun W=>by
  have h:=Tryz.strings_IndexByte ⟨#[83,80,68,70,71,72,73,75,76]⟩ C W
  rw [show (⟨#[83,80,68,70,71,72,73,75,76]⟩:ByteArray).data.toList=lts from rfl,←hC,lts_ix l hl8,hC] at h
  exact h
 have hz:((bs (tmT ((s:Int),(l:Int)))).toList==(bs (tmT ((s:Int),(l:Int)))).toList)=true:=by simp
 clear htm hC hv hb
 generalize bs (tmT ((s:Int),(l:Int)))=X at *
 have u1:IntKind.i64.wrap (49+(s:Int))=49+(s:Int):=IntWalk.i64_in _ (by omega)
 have u2:IntKind.i64.wrap (49+(s:Int)-49)=(s:Int):=by rw [IntWalk.i64_in _ (by omega)];omega
 have HB0:=Lib.hid ((Below.refl w.heap.size w).alloc (Nat.le_refl _) (.cells #[.int .i64 0,.int .i64 0] 24))
 have HX0:=Lib.hid (Blk.new w 24 #[.int .i64 0,.int .i64 0])
 go_enter Tryz.func156,Tryz.ntmps156
 go_wp2_with fail
 have i0:=HI0.out
 have i1:=HI1.out
 obtain ⟨W0,hW0⟩:∃W0,w.alloc (.cells #[.int .i64 0,.int .i64 0] 24)=W0:=⟨_,rfl⟩
 have hsz:W0.heap.size=w.heap.size+1:=by rw [←hW0];simp
 rw [hW0] at HB0 HX0
 rw [hW0]
 clear hW0
 go_region_with ((go_at_call 185;refine (HIX.out _).mono ?_;rintro e w' ⟨rfl,rfl⟩))
 all_goals
  obtain ⟨W1,hW1⟩:∃W1,(W0.alloc (.cells #[.int .i64 (s:Int),.int .i64 (l:Int)] 24)).drew=W1:=⟨_,rfl⟩
  have hst:Below W0.heap.size W0 W1:=by rw [←hW1];exact ((Below.refl _ _).alloc (Nat.le_refl _) _).drew
  have HX1:=Lib.hid (HX0.out.sub hst)
  have HY1:Hid (Blk W1 (w.heap.size+1) 24 #[.int .i64 (s:Int),.int .i64 (l:Int)]):=by
   unfold Hid;rw [←hW1,←hsz];exact (Blk.new W0 24 #[.int .i64 (s:Int),.int .i64 (l:Int)]).drew
  have HB1:=Lib.hid (HB0.out.trans (hst.mono HB0.out.size))
  have HZ1:Hid (w.heap.size+1<W1.heap.size):=by unfold Hid;rw [←hW1,←hsz];show _<(W0.alloc _).heap.size;simp
  rw [hW1]
  clear hW1 hst
  obtain ⟨y1,y2,_,_⟩:=blk2 HY1.out
  go_wp2_with fail
  refine (HX.out _).mono ?_
  rintro e w2 ⟨rfl,hb2⟩
  have HX2:=Lib.hid (HX1.out.sub hb2)
  have HY2:=Lib.hid (HY1.out.sub hb2)
  have HB2:=Lib.hid (HB1.out.trans (hb2.mono HB1.out.size))
  clear hb2 y1 y2
  obtain ⟨y1,y2,_,_⟩:=blk2 HY2.out
  obtain ⟨x1,x2,f1,f2⟩:=blk2 HX2.out
  have HZ:=Lib.hid ((HX2.out.set 0 (.int .i64 (s:Int))).set 1 (.int .i64 (l:Int)))
  have HBZ:=Lib.hid ((HB2.out.setCell (p:=⟨w.heap.size,0,none⟩) (Nat.le_refl _) (.int .i64 (s:Int))).setCell (p:=⟨w.heap.size,1,none⟩) (Nat.le_refl _) (.int .i64 (l:Int)))
  go_wp2_with fail
  refine bodyPost_ret (results_ct rfl _ _ w.heap.size _ _ _ _ rfl HZ.out Tryz.underlying24 rfl (by kernel_rfl)) rfl ?_
  exact ⟨rfl,HBZ.out⟩
end
end Go.Proofs.YtlgdndnaiogooaaGreatDoor
