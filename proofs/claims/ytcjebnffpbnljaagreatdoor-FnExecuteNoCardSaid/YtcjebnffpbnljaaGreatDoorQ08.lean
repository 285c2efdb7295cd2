/- Parts of the proof of : Ws Bu Ex At. -/
import Derived.Test.YtcjebnffpbnljaaGreatDoorQ04
set_option maxHeartbeats 20000000
set_option maxRecDepth 1000000
set_option linter.unusedSimpArgs false
set_option linter.unusedVariables false
section
namespace Go.Proofs
open Go.Shelf
def Tryz.laysWs_ren:Go.Shelf.Ren:=⟨fun | 166=>18 | 240=>34 | 276=>58 | n=>n,fun | 0=>0 | 3=>3 | 4=>4 | 9=>9 | 20=>20 | 37=>22 | 70=>34 | 72=>36 | 75=>38 | 164=>94 | 5=>5 | 80=>42 | n=>n,fun | n=>n⟩
theorem Tryz.laysWs:Go.Proofs.Lays.n166 Tryz.prog Tryz.laysWs_ren:={
 mixed:=by kernel_rfl
 f166:=Tryz.func18.trans (congrArg some (by kernel_rfl))
 f240:=Tryz.func34.trans (congrArg some (by kernel_rfl))
 f276:=Tryz.func58.trans (congrArg some (by kernel_rfl))
 t0:=Tryz.underlying0
 a0:=Tryz.isAgg0
 z0:=Tryz.sizeOf0
 v0:=Tryz.zeroValue0
 t3:=Tryz.underlying3
 a3:=Tryz.isAgg3
 z3:=Tryz.sizeOf3
 v3:=Tryz.zeroValue3
 t4:=Tryz.underlying4
 a4:=Tryz.isAgg4
 z4:=Tryz.sizeOf4
 v4:=Tryz.zeroValue4
 t9:=Tryz.underlying9
 a9:=Tryz.isAgg9
 z9:=Tryz.sizeOf9
 v9:=Tryz.zeroValue9
 t20:=Tryz.underlying20
 a20:=Tryz.isAgg20
 z20:=Tryz.sizeOf20
 v20:=Tryz.zeroValue20
 t37:=Tryz.underlying22
 a37:=Tryz.isAgg22
 z37:=Tryz.sizeOf22
 v37:=Tryz.zeroValue22
 t70:=Tryz.underlying34
 a70:=Tryz.isAgg34
 z70:=Tryz.sizeOf34
 v70:=Tryz.zeroValue34
 t72:=Tryz.underlying36
 a72:=Tryz.isAgg36
 z72:=Tryz.sizeOf36
 v72:=Tryz.zeroValue36
 t75:=Tryz.underlying38
 a75:=Tryz.isAgg38
 z75:=Tryz.sizeOf38
 v75:=Tryz.zeroValue38
 t164:=Tryz.underlying94
 a164:=Tryz.isAgg94
 z164:=Tryz.sizeOf94
 v164:=Tryz.zeroValue94 }
theorem Tryz.Builder_Extra_Ws:Builder.Extra Tryz.prog Tryz.laysWs_ren:={
 sizeBuilder:=by kernel_rfl
 liesBuilder:=by kernel_rfl
 t5:=Tryz.underlying5
 a5:=Tryz.isAgg5
 z5:=Tryz.sizeOf5
 v5:=Tryz.zeroValue5
 infoByte:=by kernel_rfl
 cellsByte:=by kernel_rfl
 sizeByte:=by kernel_rfl
 neB5:=by decide }
end Go.Proofs
end
namespace Go.Proofs.YtcjebnffpbnljaaGreatDoor
section
open Go.RowKit
theorem writeString_any (B b:Nat) (l s:List UInt8) (w:World) (h:Lib.IsBuilderF 36 5 B b (Lib.byteCells l) w) (hlen:l.length+s.length≤140737488355328) (hBw:B≤w.heap.size) :
 Calls Tryz.prog 18 #[.pointer (some ⟨b,0,none⟩),.string (bs s)] w fun e w'=>e=.returned (.tuple #[.int .i64 (bs s).size,.nilIface])∧Lib.IsBuilderF 36 5 B b (Lib.byteCells (l++s)) w'∧Below B w w' :=
 (Any.Builder_WriteString_k (ρ:=Tryz.laysWs_ren) { Tryz.laysWs with } Tryz.Builder_Extra_Ws B b _ (bs s) w h (by rw[Lib.byteCells_length,bs_size];exact hlen) hBw).mono fun e w' hw=>⟨hw.1,.inr (by rw[Lib.byteCells_append];exact hw.2.1),hw.2.2.1⟩
theorem builder_new {w:World} {B:Nat} (hB:B≤w.heap.size):Lib.IsBuilderF 36 5 B w.heap.size (Lib.byteCells []) (w.alloc (.cells #[.pointer none,.slice none 0 0] 36)) :=
 .inl ⟨hB,.slice none 0 0,heap_alloc_new w _,World.ownsRowF_nil _ _ _ _,by simp[Value.ownBlock]⟩
theorem builder_below {B b:Nat} {xs:List Value} {W W':World} (h:Lib.IsBuilderF 36 5 B b xs W) (hb:Below W.heap.size W W'):Lib.IsBuilderF 36 5 B b xs W':=by
 have go:∀p,Lib.BuilderAtF 36 5 B b p xs W→Lib.BuilderAtF 36 5 B b p xs W':=fun p h=>by
  have hlt:=h.lt
  obtain⟨hB,v,hv,hown,hne⟩:=h
  exact⟨hB,v,(hb.block b hlt).trans hv,hown.kept (row:=none) ⟨hb.os,hb.tape,hb.output,hb.size,fun k hk _=>hb.block k hk⟩ (Classical.em _),hne⟩
 exact h.elim (fun x=>.inl (go _ x)) (fun x=>.inr (go _ x))
end
section
section
open Go.RowKit Go.Lib
attribute [local go_sem ↓] Go.wp_at_zero Go.wp_at_succ
def RF:Value→Option (DataW Unit×List MemPlace)
 | .func (.func f) a b=>if a.size=0∧b.size=0 then some (.lit (.int .i64 (f:Int)),[]) else none
 | _=>none
theorem RF_inv {v:Value} {y:DataW Unit×List MemPlace} {f:Nat} (h:RF v=some y) (hy:y.1=.lit (.int .i64 (f:Int))):v=.func (.func f) #[] #[]:=by
 unfold RF at h
 split at h
 ·rename_i g a b
  split at h
  ·rename_i hab
   injection h with h
   subst h
   simp only at hy
   injection hy with hy
   injection hy with _ hy
   have hgf:g=f:=by exact_mod_cast hy
   rw[hgf,Array.eq_empty_of_size_eq_zero hab.1,Array.eq_empty_of_size_eq_zero hab.2]
  ·cases h
 ·cases h
def reqL:List (List UInt8×Nat):=[([103,114,111,117,110,100],59),([116,101,114,109,115],60),([104,117,110,100],61),([108,101,118,101,108,115],62),([102,97,99,116,111,114],63),([99,108,101,98,115,99,104],64),([115,105,120],65),([115,112,108,105,116],66)]
def putL (D:DataW Unit) (p:List UInt8×Nat):DataW Unit:=D.put (.string p.1) (.lit (.int .i64 (p.2:Int)))
def reqD:DataW Unit:=reqL.foldl putL (.map [])
def cmdOf (l:List UInt8):Option Nat:=reqL.foldl (fun acc p=>if l=p.1 then some p.2 else acc) none
def atO (o:Option Nat) (zd:DataW Unit):DataW Unit:=match o with
 | some f=>.lit (.int .i64 (f:Int))
 | none=>zd
theorem kstr (l:List UInt8):WideAt.IsKeyLit (.string l):=by trivial
theorem at_fold (l:List UInt8):∀(xs:List (List UInt8×Nat)) (D:DataW Unit) (o:Option Nat),Maps.IsMap D→(∀zd,D.atKey (.string l) zd=atO o zd)→∀zd,(xs.foldl putL D).atKey (.string l) zd=atO (xs.foldl (fun acc p=>if l=p.1 then some p.2 else acc) o) zd:=by
 intro xs
 induction xs with
 | nil=>intro D o _ h zd;exact h zd
 | cons p ps ih =>
  intro D o hm h zd
  refine ih (putL D p) _ ?_ ?_ zd
  ·exact hm.put _ _
  ·intro zd
   dsimp only
   by_cases hl:l=p.1
   ·rw[if_pos hl]
    unfold putL
    rw[hl,Maps.atKey_put_same hm (kstr _)];rfl
   ·rw[if_neg hl]
    unfold putL
    rw[Maps.atKey_put_other (fun e=>hl (by injection e))]
    exact h zd
theorem req_at (l:List UInt8) (zd:DataW Unit):reqD.atKey (.string l) zd=atO (cmdOf l) zd:=at_fold l reqL (.map []) none ⟨[],rfl⟩ (fun _=>rfl) zd
def Req (w:World) (b:Nat):Prop:=w.ownsMap Tryz.prog 9 RF b 8 reqD
theorem zeroF (u:World):(zeroValue 64).run Tryz.prog u=.ok .nilFunc u:=by kernel_rfl
def lookV (l:List UInt8):Value:=match cmdOf l with
 | some f=>.tuple #[.func (.func f) #[] #[],.bool true]
 | none=>.tuple #[.nilFunc,.bool false]
theorem bs_data (l:List UInt8):(bs l).data.toList=l:=by simp[bs]
theorem req_look {w:World} {b:Nat} (h:Req w b) (l:List UInt8) (hl:l.length≤1000000):(Instr.lookup 66 (.map (some b)) (.string (bs l)) true).run Tryz.prog w=.ok (lookV l) w:=by
 obtain⟨es,clock,hb,F,_,hD⟩:=h
 have hk:keyOf Tryz.prog 9 (.string (bs l))=some (.string l):=by
  rw[Go.WideMaps.keyOf_string_mk Tryz.underlying9 (by rw[bs_size];unfold maxLen;omega),bs_data]
 rcases Maps.fit_look true (Maps.string_keyed Tryz.underlying9) Tryz.underlying66 (zeroF w) hb F hk with ⟨hrun,_,hat⟩ | ⟨e0,y,_,_,hrun,hRv,hat,_⟩
 ·rw[hrun]
  rw[←hD] at hat
  unfold lookV
  have h1:=hat (.lit (.bool true))
  have h2:=hat (.lit (.bool false))
  rw[req_at] at h1 h2
  cases hc:cmdOf l with
  | none=>rfl
  | some f=>rw[hc] at h1;simp[atO] at h1
 ·rw[hrun]
  rw[←hD] at hat
  unfold lookV
  have h1:=hat (.lit (.bool true))
  have h2:=hat (.lit (.bool false))
  rw[req_at] at h1 h2
  cases hc:cmdOf l with
  | none =>
   rw[hc] at h1 h2
   simp only[atO] at h1 h2
   rw[←h1] at h2
   cases h2
  | some f =>
   rw[hc] at h1
   rw[RF_inv hRv h1.symm]
   rfl
theorem requests_any (w:World) :
 Calls Tryz.prog 36 #[] w fun e w'=>e=.returned (.map (some w.heap.size))∧Req w' w.heap.size∧Below w.heap.size w w':=by
 have hmm:=@run_makeMap Tryz.prog
 have K:=Maps.string_keyed (P:=Tryz.prog) Tryz.underlying9
 have hT:=Tryz.underlying66
 have o0:=World.ownsMap_made (H:=Unit) w Tryz.prog 9 RF
 obtain⟨w1,r1,o1,g1⟩:=o0.update K hT (by unfold maxLen;omega) (Go.WideMaps.keyOf_string_mk Tryz.underlying9 (s:=⟨#[103,114,111,117,110,100]⟩) (by unfold maxLen;decide)) (show RF (.func (.func 59) #[] #[])=some _ from rfl)
 obtain⟨w2,r2,o2,g2⟩:=o1.update K hT (by unfold maxLen;omega) (Go.WideMaps.keyOf_string_mk Tryz.underlying9 (s:=⟨#[116,101,114,109,115]⟩) (by unfold maxLen;decide)) (show RF (.func (.func 60) #[] #[])=some _ from rfl)
 obtain⟨w3,r3,o3,g3⟩:=o2.update K hT (by unfold maxLen;omega) (Go.WideMaps.keyOf_string_mk Tryz.underlying9 (s:=⟨#[104,117,110,100]⟩) (by unfold maxLen;decide)) (show RF (.func (.func 61) #[] #[])=some _ from rfl)
 obtain⟨w4,r4,o4,g4⟩:=o3.update K hT (by unfold maxLen;omega) (Go.WideMaps.keyOf_string_mk Tryz.underlying9 (s:=⟨#[108,101,118,101,108,115]⟩) (by unfold maxLen;decide)) (show RF (.func (.func 62) #[] #[])=some _ from rfl)
 obtain⟨w5,r5,o5,g5⟩:=o4.update K hT (by unfold maxLen;omega) (Go.WideMaps.keyOf_string_mk Tryz.underlying9 (s:=⟨#[102,97,99,116,111,114]⟩) (by unfold maxLen;decide)) (show RF (.func (.func 63) #[] #[])=some _ from rfl)
 obtain⟨w6,r6,o6,g6⟩:=o5.update K hT (by unfold maxLen;omega) (Go.WideMaps.keyOf_string_mk Tryz.underlying9 (s:=⟨#[99,108,101,98,115,99,104]⟩) (by unfold maxLen;decide)) (show RF (.func (.func 64) #[] #[])=some _ from rfl)
 obtain⟨w7,r7,o7,g7⟩:=o6.update K hT (by unfold maxLen;omega) (Go.WideMaps.keyOf_string_mk Tryz.underlying9 (s:=⟨#[115,105,120]⟩) (by unfold maxLen;decide)) (show RF (.func (.func 65) #[] #[])=some _ from rfl)
 obtain⟨w8,r8,o8,g8⟩:=o7.update K hT (by unfold maxLen;omega) (Go.WideMaps.keyOf_string_mk Tryz.underlying9 (s:=⟨#[115,112,108,105,116]⟩) (by unfold maxLen;decide)) (show RF (.func (.func 66) #[] #[])=some _ from rfl)
 have HR:Hid (Req w8 w.heap.size):=o8
 have HG:Hid (World.grownBy (w.alloc (.map #[] 0)) w8 (some w.heap.size)):=gb_trans g1 (gb_trans g2 (gb_trans g3 (gb_trans g4 (gb_trans g5 (gb_trans g6 (gb_trans g7 g8))))))
 have HB:Hid (Below w.heap.size w w8):=((Below.refl w.heap.size w).alloc (Nat.le_refl _) (.map #[] 0)).grown HG.out (by simp) (fun k e=>by cases e;exact Nat.le_refl _)
 go_enter Tryz.func36,Tryz.ntmps36
 go_wp2_with fail
 go_ret
 exact⟨rfl,HR.out,HB.out⟩
end
section
open Go.RowKit Go.Lib
theorem catch_idle (p:Addr) (w:World) :
 CallsD Tryz.prog 35 #[.pointer (some p)] .returning w fun e u' w'=>e=.returned (.tuple #[])∧u'=.returning∧w'=w:=by
 refine callsD_of_wpS Tryz.func35 rfl fun c₀ cs hu=>?_
 apply wpS_seq
 apply wpS_region
 simp[wpOpsS,go_sem,recoverD,hu,Tryz.ntmps35,Exit.thenS]
 apply wpS_seq
 apply wpS_region
 simp[wpOpsS,go_sem,Act.eval,Array.replicate,Exit.thenS]
 refine wpS_cond (t:=false) (by simp[Act.eval]) ?_
 simp only[Bool.false_eq_true,if_false]
 refine wpS_of_wp (wp_skip ?_)
 cases c₀
 simp_all [bodyPostS,results,Tryz.results35]
theorem sz_ad (w:World) (o:Obj):((w.alloc o).drew).heap.size=w.heap.size+1:=by show(w.alloc o).heap.size=_;simp
theorem tail_slice (b n:Nat) (hn:0<n) (hn1:n≤1000) (w:World):(Instr.slice 32 (.slice (some ⟨b,0,none⟩) n n) (some (.int .i64 1)) none none).run Tryz.prog w=.ok (.slice (some ⟨b,if n=1 then 0 else 1,none⟩) (n-1) (n-1)) w:=by
 have hs:(sizeOf (Tryz.prog.elem 32)).run Tryz.prog w=.ok 1 w:=by kernel_rfl
 rw[run_slice_l w 32 _ n n (show Tryz.prog.underlying 32=some (.slice (Tryz.prog.elem 32)) by kernel_rfl) .i64 1 (by omega) (by omega),hs]
 simp only[Result.andThen_ok,sliced,Option.map_some,Nat.mul_one]
 show Result.ok (Value.slice (if n=1 then some ⟨b,0,none⟩ else some ((⟨b,0,none⟩:Addr).add 1)) (n-1) (n-1)) w=_
 split<;>simp[Addr.add]
def wcs (ls:List (List UInt8)):Array Value:=(ls.map fun x=>Value.string (bs x)).toArray
def noT:ByteArray:=⟨#[110,111]⟩
theorem answer_any (b n:Nat) (ls:List (List UInt8)) (l0:List UInt8) (f:Nat) (O:ByteArray) (d:Bool) (w:World) (hn:ls.length=n) (h0:ls[0]?=some l0) (hl:l0.length≤1000) (hn1:n≤1000) (hb:Blk w b 9 (wcs ls)) (hf:cmdOf l0=some f) (hen:∀(args:Array Value) (W:World),(callFunc f args).run Tryz.prog W=.ok (.enter f args) W)
 (HF:∀W,Below w.heap.size w W→Calls Tryz.prog f #[.agg #[.slice (some ⟨b,if n=1 then 0 else 1,none⟩) (n-1) (n-1)]] W fun e w'=>e=.returned (.tuple #[.string O,.bool d])∧Below W.heap.size W w') :
 Calls Tryz.prog 19 #[.slice (some ⟨b,0,none⟩) n n] w fun e w'=>e=.returned (.string (if d then O else noT))∧Below w.heap.size w w':=by
 have hmf:∀(fn:Fn) (first cap:Array Value) (w:World),(Instr.makeFunc fn first cap).run Tryz.prog w=.ok (.func fn first cap) w:=fun _ _ _ _=>rfl
 have hpos:0<n:=by
  rcases Nat.eq_zero_or_pos n with h | h
  ·subst h
   rw[List.length_eq_zero_iff.1 hn] at h0
   cases h0
  ·exact h
 have hal:Below w.heap.size w (w.alloc (.cells #[.string ⟨#[]⟩] 9)):=(Below.refl _ _).alloc (Nat.le_refl _) _
 have HAL:=kk hal
 have HOUT:=kk (Blk.new w 9 #[.string ⟨#[]⟩])
 have hbA:=hb.sub hal
 have hc0:(w.alloc (.cells #[.string ⟨#[]⟩] 9)).drew.cell? ⟨b,0,none⟩=some (.string (bs l0)):=by
  rw[(hbA.drew).cell 0]
  simp[wcs,h0]
 have HBA:=kk hbA;clear hbA hal
 have HC0:=kk hc0
 have HB:=kk hb;have HFF:=kk HF;have H0:=kk h0;have HN:=kk hn
 have HLK:=kk (fun(W:World) (B:Nat) (h:Req W B)=>req_look h l0 (by omega))
 have HLV:Hid (lookV l0=.tuple #[.func (.func f) #[] #[],.bool true]):=by unfold Hid lookV;rw[hf]
 rw[HLV.out] at HLK
 clear hb HF h0 hn hf
 obtain⟨L0,hL0⟩:∃L0,bs l0=L0:=⟨_,rfl⟩
 rw[hL0] at hc0 HLK HC0
 clear hL0
 go_enter_defers Tryz.func19,Tryz.ntmps19
 go_wp2_with fail
 go_region_held3 (fun w'=>w'.cell? ⟨b,0,none⟩=some (.string L0)) (first | exact hc0 | assumption) ((go_at_call 36;refine(requests_any _).mono ?_;rintro e w2 ⟨rfl,hreq,hb2⟩;rw[sz_ad] at hreq;have hlk:=HLK.out _ _ hreq;have hc2:=(hb2.cell (World.block_lt_of_cell? _ _ HC0.out)).trans HC0.out))
 have HREQ:=kk hreq
 have HB2:Hid (Below w.heap.size w w2):=kk (HAL.out.trans ((show Below (w.alloc (.cells #[.string ⟨#[]⟩] 9)).heap.size (w.alloc (.cells #[.string ⟨#[]⟩] 9)) w2 from⟨hb2.os,hb2.tape,hb2.output,hb2.size,hb2.block⟩).mono (by simp)))
 have HO2:=kk ((HOUT.out.drew).sub hb2)
 clear hreq hb2 hlk hc2 hc0
 have hsl:=tail_slice b n hpos hn1
 have HCALL:=kk (HFF.out w2 HB2.out)
 obtain⟨ad,had⟩:∃ad:Addr,(⟨b,if n=1 then 0 else 1,none⟩:Addr)=ad:=⟨_,rfl⟩
 rw[had] at HCALL hsl
 clear had
 have hen':=hen #[.agg #[.slice (some ad) (n-1) (n-1)]] w2
 have HEN:=kk hen;clear hen
 go_wp2_with fail
 refine HCALL.out.mono ?_
 rintro e w3 ⟨rfl,hb3⟩
 have HB3:=kk (HB2.out.trans (hb3.mono HB2.out.size))
 have HO3:=kk (HO2.out.sub hb3)
 clear hb3 hen'
 obtain⟨y1,y2⟩:=blk1 HO3.out
 cases d
 ·have HZ:=kk (HB3.out.setCell (p:=⟨w.heap.size,0,none⟩) (Nat.le_refl _) (.string ⟨#[110,111]⟩))
  have z1:(w3.setCell ⟨w.heap.size,0,none⟩ (.string ⟨#[110,111]⟩)).cell? ⟨w.heap.size,0,none⟩=some (.string ⟨#[110,111]⟩):=(HO3.out.set 0 _).cell 0
  go_wp2_with fail
  refine leaves_cons (f:=35) (args:=#[.pointer (some ⟨w.heap.size,0,none⟩)]) (by simp) (by simp[go_sem]) ?_
  refine(catch_idle ⟨w.heap.size,0,none⟩ _).mono ?_
  rintro e u' w4 ⟨rfl,rfl,rfl⟩
  simp[Leaves,settle,results,Tryz.results19,go_sem,z1]
  exact⟨rfl,HZ.out⟩
 ·have HZ:=kk (HB3.out.setCell (p:=⟨w.heap.size,0,none⟩) (Nat.le_refl _) (.string O))
  have z1:(w3.setCell ⟨w.heap.size,0,none⟩ (.string O)).cell? ⟨w.heap.size,0,none⟩=some (.string O):=(HO3.out.set 0 _).cell 0
  go_wp2_with fail
  refine leaves_cons (f:=35) (args:=#[.pointer (some ⟨w.heap.size,0,none⟩)]) (by simp) (by simp[go_sem]) ?_
  refine(catch_idle ⟨w.heap.size,0,none⟩ _).mono ?_
  rintro e u' w4 ⟨rfl,rfl,rfl⟩
  simp[Leaves,settle,results,Tryz.results19,go_sem,z1]
  exact HZ.out
end
section
open Go.RowKit Go.Lib
attribute [local go_sem ↓] Go.wp_at_zero Go.wp_at_succ
def outP (outs:List (List UInt8)):Nat→List UInt8
 | 0=>[]
 | k+1=>outP outs k++(outs.getD k []++[10])
theorem outP_len (outs:List (List UInt8)) (h:∀k,(outs.getD k []).length≤10000):∀k,(outP outs k).length≤10001*k:=by
 intro k
 induction k with
 | zero=>simp[outP]
 | succ k ih=>have:=h k;simp only[outP,List.length_append,List.length_cons,List.length_nil];omega
def linesT:List UInt8:=[108,105,110,101,115,32]
def outT (outs:List (List UInt8)) (n:Nat):List UInt8:=outP outs n++linesT++decDigits n++[10]
theorem head_slice (b n:Nat) (hn1:n≤1000) (w:World):(Instr.slice 32 (.slice (some ⟨b,0,none⟩) (n+1) (n+1)) none (some (.int .i64 (n:Int))) none).run Tryz.prog w=.ok (.slice (some ⟨b,0,none⟩) n (n+1)) w:=by
 have hs:(sizeOf (Tryz.prog.elem 32)).run Tryz.prog w=.ok 1 w:=by kernel_rfl
 rw[run_slice_h w 32 _ (n+1) (n+1) (show Tryz.prog.underlying 32=some (.slice (Tryz.prog.elem 32)) by kernel_rfl) .i64 n (by omega) (by omega),hs]
 simp[sliced,Addr.add]
end
end
section
open Go.RowKit Go.Lib
attribute [local go_sem ↓] Go.wp_at_zero Go.wp_at_succ
def dval (l:List UInt8):Nat:=l.foldl (fun v c=>v*10+(c.toNat-48)) 0
theorem dval_snoc (l:List UInt8) (c:UInt8):dval (l++[c])=dval l*10+(c.toNat-48):=by simp[dval]
theorem dd_ind (P:Nat→Prop) (h1:∀n,n<10→P n) (h2:∀n,10≤n→P (n / 10)→P n) (n:Nat):P n:=by
 induction n using Nat.strongRecOn with
 | ind n ih =>
  rcases Nat.lt_or_ge n 10 with h | h
  ·exact h1 n h
  ·exact h2 n h (ih _ (by omega))
theorem digit_nat (d:Nat) (h:d<10):(UInt8.ofNat (48+d)).toNat=48+d:=by
 rw[UInt8.toNat_ofNat'];omega
theorem dd_all (n:Nat):∀c∈decDigits n,48≤c.toNat∧c.toNat≤57:=by
 refine dd_ind (fun n=>∀c∈decDigits n,48≤c.toNat∧c.toNat≤57) (fun n h=>?_) (fun n h ih=>?_) n
 ·rw[decDigits_one h];intro c hc
  rw[List.mem_singleton] at hc;subst hc;rw[digit_nat n h];omega
 ·rw[dig_step h];intro c hc
  rw[List.mem_append,List.mem_singleton] at hc
  rcases hc with hc | rfl
  ·exact ih c hc
  ·rw[digit_nat _ (by omega)];omega
theorem dval_le (l:List UInt8) (h:∀c∈l,c.toNat≤57):dval l<10 ^ l.length:=by
 have:∀r:List UInt8,(∀c∈r,c.toNat≤57)→dval r.reverse<10 ^ r.length:=by
  intro r
  induction r with
  | nil=>intro _;simp[dval]
  | cons c r ih =>
   intro hr
   have:=ih (fun x hx=>hr x (by simp[hx]))
   have hc:=hr c (by simp)
   rw[List.reverse_cons,dval_snoc,List.length_cons,Nat.pow_succ]
   omega
 have h2:=this l.reverse (by simpa using h)
 simpa using h2
theorem conv_str (l:List UInt8) (w:World):∃(c:Nat) (W1:World),(convert 9 22 (.string (bs l))).run Tryz.prog w=.ok (.slice (some ⟨w.heap.size,0,none⟩) (bs l).size c) W1∧Below w.heap.size w W1 ∧
 ∀j x,l[j]?=some x→W1.cell? ⟨w.heap.size,j,none⟩=some (.int .u8 (x.toNat:Int)):=by
 refine⟨_,_,run_bytes_of_string w _ _ _ (bs l) Tryz.underlying9 Tryz.underlying22 Tryz.underlying5,(Below.refl _ _).drew.alloc (Nat.le_refl _) _,fun j x hx=>?_⟩
 have hj:j<l.length:=by
  rcases Nat.lt_or_ge j l.length with h1 | h1
  ·exact h1
  ·rw[List.getElem?_eq_none h1] at hx;cases hx
 refine(cell_of_row (w.drew.alloc _) w.heap.size j _ _ _ (heap_alloc_new w.drew _)).trans ?_
 rw[bytesRow_at (bs l) _ j (by rw[show(bs l).data.size=l.length by simp[bs]];exact hj)]
 rw[List.getElem?_eq_getElem hj] at hx
 injection hx with hx
 rw[←hx];simp[bs]
theorem idx_str (l:List UInt8) (x:UInt8) (hx:l[0]?=some x) (W:World):(Instr.index 9 (.string (bs l)) (.int .i64 0)).run Tryz.prog W=.ok (.int .u8 (x.toNat:Int)) W:=by
 have hj:0<l.length:=by
  rcases Nat.lt_or_ge 0 l.length with h1 | h1
  ·exact h1
  ·rw[List.getElem?_eq_none h1] at hx;cases hx
 rw[run_index_string (h:=Tryz.underlying9),dif_pos ⟨by omega,by rw[bs_size];omega⟩]
 have:(bs l)[0]'(by rw[bs_size];exact hj)=x:=by
  rw[List.getElem?_eq_getElem hj] at hx
  injection hx
 simp only[Int.toNat_zero]
 rw[this]
theorem atoiIn_any (l:List UInt8) (w:World) (hl:0<l.length) (h7:l.length≤9) (hd:∀c∈l,48≤c.toNat∧c.toNat≤57) :
 Calls Tryz.prog 213 #[.string (bs l)] w fun e w'=>e=.returned (.tuple #[.int .i64 (dval l:Nat),.nilIface])∧Below w.heap.size w w':=by
 obtain⟨c,W1,hconv,hb1,hcell⟩:=conv_str l w
 obtain⟨x,hx⟩:∃x,l[0]?=some x:=⟨l[0],List.getElem?_eq_getElem hl⟩
 have hidx:=idx_str l x hx
 have hxd:=hd x (List.mem_of_getElem? hx)
 have HC:=kk hcell;have HB:=kk hb1;have HD:=kk hd
 clear hcell hb1 hd hx
 have hsz:(bs l).size=l.length:=bs_size l
 obtain⟨n,hn⟩:∃n,l.length=n:=⟨_,rfl⟩
 rw[hn] at hsz hl h7
 have HN:=kk hn;clear hn
 obtain⟨s,hs⟩:∃s,bs l=s:=⟨_,rfl⟩
 rw[hs] at hsz hidx hconv ⊢
 rw[hsz] at hconv
 clear hs
 have e1:((x.toNat:Int)==45)=false:=by simp;omega
 have e2:((x.toNat:Int)==43)=false:=by simp;omega
 have i0:(0:Int)<(n:Int):=by omega
 have i1:(n:Int)<19:=by omega
 generalize (x.toNat:Int)=xi at *
 go_enter Tryz.func213,Tryz.ntmps213
 go_wp2_with fail
 go_loop [6,49] (fun v i=>∃k:Nat,k≤n∧i=.int .i64 k∧v=.int .i64 (dval (l.take k):Nat)) (fun _ i=>n-(RowKit.intOf i).toNat)
 case atStart=>exact⟨0,Nat.zero_le _,rfl,rfl⟩
 case round =>
  clear hconv
  obtain⟨k,hk,rfl,rfl⟩:=hrel
  by_cases hlt:k<n
  ·obtain⟨y,hy⟩:∃y,l[k]?=some y:=⟨l[k]'(by rw[HN.out];exact hlt),List.getElem?_eq_getElem _⟩
   have hyc:=HC.out k y hy
   have hyd:=HD.out y (List.mem_of_getElem? hy)
   have HTK:Hid (dval (l.take (k+1))=dval (l.take k)*10+(y.toNat-48)):=by
    unfold Hid
    rw[List.take_add_one,hy,←dval_snoc];rfl
   have hvb:dval (l.take k)≤1000000000:=by
    have h1:=dval_le (l.take k) (fun z hz=>(HD.out z (List.mem_of_mem_take hz)).2)
    have h2:(l.take k).length≤9:=by have:=List.length_take_le k l;omega
    have h3:=Nat.pow_le_pow_right (show 0<10 by omega) h2
    omega
   clear hy
   generalize dval (l.take k)=v at *
   obtain⟨yn,hyn⟩:∃yn,y.toNat=yn:=⟨_,rfl⟩
   rw[hyn] at hyc hyd HTK
   clear hyn
   go_wp2_with fail
   go_round
   case rel=>exact⟨k+1,by omega,by go_num,by rw[HTK.out];exact congrArg (Value.int .i64) (by omega)⟩
   case measure=>simp[RowKit.intOf];omega
  ·obtain rfl:k=n:=by omega
   have HV:Hid (dval (l.take k)=dval l):=by unfold Hid;rw[List.take_of_length_le (by rw[HN.out];exact Nat.le_refl _)]
   rw[HV.out]
   go_wp2_with fail
   go_ret2
   exact⟨rfl,HB.out⟩
theorem atoi_any (l:List UInt8) (w:World) (hl:0<l.length) (h7:l.length≤9) (hd:∀c∈l,48≤c.toNat∧c.toNat≤57) :
 Calls Tryz.prog 148 #[.string (bs l)] w fun e w'=>e=.returned (.tuple #[.int .i64 (dval l:Nat),.nilIface])∧Below w.heap.size w w':=by
 have HA:=kk (atoiIn_any l w hl h7 hd)
 clear hl h7 hd
 generalize bs l=s at *
 generalize dval l=v at *
 go_enter Tryz.func148,Tryz.ntmps148
 go_wp2_with fail
 refine HA.out.mono ?_
 rintro e w1 ⟨rfl,hb⟩
 have HB:=kk hb;clear hb
 go_wp2_with fail
 go_ret2
 exact⟨rfl,HB.out⟩
end
end Go.Proofs.YtcjebnffpbnljaaGreatDoor
