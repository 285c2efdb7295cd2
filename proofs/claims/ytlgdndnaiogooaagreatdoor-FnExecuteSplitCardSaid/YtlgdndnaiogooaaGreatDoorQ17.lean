/- Parts of the proof of : Ex. -/
import Derived.Test.YtlgdndnaiogooaaGreatDoorQ16
import Derived.Deep.RegionHeld3
set_option maxHeartbeats 20000000
set_option maxRecDepth 1000000
set_option linter.unusedSimpArgs false
set_option linter.unusedVariables false
namespace Go.Proofs.YtlgdndnaiogooaaGreatDoor
section
section
open Go.RowKit Go.Lib
attribute [local go_sem ↓] Go.wp_at_zero Go.wp_at_succ
def RF:Value→Option (DataW Unit × List MemPlace)
 | .func (.func f) a b=>if a.size=0∧b.size=0 then some (.lit (.int .i64 (f:Int)),[]) else none
 | _=>none
theorem RF_inv {v:Value} {y:DataW Unit × List MemPlace} {f:Nat} (h:RF v=some y) (hy:y.1=.lit (.int .i64 (f:Int))):v=.func (.func f) #[] #[]:=by
 unfold RF at h
 split at h
 ·rename_i g a b
  split at h
  ·rename_i hab
   injection h with h
   subst h
   simp only at hy
   injection hy with hy
   injection hy with _ hy
   have hgf:g=f:=by exact_mod_cast hy
   rw [hgf,Array.eq_empty_of_size_eq_zero hab.1,Array.eq_empty_of_size_eq_zero hab.2]
  ·cases h
 ·cases h
def reqL:List (List UInt8 × Nat):=[([103,114,111,117,110,100],125),([116,101,114,109,115],126),([104,117,110,100],127),([108,101,118,101,108,115],128),([102,97,99,116,111,114],129),([99,108,101,98,115,99,104],130),([115,105,120],131),([115,112,108,105,116],132)]
def putL (D:DataW Unit) (p:List UInt8 × Nat):DataW Unit:=D.put (.string p.1) (.lit (.int .i64 (p.2:Int)))
def reqD:DataW Unit:=reqL.foldl putL (.map [])
def cmdOf (l:List UInt8):Option Nat:=reqL.foldl (fun acc p=>if l=p.1 then some p.2 else acc) none
def atO (o:Option Nat) (zd:DataW Unit):DataW Unit:=match o with
 | some f=>.lit (.int .i64 (f:Int))
 | none=>zd
theorem kstr (l:List UInt8):WideAt.IsKeyLit (.string l):=by trivial
theorem at_fold (l:List UInt8):∀(xs:List (List UInt8 × Nat)) (D:DataW Unit) (o:Option Nat),Maps.IsMap D→(∀zd,D.atKey (.string l) zd=atO o zd)→∀zd,(xs.foldl putL D).atKey (.string l) zd=atO (xs.foldl (fun acc p=>if l=p.1 then some p.2 else acc) o) zd:=by
 intro xs
 induction xs with
 | nil=>intro D o _ h zd;exact h zd
 | cons p ps ih =>
  intro D o hm h zd
  refine ih (putL D p) _ ?_ ?_ zd
  ·exact hm.put _ _
  ·intro zd
   dsimp only
   by_cases hl:l=p.1
   ·rw [if_pos hl]
    unfold putL
    rw [hl,Maps.atKey_put_same hm (kstr _)];rfl
   ·rw [if_neg hl]
    unfold putL
    rw [Maps.atKey_put_other (fun e=>hl (by injection e))]
    exact h zd
theorem req_at (l:List UInt8) (zd:DataW Unit):reqD.atKey (.string l) zd=atO (cmdOf l) zd:=at_fold l reqL (.map []) none ⟨[],rfl⟩ (fun _=>rfl) zd
def Req (w:World) (b:Nat):Prop:=w.ownsMap Tryz.prog 9 RF b 8 reqD
theorem zeroF (u:World):(zeroValue 130).run Tryz.prog u=.ok .nilFunc u:=by kernel_rfl
def lookV (l:List UInt8):Value:=match cmdOf l with
 | some f=>.tuple #[.func (.func f) #[] #[],.bool true]
 | none=>.tuple #[.nilFunc,.bool false]
theorem bs_data (l:List UInt8):(bs l).data.toList=l:=by simp [bs]
theorem req_look {w:World} {b:Nat} (h:Req w b) (l:List UInt8) (hl:l.length≤1000000):(Instr.lookup 132 (.map (some b)) (.string (bs l)) true).run Tryz.prog w=.ok (lookV l) w:=by
 obtain ⟨es,clock,hb,F,_,hD⟩:=h
 have hk:keyOf Tryz.prog 9 (.string (bs l))=some (.string l):=by
  rw [Go.WideMaps.keyOf_string_mk Tryz.underlying9 (by rw [bs_size];unfold maxLen;omega),bs_data]
 rcases Maps.fit_look true (Maps.string_keyed Tryz.underlying9) Tryz.underlying132 (zeroF w) hb F hk with ⟨hrun,_,hat⟩ | ⟨e0,y,_,_,hrun,hRv,hat,_⟩
 ·rw [hrun]
  rw [←hD] at hat
  unfold lookV
  have h1:=hat (.lit (.bool true))
  have h2:=hat (.lit (.bool false))
  rw [req_at] at h1 h2
  cases hc:cmdOf l with
  | none=>rfl
  | some f=>rw [hc] at h1;simp [atO] at h1
 ·rw [hrun]
  rw [←hD] at hat
  unfold lookV
  have h1:=hat (.lit (.bool true))
  have h2:=hat (.lit (.bool false))
  rw [req_at] at h1 h2
  cases hc:cmdOf l with
  | none =>
   rw [hc] at h1 h2
   simp only [atO] at h1 h2
   rw [←h1] at h2
   cases h2
  | some f =>
   rw [hc] at h1
   rw [RF_inv hRv h1.symm]
   rfl
theorem requests_any (w:World) :
 Calls Tryz.prog 92 #[] w fun e w'=>e=.returned (.map (some w.heap.size))∧Req w' w.heap.size∧Below w.heap.size w w':=by
 have hmm:=@run_makeMap Tryz.prog
 have K:=Maps.string_keyed (P:=Tryz.prog) Tryz.underlying9
 have hT:=Tryz.underlying132
 have o0:=World.ownsMap_made (H:=Unit) w Tryz.prog 9 RF
 obtain ⟨w1,r1,o1,g1⟩:=o0.update K hT (by unfold maxLen;omega) (Go.WideMaps.keyOf_string_mk Tryz.underlying9 (s:=⟨#[103,114,111,117,110,100]⟩) (by unfold maxLen;decide)) (show RF (.func (.func 125) #[] #[])=some _ from rfl)
 obtain ⟨w2,r2,o2,g2⟩:=o1.update K hT (by unfold maxLen;omega) (Go.WideMaps.keyOf_string_mk Tryz.underlying9 (s:=⟨#[116,101,114,109,115]⟩) (by unfold maxLen;decide)) (show RF (.func (.func 126) #[] #[])=some _ from rfl)
 obtain ⟨w3,r3,o3,g3⟩:=o2.update K hT (by unfold maxLen;omega) (Go.WideMaps.keyOf_string_mk Tryz.underlying9 (s:=⟨#[104,117,110,100]⟩) (by unfold maxLen;decide)) (show RF (.func (.func 127) #[] #[])=some _ from rfl)
 obtain ⟨w4,r4,o4,g4⟩:=o3.update K hT (by unfold maxLen;omega) (Go.WideMaps.keyOf_string_mk Tryz.underlying9 (s:=⟨#[108,101,118,101,108,115]⟩) (by unfold maxLen;decide)) (show RF (.func (.func 128) #[] #[])=some _ from rfl)
 obtain ⟨w5,r5,o5,g5⟩:=o4.update K hT (by unfold maxLen;omega) (Go.WideMaps.keyOf_string_mk Tryz.underlying9 (s:=⟨#[102,97,99,116,111,114]⟩) (by unfold maxLen;decide)) (show RF (.func (.func 129) #[] #[])=some _ from rfl)
 obtain ⟨w6,r6,o6,g6⟩:=o5.update K hT (by unfold maxLen;omega) (Go.WideMaps.keyOf_string_mk Tryz.underlying9 (s:=⟨#[99,108,101,98,115,99,104]⟩) (by unfold maxLen;decide)) (show RF (.func (.func 130) #[] #[])=some _ from rfl)
 obtain ⟨w7,r7,o7,g7⟩:=o6.update K hT (by unfold maxLen;omega) (Go.WideMaps.keyOf_string_mk Tryz.underlying9 (s:=⟨#[115,105,120]⟩) (by unfold maxLen;decide)) (show RF (.func (.func 131) #[] #[])=some _ from rfl)
 obtain ⟨w8,r8,o8,g8⟩:=o7.update K hT (by unfold maxLen;omega) (Go.WideMaps.keyOf_string_mk Tryz.underlying9 (s:=⟨#[115,112,108,105,116]⟩) (by unfold maxLen;decide)) (show RF (.func (.func 132) #[] #[])=some _ from rfl)
 have HR:Hid (Req w8 w.heap.size):=o8
 have HG:Hid (World.grownBy (w.alloc (.map #[] 0)) w8 (some w.heap.size)):=gb_trans g1 (gb_trans g2 (gb_trans g3 (gb_trans g4 (gb_trans g5 (gb_trans g6 (gb_trans g7 g8))))))
 have HB:Hid (Below w.heap.size w w8):=((Below.refl w.heap.size w).alloc (Nat.le_refl _) (.map #[] 0)).grown HG.out (by simp) (fun k e=>by cases e;exact Nat.le_refl _)
 go_enter Tryz.func92,Tryz.ntmps92
 go_wp2_with fail
 go_ret
 exact ⟨rfl,HR.out,HB.out⟩
end
section
open Go.RowKit Go.Lib
theorem catch_idle (p:Addr) (w:World) :
 CallsD Tryz.prog 91 #[.pointer (some p)] .returning w fun e u' w'=>e=.returned (.tuple #[])∧u'=.returning∧w'=w:=by
 refine callsD_of_wpS Tryz.func91 rfl fun c₀ cs hu=>?_
 apply wpS_seq
 apply wpS_region
 simp [wpOpsS,go_sem,recoverD,hu,Tryz.ntmps91,Exit.thenS]
 apply wpS_seq
 apply wpS_region
 simp [wpOpsS,go_sem,Act.eval,Array.replicate,Exit.thenS]
 refine wpS_cond (t:=false) (by simp [Act.eval]) ?_
 simp only [Bool.false_eq_true,if_false]
 refine wpS_of_wp (wp_skip ?_)
 cases c₀
 simp_all [bodyPostS,results,Tryz.results91]
theorem sz_ad (w:World) (o:Obj):((w.alloc o).drew).heap.size=w.heap.size+1:=by show (w.alloc o).heap.size=_;simp
theorem tail_slice (b n:Nat) (hn:0<n) (hn1:n≤1000) (w:World):(Instr.slice 72 (.slice (some ⟨b,0,none⟩) n n) (some (.int .i64 1)) none none).run Tryz.prog w=.ok (.slice (some ⟨b,if n=1 then 0 else 1,none⟩) (n-1) (n-1)) w:=by
 have hs:(sizeOf (Tryz.prog.elem 72)).run Tryz.prog w=.ok 1 w:=by kernel_rfl
 rw [run_slice_l w 72 _ n n (show Tryz.prog.underlying 72=some (.slice (Tryz.prog.elem 72)) by kernel_rfl) .i64 1 (by omega) (by omega),hs]
 simp only [Result.andThen_ok,sliced,Option.map_some,Nat.mul_one]
 show Result.ok (Value.slice (if n=1 then some ⟨b,0,none⟩ else some ((⟨b,0,none⟩:Addr).add 1)) (n-1) (n-1)) w=_
 split <;> simp [Addr.add]
def wcs (ls:List (List UInt8)):Array Value:=(ls.map fun x=>Value.string (bs x)).toArray
def noT:ByteArray:=⟨#[110,111]⟩
theorem answer_any (b n:Nat) (ls:List (List UInt8)) (l0:List UInt8) (f:Nat) (O:ByteArray) (d:Bool) (w:World) (hn:ls.length=n) (h0:ls[0]?=some l0) (hl:l0.length≤1000) (hn1:n≤1000) (hb:Blk w b 9 (wcs ls)) (hf:cmdOf l0=some f) (hen:∀(args:Array Value) (W:World),(callFunc f args).run Tryz.prog W=.ok (.enter f args) W)
 (HF:∀W,Below w.heap.size w W→Calls Tryz.prog f #[.agg #[.slice (some ⟨b,if n=1 then 0 else 1,none⟩) (n-1) (n-1)]] W fun e w'=>e=.returned (.tuple #[.string O,.bool d])∧Below W.heap.size W w') :
 Calls Tryz.prog 43 #[.slice (some ⟨b,0,none⟩) n n] w fun e w'=>e=.returned (.string (if d then O else noT))∧Below w.heap.size w w':=by
 have hmf:∀(fn:Fn) (first cap:Array Value) (w:World),(Instr.makeFunc fn first cap).run Tryz.prog w=.ok (.func fn first cap) w:=fun _ _ _ _=>rfl
 have hpos:0<n:=by
  rcases Nat.eq_zero_or_pos n with h | h
  ·subst h
   rw [List.length_eq_zero_iff.1 hn] at h0
   cases h0
  ·exact h
 have hal:Below w.heap.size w (w.alloc (.cells #[.string ⟨#[]⟩] 9)):=(Below.refl _ _).alloc (Nat.le_refl _) _
 have HAL:=Lib.hid hal
 have HOUT:=Lib.hid (Blk.new w 9 #[.string ⟨#[]⟩])
 have hbA:=hb.sub hal
 have hc0:(w.alloc (.cells #[.string ⟨#[]⟩] 9)).drew.cell? ⟨b,0,none⟩=some (.string (bs l0)):=by
  rw [(hbA.drew).cell 0]
  simp [wcs,h0]
 have HBA:=Lib.hid hbA;clear hbA hal
 have HC0:=Lib.hid hc0
 have HB:=Lib.hid hb;have HFF:=Lib.hid HF;have H0:=Lib.hid h0;have HN:=Lib.hid hn
 have HLK:=Lib.hid (fun (W:World) (B:Nat) (h:Req W B)=>req_look h l0 (by omega))
 have HLV:Hid (lookV l0=.tuple #[.func (.func f) #[] #[],.bool true]):=by unfold Hid lookV;rw [hf]
 rw [HLV.out] at HLK
 clear hb HF h0 hn hf
 obtain ⟨L0,hL0⟩:∃L0,bs l0=L0:=⟨_,rfl⟩
 rw [hL0] at hc0 HLK HC0
 clear hL0
 go_enter_defers Tryz.func43,Tryz.ntmps43
 go_wp2_with fail
 go_region_held3 (fun w'=>w'.cell? ⟨b,0,none⟩=some (.string L0)) (first | exact hc0 | assumption) ((go_at_call 92;refine (requests_any _).mono ?_;rintro e w2 ⟨rfl,hreq,hb2⟩;rw [sz_ad] at hreq;have hlk:=HLK.out _ _ hreq;have hc2:=(hb2.cell (World.block_lt_of_cell? _ _ HC0.out)).trans HC0.out))
 have HREQ:=Lib.hid hreq
 have HB2:Hid (Below w.heap.size w w2):=Lib.hid (HAL.out.trans ((show Below (w.alloc (.cells #[.string ⟨#[]⟩] 9)).heap.size (w.alloc (.cells #[.string ⟨#[]⟩] 9)) w2 from ⟨hb2.os,hb2.tape,hb2.output,hb2.size,hb2.block⟩).mono (by simp)))
 have HO2:=Lib.hid ((HOUT.out.drew).sub hb2)
 clear hreq hb2 hlk hc2 hc0
 have hsl:=tail_slice b n hpos hn1
 have HCALL:=Lib.hid (HFF.out w2 HB2.out)
 obtain ⟨ad,had⟩:∃ad:Addr,(⟨b,if n=1 then 0 else 1,none⟩:Addr)=ad:=⟨_,rfl⟩
 rw [had] at HCALL hsl
 clear had
 have hen':=hen #[.agg #[.slice (some ad) (n-1) (n-1)]] w2
 have HEN:=Lib.hid hen;clear hen
 go_wp2_with fail
 refine HCALL.out.mono ?_
 rintro e w3 ⟨rfl,hb3⟩
 have HB3:=Lib.hid (HB2.out.trans (hb3.mono HB2.out.size))
 have HO3:=Lib.hid (HO2.out.sub hb3)
 clear hb3 hen'
 obtain ⟨y1,y2⟩:=blk1 HO3.out
 cases d
 ·have HZ:=Lib.hid (HB3.out.setCell (p:=⟨w.heap.size,0,none⟩) (Nat.le_refl _) (.string ⟨#[110,111]⟩))
  have z1:(w3.setCell ⟨w.heap.size,0,none⟩ (.string ⟨#[110,111]⟩)).cell? ⟨w.heap.size,0,none⟩=some (.string ⟨#[110,111]⟩):=(HO3.out.set 0 _).cell 0
  go_wp2_with fail
  refine leaves_cons (f:=91) (args:=#[.pointer (some ⟨w.heap.size,0,none⟩)]) (by simp) (by simp [go_sem]) ?_
  refine (catch_idle ⟨w.heap.size,0,none⟩ _).mono ?_
  rintro e u' w4 ⟨rfl,rfl,rfl⟩
  simp [Leaves,settle,results,Tryz.results43,go_sem,z1]
  exact ⟨rfl,HZ.out⟩
 ·have HZ:=Lib.hid (HB3.out.setCell (p:=⟨w.heap.size,0,none⟩) (Nat.le_refl _) (.string O))
  have z1:(w3.setCell ⟨w.heap.size,0,none⟩ (.string O)).cell? ⟨w.heap.size,0,none⟩=some (.string O):=(HO3.out.set 0 _).cell 0
  go_wp2_with fail
  refine leaves_cons (f:=91) (args:=#[.pointer (some ⟨w.heap.size,0,none⟩)]) (by simp) (by simp [go_sem]) ?_
  refine (catch_idle ⟨w.heap.size,0,none⟩ _).mono ?_
  rintro e u' w4 ⟨rfl,rfl,rfl⟩
  simp [Leaves,settle,results,Tryz.results43,go_sem,z1]
  exact HZ.out
end
section
open Go.RowKit Go.Lib
attribute [local go_sem ↓] Go.wp_at_zero Go.wp_at_succ
def outP (outs:List (List UInt8)):Nat→List UInt8
 | 0=>[]
 | k+1=>outP outs k++(outs.getD k []++[10])
theorem outP_len (outs:List (List UInt8)) (h:∀k,(outs.getD k []).length≤10000):∀k,(outP outs k).length≤10001*k:=by
 intro k
 induction k with
 | zero=>simp [outP]
 | succ k ih=>have:=h k;simp only [outP,List.length_append,List.length_cons,List.length_nil];omega
def linesT:List UInt8:=[108,105,110,101,115,32]
def outT (outs:List (List UInt8)) (n:Nat):List UInt8:=outP outs n++linesT++decDigits n++[10]
theorem head_slice (b n:Nat) (hn1:n≤1000) (w:World):(Instr.slice 72 (.slice (some ⟨b,0,none⟩) (n+1) (n+1)) none (some (.int .i64 (n:Int))) none).run Tryz.prog w=.ok (.slice (some ⟨b,0,none⟩) n (n+1)) w:=by
 have hs:(sizeOf (Tryz.prog.elem 72)).run Tryz.prog w=.ok 1 w:=by kernel_rfl
 rw [run_slice_h w 72 _ (n+1) (n+1) (show Tryz.prog.underlying 72=some (.slice (Tryz.prog.elem 72)) by kernel_rfl) .i64 n (by omega) (by omega),hs]
 simp [sliced,Addr.add]
theorem Execute_any (l:List UInt8) (n:Nat) (lines outs:List (List UInt8)) (w:World) (ht:Tab w) (hm:Mx w) (hlen:l.length≤600) (hspl:spl 10 l=lines++[[]]) (hn:lines.length=n) (hn6:n≤600) (hll:∀k,(lines.getD k []).length≤600)
 (hol:∀k,(outs.getD k []).length≤10000)
 (HA:∀k,k<n→∀(W:World) (b:Nat),Below w.heap.size w W→Blk W b 9 (wcs (spl 32 (lines.getD k []))) →
  Calls Tryz.prog 43 #[.slice (some ⟨b,0,none⟩) (spl 32 (lines.getD k [])).length (spl 32 (lines.getD k [])).length] W fun e w'=>e=.returned (.string (bs (outs.getD k [])))∧Below W.heap.size W w') :
 Calls Tryz.prog 13 #[.string (bs l)] w fun e w'=>e=.returned (.string (bs (outT outs n)))∧Below w.heap.size w w':=by
 have HSP:=Lib.hid (split_any l 10 w hm (by omega))
 rw [hspl] at HSP
 have hll1:(lines++[[]]).length=n+1:=by rw [List.length_append,hn];rfl
 rw [hll1] at HSP
 have HM:=Lib.hid (fun W (hB:Below w.heap.size w W)=>hm.on hB)
 have HTab:=Lib.hid (fun W (hB:Below w.heap.size w W)=>ht.on hB)
 have HANS:=Lib.hid HA
 have HLL:=Lib.hid hll;have HOL:=Lib.hid hol
 have HOP:=Lib.hid (outP_len outs hol)
 have hsz:(bs l).size≤600:=by rw [bs_size];exact hlen
 obtain ⟨LV,hLV⟩:∃LV:Array Value,((lines++[[]]).map fun x=>Value.string (bs x)).toArray=LV:=⟨_,rfl⟩
 rw [hLV] at HSP
 have HLV:Hid (∀k,k<n→LV[k]?=some (.string (bs (lines.getD k [])))):=fun k hk=>by
  rw [←hLV]
  have:k<lines.length:=by omega
  simp [List.getD,this,List.getElem?_append_left]
 have hal:Below w.heap.size w (w.alloc (.cells LV 9)):=(Below.refl _ _).alloc (Nat.le_refl _) _
 have HAL:=Lib.hid hal
 have HBL:=Lib.hid (Blk.new w 9 LV)
 clear hspl hll1 ht hm HA hll hol hLV hal hn hlen
 obtain ⟨L,hL⟩:∃L,bs l=L:=⟨_,rfl⟩
 rw [hL] at hsz HSP ⊢
 clear hL
 have hsl:=head_slice w.heap.size n (by omega)
 have hsl':=Lib.hid hsl;clear hsl
 go_enter Tryz.func13,Tryz.ntmps13
 go_wp2_with fail
 refine HSP.out.mono ?_
 rintro e w1 ⟨rfl,rfl⟩
 have hs1:=hsl'.out (w.alloc (.cells LV 9))
 have HBD:=Lib.hid (HAL.out.alloc HAL.out.size (.cells #[.pointer none,.slice none 0 0] 76))
 have HU0:=Lib.hid (builder_new (w:=w.alloc (.cells LV 9)) (B:=w.heap.size+1) (by simp))
 rw [World.size_alloc] at HU0
 have HBL0:=Lib.hid (HBL.out.alloc (.cells #[.pointer none,.slice none 0 0] 76))
 have hz0:w.heap.size+1≤((w.alloc (.cells LV 9)).alloc (.cells #[.pointer none,.slice none 0 0] 76)).heap.size:=by simp
 have HZ0:=Lib.hid hz0;clear hz0
 go_wp2_with fail
 obtain ⟨D,hD⟩:∃D,w.heap.size+1=D:=⟨_,rfl⟩
 rw [hD] at HU0 HZ0 ⊢
 have HD:=Lib.hid hD;clear hD
 go_loopw [19] (fun i wr=>∃k:Nat,k≤n∧i=.int .i64 k∧Hid (Below w.heap.size w wr)∧Hid (Blk wr w.heap.size 9 LV)∧Hid (Lib.IsBuilderF 76 5 D D (Lib.byteCells (outP outs k)) wr)∧Hid (D≤wr.heap.size)) (fun i _=>n-(RowKit.intOf i).toNat)
 case atStart=>exact ⟨0,Nat.zero_le _,rfl,HBD.out,HBL0.out,HU0.out,HZ0.out⟩
 case round =>
  clear HBD HBL0 HU0 HZ0 hs1
  obtain ⟨k,hk,rfl,HB,HBK,HU,HZ⟩:=hrel
  by_cases hlt:k<n
  ·have c0:wr.cell? ⟨w.heap.size,k,none⟩=some (.string (bs (lines.getD k []))):=(HBK.out.cell k).trans (HLV.out k hlt)
   have i1:(k:Int)<(n:Int):=by omega
   have i0:(0:Int)≤(k:Int):=by omega
   have h60:=HLL.out k
   have h10:=HOL.out k
   have hop:=HOP.out k
   have HSW:=Lib.hid (split_any (lines.getD k []) 32 wr (HM.out wr HB.out) (by omega))
   have HBW:=Lib.hid (Blk.new wr 9 (wcs (spl 32 (lines.getD k []))))
   have HB1:=Lib.hid (HB.out.alloc HB.out.size (.cells (wcs (spl 32 (lines.getD k []))) 9))
   have HBK1:=Lib.hid (HBK.out.alloc (.cells (wcs (spl 32 (lines.getD k []))) 9))
   have HU1:=Lib.hid (builder_below HU.out ((Below.refl _ wr).alloc (Nat.le_refl _) (.cells (wcs (spl 32 (lines.getD k []))) 9)))
   have HAN:=Lib.hid (HANS.out k hlt (wr.alloc (.cells (wcs (spl 32 (lines.getD k []))) 9)) wr.heap.size HB1.out HBW.out)
   have HOS:Hid (outP outs (k+1)=outP outs k++(outs.getD k []++[10])):=rfl
   have HSJ:Hid (bs (outs.getD k [])++⟨#[10]⟩=bs (outs.getD k []++[10])):=bs_append _ [10]
   have hz4:(outs.getD k []++[10]).length≤10001:=by rw [List.length_append];simpa using h10
   have hos:(bs (outs.getD k [])).size≤10000:=by rw [bs_size];exact h10
   obtain ⟨q,hq⟩:∃q,outs.getD k []++[10]=q:=⟨_,rfl⟩
   rw [hq] at HOS HSJ hz4
   clear hq h10 HBW
   change Hid (Calls Tryz.prog 41 _ wr fun e w'=>e=.returned (.slice (some ⟨wr.heap.size,0,none⟩) (spl 32 (lines.getD k [])).length (spl 32 (lines.getD k [])).length)∧w'=wr.alloc (.cells (wcs (spl 32 (lines.getD k []))) 9)) at HSW
   generalize (spl 32 (lines.getD k [])).length=m at *
   generalize wcs (spl 32 (lines.getD k []))=WV at *
   generalize bs (lines.getD k [])=LK at *
   generalize bs (outs.getD k [])=OK at *
   go_wp2_with fail
   refine HSW.out.mono ?_
   rintro e w2 ⟨rfl,rfl⟩
   go_wp2_with fail
   refine HAN.out.mono ?_
   rintro e w3 ⟨rfl,hb3⟩
   have HB3:=Lib.hid (HB1.out.trans (hb3.mono HB1.out.size))
   have HBK3:=Lib.hid (HBK1.out.sub hb3)
   have HU3:=Lib.hid (builder_below HU1.out hb3)
   have HZ3:Hid (D≤w3.heap.size):=Nat.le_trans HZ.out (Nat.le_trans (by simp) hb3.size)
   clear hb3 HAN HSW
   go_wp2_with fail
   rw [HSJ.out]
   refine (writeString_any D D (outP outs k) q w3 HU3.out (by omega) HZ3.out).mono ?_
   rintro e w4 ⟨rfl,hu4,hb4⟩
   have HB4:=Lib.hid (HB3.out.trans (hb4.mono (by have:=HD.out;omega)))
   have HBK4:=Lib.hid (HBK3.out.below hb4 (by have:=HD.out;omega))
   have HU4:Hid (Lib.IsBuilderF 76 5 D D (Lib.byteCells (outP outs (k+1))) w4):=by unfold Hid;rw [HOS.out];exact hu4
   have HZ4:=Lib.hid (Nat.le_trans HZ3.out hb4.size)
   clear hu4 hb4
   go_wp2_with fail
   go_roundw
   case rel=>exact ⟨k+1,by omega,by go_num,HB4.out,HBK4.out,HU4.out,HZ4.out⟩
   case measure=>(simp [RowKit.intOf] <;> omega)
  ·obtain rfl:k=n:=by omega
   have hop:=HOP.out k
   rw [←bs_size] at hop
   have hdd:(decDigits k).length≤7:=dig_len7 (by omega)
   rw [←bs_size] at hdd
   have HOT:Hid (bs (outT outs k)=bs (outP outs k)++⟨#[108,105,110,101,115,32]⟩++bs (decDigits k)++⟨#[10]⟩):=by
    unfold Hid outT
    rw [←bs_append,←bs_append,←bs_append];rfl
   go_wp2_with fail
   refine (Tryz.Builder_String_any_f D D _ wr HU.out HZ.out).mono ?_
   rintro e w3 ⟨rfl,_,hb3⟩
   have HB3:=Lib.hid (HB.out.trans (hb3.mono (by have:=HD.out;omega)));clear hb3
   have HIT:=Lib.hid (itoa_any k (by omega) w3 (HTab.out _ HB3.out))
   obtain ⟨S,hS⟩:∃S,bs (outP outs k)=S:=⟨_,rfl⟩
   obtain ⟨DD,hDD⟩:∃DD,bs (decDigits k)=DD:=⟨_,rfl⟩
   rw [show ({ data:=(outP outs k).toArray }:ByteArray)=S from hS]
   rw [hS] at hop HOT
   rw [hDD] at hdd HOT HIT
   have HS:=Lib.hid hS;clear hS hDD
   have hop2:S.size≤6000600:=by omega
   clear hop
   go_wp2_with fail
   refine HIT.out.mono ?_
   rintro e w4 ⟨rfl,hb4⟩
   have HB4:=Lib.hid (HB3.out.trans (hb4.mono HB3.out.size));clear hb4
   go_wp2_with fail
   go_ret
   exact ⟨ret_str HOT.out.symm,HB4.out⟩
end
end
end Go.Proofs.YtlgdndnaiogooaaGreatDoor
