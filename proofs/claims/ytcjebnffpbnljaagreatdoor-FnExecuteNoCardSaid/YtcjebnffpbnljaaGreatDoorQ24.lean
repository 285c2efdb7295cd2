/- Parts of the proof of : Wq SpT. -/
import Derived.Test.YtcjebnffpbnljaaGreatDoorQ23
import Derived.Test.YtcjebnffpbnljaaGreatDoorQ22
set_option maxHeartbeats 20000000
set_option maxRecDepth 1000000
set_option linter.unusedSimpArgs false
set_option linter.unusedVariables false
namespace Go.Proofs.YtcjebnffpbnljaaGreatDoor
section
open Go.RowKit Go.Lib
attribute [local go_sem ↓] Go.wp_at_zero Go.wp_at_succ
theorem join_sn (L:List (List UInt8)) (x:List UInt8):Lib.join (L++[x]) [32]=if L.length=0 then x else Lib.join L [32]++[32]++x:=by
 cases L with
 | nil=>simp[Lib.join_one]
 | cons a r =>
  rw[List.cons_append,Lib.join_cons,Lib.join_cons,if_neg (by simp)]
  simp[Lib.joinTail]
theorem Reads.str {w:World} {B:Nat} {A:Option Addr} {n:Nat} {ws:List (List UInt8)} (h:Reads w B 1 A n (scells ws)) (hl:ws.length=n) {k:Nat} (hk:k<n) :
 ∃b off,A=some ⟨b,off,none⟩∧b<B∧w.cell? ⟨b,off+k,none⟩=some (.string (bs (ws.getD k []))):=by
 obtain⟨b,off,e,hb,hc⟩:=h.2 (by omega)
 refine⟨b,off,e,hb,hc k _ ?_⟩
 unfold scells
 rw[List.getElem?_map,List.getD_eq_getElem?_getD,List.getElem?_eq_getElem (by omega)];rfl
theorem l51Rest_any (A:Option Addr) (n c f:Nat) (ws:List (List UInt8)) (w:World) (hl:ws.length=n) (hn:n≤1000) (hf:f≤n) (hm:∀k,(ws.getD k []).length≤10000) (hr:Reads w w.heap.size 1 A n (scells ws)) :
 Calls Tryz.prog 71 #[.slice A n c,.int .i64 (f:Int)] w fun e w'=>e=.returned (.string (bs (Lib.join (ws.drop f) [32])))∧Below w.heap.size w w':=by
 have HR:=kk (fun W (hW:Below w.heap.size w W)=>(hr.below hW).more hW.size)
 have HL:=kk hl
 have HM:=kk hm
 have HJL:Hid (∀m,(Lib.join ((ws.drop f).take m) [32]).length≤10001*m):=by
  intro m
  induction m with
  | zero=>simp[Lib.join_nil]
  | succ m ih =>
   rcases Nat.lt_or_ge m (ws.drop f).length with h | h
   ·rw[List.take_succ_eq_append_getElem h,join_sn]
    have hx:((ws.drop f)[m]).length≤10000:=by
     rw[List.getElem_drop]
     have:=hm (f+m)
     rwa [List.getD_eq_getElem?_getD,List.getElem?_eq_getElem (by rw[List.length_drop] at h;omega)] at this
    split
    ·omega
    ·simp only[List.length_append,List.length_cons,List.length_nil];omega
   ·rw[List.take_of_length_le (by omega)]
    rw[List.take_of_length_le h] at ih
    omega
 have HST:Hid (∀m,f+m<n→bs (Lib.join ((ws.drop f).take (m+1)) [32])=if m=0 then bs (ws.getD (f+m) []) else bs (Lib.join ((ws.drop f).take m) [32])++⟨#[32]⟩++bs (ws.getD (f+m) [])):=by
  intro m hm'
  have h:m<(ws.drop f).length:=by rw[List.length_drop];omega
  rw[List.take_succ_eq_append_getElem h,join_sn,List.length_take,Nat.min_eq_left (by omega),List.getElem_drop]
  have e:ws.getD (f+m) []=ws[f+m]'(by omega):=by rw[List.getD_eq_getElem?_getD,List.getElem?_eq_getElem (by omega)];rfl
  rw[e]
  split
  ·rfl
  ·rw[←bs_append,←bs_append];rfl
 have hB0:=kk (Below.refl w.heap.size w)
 clear hl hm hr
 go_enter Tryz.func71,Tryz.ntmps71
 go_wp2_with fail
 go_loopw [5,6] (fun v i wr=>∃m k:Nat,Hid (k=f+m)∧f≤k∧k≤n∧i=.int .i64 (k:Int)∧v=.string (bs (Lib.join ((ws.drop f).take m) [32]))∧Hid (Below w.heap.size w wr)) (fun _ i _=>n-(RowKit.intOf i).toNat)
 case atStart=>exact⟨0,f,rfl,Nat.le_refl _,hf,rfl,rfl,hB0.out⟩
 case round =>
  clear hB0
  obtain⟨m,k,HK,hfk,hk,rfl,rfl,HB⟩:=hrel
  have hz:=HJL.out m
  have hm9:m≤1000:=by have:=HK.out;omega
  rw[←bs_size] at hz
  have hz9:(bs (Lib.join ((ws.drop f).take m) [32])).size≤10001000:=by omega
  clear hz
  by_cases hlt:k<n
  ·obtain⟨b,off,rfl,hb,h1⟩:=(HR.out wr HB.out).str HL.out hlt
   have hs:=HST.out m (by have:=HK.out;omega)
   rw[←HK.out] at hs
   have hx:=HM.out k
   rw[←bs_size] at hx
   have HS:=kk hs
   have HK2:Hid (k+1=f+(m+1)):=by have:=HK.out;unfold Hid;omega
   clear hs
   have HJ0:Hid (m=0→bs (Lib.join ((ws.drop f).take m) [32])=⟨#[]⟩):=fun h=>by subst h;rfl
   obtain⟨J2,hJ2⟩:∃J2,bs (Lib.join ((ws.drop f).take (m+1)) [32])=J2:=⟨_,rfl⟩
   have HJ2:=kk hJ2
   rw[hJ2] at HS
   clear hJ2
   generalize bs (Lib.join ((ws.drop f).take m) [32])=J at *
   generalize bs (ws.getD k [])=T at *
   by_cases h0:f<k
   ·have hm0:m≠0:=by have:=HK.out;omega
    have HS2:Hid (J++⟨#[32]⟩++T=J2):=by unfold Hid;rw[HS.out,if_neg hm0]
    clear HS hm0
    go_wp2_with fail
    go_roundw
    case rel=>exact⟨m+1,k+1,HK2.out,by omega,by omega,by go_num,by rw[HJ2.out,HS2.out],HB.out⟩
    case measure=>simp[RowKit.intOf];omega
   ·have hm0:m=0:=by have:=HK.out;omega
    have HJE:Hid (J=⟨#[]⟩):=HJ0.out hm0
    have HS2:Hid (T=J2):=by unfold Hid;rw[HS.out,if_pos hm0]
    clear HS hm0 HJ0
    go_wp2_with fail
    go_roundw
    case rel=>exact⟨m+1,k+1,HK2.out,by omega,by omega,by go_num,by rw[HJ2.out,←HS2.out,HJE.out];exact congrArg Value.string (ByteArray.ext (by simp)),HB.out⟩
    case measure=>simp[RowKit.intOf];omega
  ·have HE:Hid ((ws.drop f).take m=ws.drop f):=by
    unfold Hid
    rw[List.take_of_length_le]
    rw[List.length_drop,HL.out];have:=HK.out;omega
   go_wp2_with fail
   go_ret
   exact⟨ret_str (by rw[HE.out]),HB.out⟩
end
section
open Go.RowKit
attribute [local go_sem ↓] Go.wp_at_zero Go.wp_at_succ
def ixTo (c:UInt8) (k:Nat):Int:=if Lib.indexByte lts c<k then Lib.indexByte lts c else -1
theorem ix_hit:∀(k:Fin 9) (n:Fin 256),(((lts.getD k.1 0).toNat:Int)==((UInt8.ofNat n.1).toNat:Int))=decide (Lib.indexByte lts (UInt8.ofNat n.1)=(k.1:Int)):=by decide +kernel
theorem ix_at (k:Nat) (hk:k≤8) (c:UInt8):(((lts.getD k 0).toNat:Int)==(c.toNat:Int))=decide (Lib.indexByte lts c=(k:Int)):=by
 have:=ix_hit ⟨k,by omega⟩ ⟨c.toNat,c.toNat_lt⟩
 rwa [UInt8.ofNat_toNat] at this
theorem specTermFrom_all (s:List UInt8) (w:World) (hl:s.length≤1000000) :
 Calls Tryz.prog 75 #[.string (bs s)] w fun e w'=>e=.returned (tmV (tmF s))∧Below w.heap.size w w':=by
 have HB0:=kk ((Below.refl w.heap.size w).alloc (Nat.le_refl _) (.cells #[.int .i64 0,.int .i64 0] 52))
 have HX0:=kk (Blk.new w 52 #[.int .i64 0,.int .i64 0])
 have hzs:(bs s).size≤1000000:=by rw[bs_size];exact hl
 by_cases hn:s.length=2
 case neg =>
  have HE:Hid (tmF s=((0,0),false)):=by unfold Hid tmF;rw[if_neg (fun h=>hn h.1)]
  have hn2:(((bs s).size:Int) != 2)=true:=by rw[bs_size];simp;omega
  have hn3:(bs s).size≠2:=by rw[bs_size];exact hn
  rw[HE.out];clear HE hn
  generalize bs s=X at *
  go_enter Tryz.func75,Tryz.ntmps75
  go_wp2_with fail
  refine bodyPost_ret (results_ct rfl _ _ w.heap.size _ _ _ _ rfl HX0.out Tryz.underlying52 rfl (by kernel_rfl)) rfl ?_
  exact⟨rfl,HB0.out⟩
 have HX:=kk (fun W=>specTermText_any (tmU s) W)
 have HE:Hid (tmF s=if tmT (tmU s)=s then(tmU s,true) else((0,0),false)):=by
  unfold Hid tmF
  by_cases h:tmT (tmU s)=s
  ·rw[if_pos ⟨hn,h⟩,if_pos h]
  ·rw[if_neg (fun h'=>h h'.2),if_neg h]
 rw[HE.out]
 have HBE:=kk (bs_eq (tmT (tmU s)) s)
 have hn2:(bs s).size=2:=by rw[bs_size];exact hn
 obtain⟨a,b,rfl⟩:∃a b,s=[a,b]:=by
  match s,hn with
  | [a,b],_=>exact⟨a,b,rfl⟩
 have ha:(a.toNat:Int)<256:=by have:=a.toNat_lt;omega
 have hbb:(b.toNat:Int)<256:=by have:=b.toNat_lt;omega
 have hix:=ix_lts b
 have htu:tmU [a,b]=((a.toNat:Int)-49,Lib.indexByte lts b):=rfl
 rw[htu] at HX HBE ⊢
 have HI0:Hid (∀W:World,(Instr.index 9 (.string (bs [a,b])) (.int .i64 0)).run Tryz.prog W=.ok (.int .u8 (a.toNat:Int)) W):=fun W=>idx_strk [a,b] 0 a rfl W
 have HI1:Hid (∀W:World,(Instr.index 9 (.string (bs [a,b])) (.int .i64 1)).run Tryz.prog W=.ok (.int .u8 (b.toNat:Int)) W):=fun W=>idx_strk [a,b] 1 b rfl W
 have HLT:Hid (∀(k:Nat) (_:k≤8) (W:World),(Instr.index 9 (.string ⟨#[83,80,68,70,71,72,73,75,76]⟩) (.int .i64 (k:Int))).run Tryz.prog W=.ok (.int .u8 ((lts.getD k 0).toNat:Int)) W):=fun k hk W=>by
  have:=idx_strk lts k (lts.getD k 0) (by rw[List.getD_eq_getElem?_getD];have:k<lts.length:=by show k<9;omega
                                          rw[List.getElem?_eq_getElem this];rfl) W
  exact this
 have HIA:=kk (fun k hk=>ix_at k hk b)
 have HST:Hid (∀k:Nat,ixTo b (k+1)=if Lib.indexByte lts b=(k:Int) then(k:Int) else ixTo b k):=fun k=>by
  unfold ixTo
  by_cases h:Lib.indexByte lts b=(k:Int)
  ·rw[if_pos h,if_pos (by omega)];exact h
  ·rw[if_neg h]
   by_cases h2:Lib.indexByte lts b<(k:Int)
   ·rw[if_pos (by omega),if_pos h2]
   ·rw[if_neg (by omega),if_neg h2]
 have HT0:Hid (ixTo b 0=-1):=by
  unfold Hid ixTo
  by_cases h:Lib.indexByte lts b<((0:Nat):Int)
  ·rw[if_pos h];omega
  ·rw[if_neg h]
 have HT9:Hid (ixTo b 9=Lib.indexByte lts b):=by unfold Hid ixTo;rw[if_pos (by omega)]
 clear hn htu HE hl
 have u1:IntKind.i64.wrap ((a.toNat:Int))=(a.toNat:Int):=IntWalk.i64_in _ (by omega)
 have u2:IntKind.i64.wrap ((a.toNat:Int)-49)=(a.toNat:Int)-49:=IntWalk.i64_in _ (by omega)
 generalize ixTo b=ix at *
 generalize Lib.indexByte lts b=l at *
 generalize (b.toNat:Int)=B at *
 simp only at HX HBE ⊢
 obtain⟨A,hA⟩:∃A:Int,(a.toNat:Int)=A:=⟨_,rfl⟩
 rw[hA] at u1 u2 HX HBE HI0 ha ⊢
 obtain⟨eqb,heq⟩:∃q:Bool,decide (tmT (A-49,l)=[a,b])=q:=⟨_,rfl⟩
 have HE:Hid ((if tmT (A-49,l)=[a,b] then((A-49,l),true) else(((0:Int),(0:Int)),false))=if eqb then((A-49,l),true) else((0,0),false)):=by
  unfold Hid
  rw[←heq]
  by_cases h:tmT (A-49,l)=[a,b]
  ·rw[if_pos h,decide_eq_true h];rfl
  ·rw[if_neg h,decide_eq_false h];rfl
 rw[HE.out]
 have hz:=HBE.out
 rw[heq] at hz
 clear hA heq HE HBE
 generalize bs (tmT (A-49,l))=D at *
 generalize bs [a,b]=X at *
 go_enter Tryz.func75,Tryz.ntmps75
 have i0:=HI0.out
 have i1:=HI1.out
 have HY0:=kk (Blk.new (w.alloc (.cells #[.int .i64 0,.int .i64 0] 52)) 52 #[.int .i64 (A-49),.int .i64 (-1)])
 rw[World.size_alloc] at HY0
 have HX1:=kk (HX0.out.alloc (.cells #[.int .i64 (A-49),.int .i64 (-1)] 52))
 have HB1:=kk (bel_alloc HB0.out (.cells #[.int .i64 (A-49),.int .i64 (-1)] 52))
 go_wp2_with fail
 clear i0
 go_loopw [5] (fun i wr=>∃k:Nat,k≤9∧i=.int .i64 k∧Hid (Blk wr w.heap.size 52 #[.int .i64 0,.int .i64 0])∧Hid (Blk wr (w.heap.size+1) 52 #[.int .i64 (A-49),.int .i64 (ix k)])∧Hid (Below w.heap.size w wr)) (fun i _=>9-(RowKit.intOf i).toNat)
 case atStart=>exact⟨0,by omega,rfl,HX1.out,by rw[HT0.out];exact HY0.out,HB1.out⟩
 case round =>
  clear HX1 HY0 HB1 HX0 HB0
  obtain⟨k,hk,rfl,HXk,HYk,HBk⟩:=hrel
  by_cases hlt:k<9
  ·have hlk:=fun W=>HLT.out k (by omega) W
   have hia:=HIA.out k (by omega)
   have hst:=HST.out k
   obtain⟨y1,y2,y3,y4⟩:=blk2 HYk.out
   have d9:(k:Int)≤8:=by omega
   have hne:¬w.heap.size+1=w.heap.size:=by omega
   generalize ((lts.getD k 0).toNat:Int)=C at *
   by_cases hq:l=(k:Int)
   ·have HS2:Hid (ix (k+1)=(k:Int)):=by unfold Hid;rw[hst,if_pos hq]
    rw[decide_eq_true hq] at hia
    have HYn:=kk (HYk.out.set 1 (.int .i64 (k:Int)))
    have HXn:=kk (HXk.out.far (g:=w.heap.size) (p:=⟨w.heap.size+1,1,none⟩) (by simp) (.int .i64 (k:Int)))
    have HBn:=kk (HBk.out.setCell (p:=⟨w.heap.size+1,1,none⟩) (by simp) (.int .i64 (k:Int)))
    clear hst hq
    go_wp2_with fail
    go_region
    go_wp2_with fail
    go_roundw
    case rel=>exact⟨k+1,by omega,by go_num,HXn.out.drew,by rw[HS2.out];exact HYn.out.drew,bel_drew HBn.out⟩
    case measure=>simp[RowKit.intOf];omega
   ·have HS2:Hid (ix (k+1)=ix k):=by unfold Hid;rw[hst,if_neg hq]
    rw[decide_eq_false hq] at hia
    clear hst hq
    go_wp2_with fail
    go_region
    go_wp2_with fail
    go_roundw
    case rel=>exact⟨k+1,by omega,by go_num,HXk.out.drew,by rw[HS2.out];exact HYk.out.drew,bel_drew HBk.out⟩
    case measure=>simp[RowKit.intOf];omega
  ·obtain rfl:k=9:=by omega
   rw[HT9.out] at HYk
   obtain⟨y1,y2,_,_⟩:=blk2 HYk.out
   clear i1 HLT HIA HST HT0 HT9 hix
   go_wp2_with fail
   refine(HX.out _).mono ?_
   rintro e w2 ⟨rfl,hb2⟩
   have HX2:=kk (HXk.out.sub hb2)
   have HY2:=kk (HYk.out.sub hb2)
   have HB2:=kk (HBk.out.trans (hb2.mono HBk.out.size))
   clear hb2 y1 y2
   obtain⟨y1,y2,_,_⟩:=blk2 HY2.out
   obtain⟨x1,x2,f1,f2⟩:=blk2 HX2.out
   cases eqb
   ·have HZ:=kk ((HX2.out.set 0 (.int .i64 0)).set 1 (.int .i64 0))
    have HBZ:=kk ((HB2.out.setCell (p:=⟨w.heap.size,0,none⟩) (Nat.le_refl _) (.int .i64 0)).setCell (p:=⟨w.heap.size,1,none⟩) (Nat.le_refl _) (.int .i64 0))
    go_wp2_with fail
    refine bodyPost_ret (results_ct rfl _ _ w.heap.size _ _ _ _ rfl HZ.out Tryz.underlying52 rfl (by kernel_rfl)) rfl ?_
    exact⟨rfl,HBZ.out⟩
   ·have HZ:=kk ((HX2.out.set 0 (.int .i64 (A-49))).set 1 (.int .i64 l))
    have HBZ:=kk ((HB2.out.setCell (p:=⟨w.heap.size,0,none⟩) (Nat.le_refl _) (.int .i64 (A-49))).setCell (p:=⟨w.heap.size,1,none⟩) (Nat.le_refl _) (.int .i64 l))
    go_wp2_with fail
    refine bodyPost_ret (results_ct rfl _ _ w.heap.size _ _ _ _ rfl HZ.out Tryz.underlying52 rfl (by kernel_rfl)) rfl ?_
    exact⟨rfl,HBZ.out⟩
end
end Go.Proofs.YtcjebnffpbnljaaGreatDoor
