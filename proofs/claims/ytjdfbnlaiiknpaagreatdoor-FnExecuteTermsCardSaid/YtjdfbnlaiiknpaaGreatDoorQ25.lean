/- Parts of the proof of : Wq SpT Cs2. -/
import Derived.Test.YtjdfbnlaiiknpaaGreatDoorQ24
import Derived.Test.YtjdfbnlaiiknpaaGreatDoorQ23
set_option maxHeartbeats 20000000
set_option maxRecDepth 1000000
set_option linter.unusedSimpArgs false
set_option linter.unusedVariables false
namespace Go.Proofs.YtjdfbnlaiiknpaaGreatDoor
section
open Go.RowKit Go.Lib
attribute [local go_sem ↓] Go.wp_at_zero Go.wp_at_succ
theorem join_sn (L:List (List UInt8)) (x:List UInt8):Lib.join (L++[x]) [32]=if L.length=0 then x else Lib.join L [32]++[32]++x:=by
 cases L with
 | nil=>simp [Lib.join_one]
 | cons a r =>
  rw [List.cons_append,Lib.join_cons,Lib.join_cons,if_neg (by simp)]
  simp [Lib.joinTail]
theorem Reads.str {w:World} {B:Nat} {A:Option Addr} {n:Nat} {ws:List (List UInt8)} (h:Reads w B 1 A n (scells ws)) (hl:ws.length=n) {k:Nat} (hk:k<n) :
 ∃b off,A=some ⟨b,off,none⟩∧b<B∧w.cell? ⟨b,off+k,none⟩=some (.string (bs (ws.getD k []))):=by
 obtain ⟨b,off,e,hb,hc⟩:=h.2 (by omega)
 refine ⟨b,off,e,hb,hc k _ ?_⟩
 unfold scells
 rw [List.getElem?_map,List.getD_eq_getElem?_getD,List.getElem?_eq_getElem (by omega)];rfl
theorem l51Rest_any (A:Option Addr) (n c f:Nat) (ws:List (List UInt8)) (w:World) (hl:ws.length=n) (hn:n≤1000) (hf:f≤n) (hm:∀k,(ws.getD k []).length≤10000) (hr:Reads w w.heap.size 1 A n (scells ws)) :
 Calls Tryz.prog 99 #[.slice A n c,.int .i64 (f:Int)] w fun e w'=>e=.returned (.string (bs (Lib.join (ws.drop f) [32])))∧Below w.heap.size w w':=by
 have HR:=Lib.hid (fun W (hW:Below w.heap.size w W)=>(hr.below hW).more hW.size)
 have HL:=Lib.hid hl
 have HM:=Lib.hid hm
 have HJL:Hid (∀m,(Lib.join ((ws.drop f).take m) [32]).length≤10001*m):=by
  intro m
  induction m with
  | zero=>simp [Lib.join_nil]
  | succ m ih =>
   rcases Nat.lt_or_ge m (ws.drop f).length with h | h
   ·rw [List.take_succ_eq_append_getElem h,join_sn]
    have hx:((ws.drop f)[m]).length≤10000:=by
     rw [List.getElem_drop]
     have:=hm (f+m)
     rwa [List.getD_eq_getElem?_getD,List.getElem?_eq_getElem (by rw [List.length_drop] at h;omega)] at this
    split
    ·omega
    ·simp only [List.length_append,List.length_cons,List.length_nil];omega
   ·rw [List.take_of_length_le (by omega)]
    rw [List.take_of_length_le h] at ih
    omega
 have HST:Hid (∀m,f+m<n→bs (Lib.join ((ws.drop f).take (m+1)) [32])=if m=0 then bs (ws.getD (f+m) []) else bs (Lib.join ((ws.drop f).take m) [32])++⟨#[32]⟩++bs (ws.getD (f+m) [])):=by
  intro m hm'
  have h:m<(ws.drop f).length:=by rw [List.length_drop];omega
  rw [List.take_succ_eq_append_getElem h,join_sn,List.length_take,Nat.min_eq_left (by omega),List.getElem_drop]
  have e:ws.getD (f+m) []=ws[f+m]'(by omega):=by rw [List.getD_eq_getElem?_getD,List.getElem?_eq_getElem (by omega)];rfl
  rw [e]
  split
  ·rfl
  ·rw [←bs_append,←bs_append];rfl
 have hB0:=Lib.hid (Below.refl w.heap.size w)
 clear hl hm hr
 go_enter Tryz.func99,Tryz.ntmps99
 go_wp2_with fail
 go_loopw [5,6] (fun v i wr=>∃m k:Nat,Hid (k=f+m)∧f≤k∧k≤n∧i=.int .i64 (k:Int)∧v=.string (bs (Lib.join ((ws.drop f).take m) [32]))∧Hid (Below w.heap.size w wr)) (fun _ i _=>n-(RowKit.intOf i).toNat)
 case atStart=>exact ⟨0,f,rfl,Nat.le_refl _,hf,rfl,rfl,hB0.out⟩
 case round =>
  clear hB0
  obtain ⟨m,k,HK,hfk,hk,rfl,rfl,HB⟩:=hrel
  have hz:=HJL.out m
  have hm9:m≤1000:=by have:=HK.out;omega
  rw [←bs_size] at hz
  have hz9:(bs (Lib.join ((ws.drop f).take m) [32])).size≤10001000:=by omega
  clear hz
  by_cases hlt:k<n
  ·obtain ⟨b,off,rfl,hb,h1⟩:=(HR.out wr HB.out).str HL.out hlt
   have hs:=HST.out m (by have:=HK.out;omega)
   rw [←HK.out] at hs
   have hx:=HM.out k
   rw [←bs_size] at hx
   have HS:=Lib.hid hs
   have HK2:Hid (k+1=f+(m+1)):=by have:=HK.out;unfold Hid;omega
   clear hs
   have HJ0:Hid (m=0→bs (Lib.join ((ws.drop f).take m) [32])=⟨#[]⟩):=fun h=>by subst h;rfl
   obtain ⟨J2,hJ2⟩:∃J2,bs (Lib.join ((ws.drop f).take (m+1)) [32])=J2:=⟨_,rfl⟩
   have HJ2:=Lib.hid hJ2
   rw [hJ2] at HS
   clear hJ2
   generalize bs (Lib.join ((ws.drop f).take m) [32])=J at *
   generalize bs (ws.getD k [])=T at *
   by_cases h0:f<k
   ·have hm0:m≠0:=by have:=HK.out;omega
    have HS2:Hid (J++⟨#[32]⟩++T=J2):=by unfold Hid;rw [HS.out,if_neg hm0]
    clear HS hm0
    go_wp2_with fail
    go_roundw
    case rel=>exact ⟨m+1,k+1,HK2.out,by omega,by omega,by go_num,by rw [HJ2.out,HS2.out],HB.out⟩
    case measure=>simp [RowKit.intOf];omega
   ·have hm0:m=0:=by have:=HK.out;omega
    have HJE:Hid (J=⟨#[]⟩):=HJ0.out hm0
    have HS2:Hid (T=J2):=by unfold Hid;rw [HS.out,if_pos hm0]
    clear HS hm0 HJ0
    go_wp2_with fail
    go_roundw
    case rel=>exact ⟨m+1,k+1,HK2.out,by omega,by omega,by go_num,by rw [HJ2.out,←HS2.out,HJE.out];exact congrArg Value.string (ByteArray.ext (by simp)),HB.out⟩
    case measure=>simp [RowKit.intOf];omega
  ·have HE:Hid ((ws.drop f).take m=ws.drop f):=by
    unfold Hid
    rw [List.take_of_length_le]
    rw [List.length_drop,HL.out];have:=HK.out;omega
   go_wp2_with fail
   go_ret
   exact ⟨ret_str (by rw [HE.out]),HB.out⟩
end
section
open Go.RowKit
attribute [local go_sem ↓] Go.wp_at_zero Go.wp_at_succ
def ixTo (c:UInt8) (k:Nat):Int:=if Lib.indexByte lts c<k then Lib.indexByte lts c else -1
theorem ix_hit:∀(k:Fin 9) (n:Fin 256),(((lts.getD k.1 0).toNat:Int)==((UInt8.ofNat n.1).toNat:Int))=decide (Lib.indexByte lts (UInt8.ofNat n.1)=(k.1:Int)):=by decide +kernel
theorem ix_at (k:Nat) (hk:k≤8) (c:UInt8):(((lts.getD k 0).toNat:Int)==(c.toNat:Int))=decide (Lib.indexByte lts c=(k:Int)):=by
 have:=ix_hit ⟨k,by omega⟩ ⟨c.toNat,c.toNat_lt⟩
 rwa [UInt8.ofNat_toNat] at this
theorem specTermFrom_all (s:List UInt8) (w:World) (hl:s.length≤1000000) :
 Calls Tryz.prog 103 #[.string (bs s)] w fun e w'=>e=.returned (tmV (tmF s))∧Below w.heap.size w w':=by
 have HB0:=Lib.hid ((Below.refl w.heap.size w).alloc (Nat.le_refl _) (.cells #[.int .i64 0,.int .i64 0] 39))
 have HX0:=Lib.hid (Blk.new w 39 #[.int .i64 0,.int .i64 0])
 have hzs:(bs s).size≤1000000:=by rw [bs_size];exact hl
 by_cases hn:s.length=2
 case neg =>
  have HE:Hid (tmF s=((0,0),false)):=by unfold Hid tmF;rw [if_neg (fun h=>hn h.1)]
  have hn2:(((bs s).size:Int) != 2)=true:=by rw [bs_size];simp;omega
  have hn3:(bs s).size≠2:=by rw [bs_size];exact hn
  rw [HE.out];clear HE hn
  generalize bs s=X at *
  go_enter Tryz.func103,Tryz.ntmps103
  go_wp2_with fail
  refine bodyPost_ret (results_ct rfl _ _ w.heap.size _ _ _ _ rfl HX0.out Tryz.underlying39 rfl (by kernel_rfl)) rfl ?_
  exact ⟨rfl,HB0.out⟩
 have HX:=Lib.hid (fun W=>specTermText_any (tmU s) W)
 have HE:Hid (tmF s=if tmT (tmU s)=s then (tmU s,true) else ((0,0),false)):=by
  unfold Hid tmF
  by_cases h:tmT (tmU s)=s
  ·rw [if_pos ⟨hn,h⟩,if_pos h]
  ·rw [if_neg (fun h'=>h h'.2),if_neg h]
 rw [HE.out]
 have HBE:=Lib.hid (bs_eq (tmT (tmU s)) s)
 have hn2:(bs s).size=2:=by rw [bs_size];exact hn
 obtain ⟨a,b,rfl⟩:∃a b,s=[a,b]:=by
  match s,hn with
  | [a,b],_=>exact ⟨a,b,rfl⟩
 have ha:(a.toNat:Int)<256:=by have:=a.toNat_lt;omega
 have hbb:(b.toNat:Int)<256:=by have:=b.toNat_lt;omega
 have hix:=ix_lts b
 have htu:tmU [a,b]=((a.toNat:Int)-49,Lib.indexByte lts b):=rfl
 rw [htu] at HX HBE ⊢
 have HI0:Hid (∀W:World,(Instr.index 9 (.string (bs [a,b])) (.int .i64 0)).run Tryz.prog W=.ok (.int .u8 (a.toNat:Int)) W):=fun W=>idx_strk [a,b] 0 a rfl W
 have HI1:Hid (∀W:World,(Instr.index 9 (.string (bs [a,b])) (.int .i64 1)).run Tryz.prog W=.ok (.int .u8 (b.toNat:Int)) W):=fun W=>idx_strk [a,b] 1 b rfl W
 have HLT:Hid (∀(k:Nat) (_:k≤8) (W:World),(Instr.index 9 (.string ⟨#[83,80,68,70,71,72,73,75,76]⟩) (.int .i64 (k:Int))).run Tryz.prog W=.ok (.int .u8 ((lts.getD k 0).toNat:Int)) W):=fun k hk W=>by
  have:=idx_strk lts k (lts.getD k 0) (by rw [List.getD_eq_getElem?_getD];have:k<lts.length:=by show k<9;omega
                                          rw [List.getElem?_eq_getElem this];rfl) W
  exact this
 have HIA:=Lib.hid (fun k hk=>ix_at k hk b)
 have HST:Hid (∀k:Nat,ixTo b (k+1)=if Lib.indexByte lts b=(k:Int) then (k:Int) else ixTo b k):=fun k=>by
  unfold ixTo
  by_cases h:Lib.indexByte lts b=(k:Int)
  ·rw [if_pos h,if_pos (by omega)];exact h
  ·rw [if_neg h]
   by_cases h2:Lib.indexByte lts b<(k:Int)
   ·rw [if_pos (by omega),if_pos h2]
   ·rw [if_neg (by omega),if_neg h2]
 have HT0:Hid (ixTo b 0=-1):=by
  unfold Hid ixTo
  by_cases h:Lib.indexByte lts b<((0:Nat):Int)
  ·rw [if_pos h];omega
  ·rw [if_neg h]
 have HT9:Hid (ixTo b 9=Lib.indexByte lts b):=by unfold Hid ixTo;rw [if_pos (by omega)]
 clear hn htu HE hl
 have u1:IntKind.i64.wrap ((a.toNat:Int))=(a.toNat:Int):=IntWalk.i64_in _ (by omega)
 have u2:IntKind.i64.wrap ((a.toNat:Int)-49)=(a.toNat:Int)-49:=IntWalk.i64_in _ (by omega)
 generalize ixTo b=ix at *
 generalize Lib.indexByte lts b=l at *
 generalize (b.toNat:Int)=B at *
 simp only at HX HBE ⊢
 obtain ⟨A,hA⟩:∃A:Int,(a.toNat:Int)=A:=⟨_,rfl⟩
 rw [hA] at u1 u2 HX HBE HI0 ha ⊢
 obtain ⟨eqb,heq⟩:∃q:Bool,decide (tmT (A-49,l)=[a,b])=q:=⟨_,rfl⟩
 have HE:Hid ((if tmT (A-49,l)=[a,b] then ((A-49,l),true) else (((0:Int),(0:Int)),false))=if eqb then ((A-49,l),true) else ((0,0),false)):=by
  unfold Hid
  rw [←heq]
  by_cases h:tmT (A-49,l)=[a,b]
  ·rw [if_pos h,decide_eq_true h];rfl
  ·rw [if_neg h,decide_eq_false h];rfl
 rw [HE.out]
 have hz:=HBE.out
 rw [heq] at hz
 clear hA heq HE HBE
 generalize bs (tmT (A-49,l))=D at *
 generalize bs [a,b]=X at *
 go_enter Tryz.func103,Tryz.ntmps103
 have i0:=HI0.out
 have i1:=HI1.out
 have HY0:=Lib.hid (Blk.new (w.alloc (.cells #[.int .i64 0,.int .i64 0] 39)) 39 #[.int .i64 (A-49),.int .i64 (-1)])
 rw [World.size_alloc] at HY0
 have HX1:=Lib.hid (HX0.out.alloc (.cells #[.int .i64 (A-49),.int .i64 (-1)] 39))
 have HB1:=Lib.hid (bel_alloc HB0.out (.cells #[.int .i64 (A-49),.int .i64 (-1)] 39))
 go_wp2_with fail
 clear i0
 go_loopw [5] (fun i wr=>∃k:Nat,k≤9∧i=.int .i64 k∧Hid (Blk wr w.heap.size 39 #[.int .i64 0,.int .i64 0])∧Hid (Blk wr (w.heap.size+1) 39 #[.int .i64 (A-49),.int .i64 (ix k)])∧Hid (Below w.heap.size w wr)) (fun i _=>9-(RowKit.intOf i).toNat)
 case atStart=>exact ⟨0,by omega,rfl,HX1.out,by rw [HT0.out];exact HY0.out,HB1.out⟩
 case round =>
  clear HX1 HY0 HB1 HX0 HB0
  obtain ⟨k,hk,rfl,HXk,HYk,HBk⟩:=hrel
  by_cases hlt:k<9
  ·have hlk:=fun W=>HLT.out k (by omega) W
   have hia:=HIA.out k (by omega)
   have hst:=HST.out k
   obtain ⟨y1,y2,y3,y4⟩:=blk2 HYk.out
   have d9:(k:Int)≤8:=by omega
   have hne:¬w.heap.size+1=w.heap.size:=by omega
   generalize ((lts.getD k 0).toNat:Int)=C at *
   by_cases hq:l=(k:Int)
   ·have HS2:Hid (ix (k+1)=(k:Int)):=by unfold Hid;rw [hst,if_pos hq]
    rw [decide_eq_true hq] at hia
    have HYn:=Lib.hid (HYk.out.set 1 (.int .i64 (k:Int)))
    have HXn:=Lib.hid (HXk.out.far (g:=w.heap.size) (p:=⟨w.heap.size+1,1,none⟩) (by simp) (.int .i64 (k:Int)))
    have HBn:=Lib.hid (HBk.out.setCell (p:=⟨w.heap.size+1,1,none⟩) (by simp) (.int .i64 (k:Int)))
    clear hst hq
    go_wp2_with fail
    go_region
    go_wp2_with fail
    go_roundw
    case rel=>exact ⟨k+1,by omega,by go_num,HXn.out.drew,by rw [HS2.out];exact HYn.out.drew,bel_drew HBn.out⟩
    case measure=>simp [RowKit.intOf];omega
   ·have HS2:Hid (ix (k+1)=ix k):=by unfold Hid;rw [hst,if_neg hq]
    rw [decide_eq_false hq] at hia
    clear hst hq
    go_wp2_with fail
    go_region
    go_wp2_with fail
    go_roundw
    case rel=>exact ⟨k+1,by omega,by go_num,HXk.out.drew,by rw [HS2.out];exact HYk.out.drew,bel_drew HBk.out⟩
    case measure=>simp [RowKit.intOf];omega
  ·obtain rfl:k=9:=by omega
   rw [HT9.out] at HYk
   obtain ⟨y1,y2,_,_⟩:=blk2 HYk.out
   clear i1 HLT HIA HST HT0 HT9 hix
   go_wp2_with fail
   refine (HX.out _).mono ?_
   rintro e w2 ⟨rfl,hb2⟩
   have HX2:=Lib.hid (HXk.out.sub hb2)
   have HY2:=Lib.hid (HYk.out.sub hb2)
   have HB2:=Lib.hid (HBk.out.trans (hb2.mono HBk.out.size))
   clear hb2 y1 y2
   obtain ⟨y1,y2,_,_⟩:=blk2 HY2.out
   obtain ⟨x1,x2,f1,f2⟩:=blk2 HX2.out
   cases eqb
   ·have HZ:=Lib.hid ((HX2.out.set 0 (.int .i64 0)).set 1 (.int .i64 0))
    have HBZ:=Lib.hid ((HB2.out.setCell (p:=⟨w.heap.size,0,none⟩) (Nat.le_refl _) (.int .i64 0)).setCell (p:=⟨w.heap.size,1,none⟩) (Nat.le_refl _) (.int .i64 0))
    go_wp2_with fail
    refine bodyPost_ret (results_ct rfl _ _ w.heap.size _ _ _ _ rfl HZ.out Tryz.underlying39 rfl (by kernel_rfl)) rfl ?_
    exact ⟨rfl,HBZ.out⟩
   ·have HZ:=Lib.hid ((HX2.out.set 0 (.int .i64 (A-49))).set 1 (.int .i64 l))
    have HBZ:=Lib.hid ((HB2.out.setCell (p:=⟨w.heap.size,0,none⟩) (Nat.le_refl _) (.int .i64 (A-49))).setCell (p:=⟨w.heap.size,1,none⟩) (Nat.le_refl _) (.int .i64 l))
    go_wp2_with fail
    refine bodyPost_ret (results_ct rfl _ _ w.heap.size _ _ _ _ rfl HZ.out Tryz.underlying39 rfl (by kernel_rfl)) rfl ?_
    exact ⟨rfl,HBZ.out⟩
end
section
open Go.RowKit
attribute [local go_sem ↓] Go.wp_at_zero Go.wp_at_succ
theorem ls_hit:∀(k:Fin 4) (n:Fin 256),(((sLs.getD k.1 0).toNat:Int)==((UInt8.ofNat n.1).toNat:Int))=decide (Lib.indexByte sLs (UInt8.ofNat n.1)=(k.1:Int)):=by decide +kernel
theorem ls_at (k:Nat) (hk:k<4) (c:UInt8):(((sLs.getD k 0).toNat:Int)==(c.toNat:Int))=decide (Lib.indexByte sLs c=(k:Int)):=by
 have:=ls_hit ⟨k,by omega⟩ ⟨c.toNat,c.toNat_lt⟩
 rwa [UInt8.ofNat_toNat] at this
theorem ls_range:∀n:Fin 256,Lib.indexByte sLs (UInt8.ofNat n.1)=-1∨Lib.indexByte sLs (UInt8.ofNat n.1)=0∨Lib.indexByte sLs (UInt8.ofNat n.1)=1∨Lib.indexByte sLs (UInt8.ofNat n.1)=2∨Lib.indexByte sLs (UInt8.ofNat n.1)=3:=by decide +kernel
theorem ls_in (c:UInt8):Lib.indexByte sLs c=-1∨Lib.indexByte sLs c=0∨Lib.indexByte sLs c=1∨Lib.indexByte sLs c=2∨Lib.indexByte sLs c=3:=by
 have:=ls_range ⟨c.toNat,c.toNat_lt⟩
 rwa [UInt8.ofNat_toNat] at this
theorem l5Letter_any (c:UInt8) (w:World):Calls Tryz.prog 214 #[.int .u8 (c.toNat:Int)] w fun e w'=>e=.returned (.int .i64 (Lib.indexByte sLs c))∧w=w':=by
 have HLT:Hid (∀(k:Nat) (_:k<4) (W:World),(Instr.index 9 (.string ⟨#[115,112,100,102]⟩) (.int .i64 (k:Int))).run Tryz.prog W=.ok (.int .u8 ((sLs.getD k 0).toNat:Int)) W):=fun k hk W=>by
  have:=idx_strk sLs k (sLs.getD k 0) (by rw [List.getD_eq_getElem?_getD];have:k<sLs.length:=by show k<4;omega
                                          rw [List.getElem?_eq_getElem this];rfl) W
  exact this
 have HIA:=Lib.hid (fun k hk=>ls_at k hk c)
 have HIN:=Lib.hid (ls_in c)
 generalize Lib.indexByte sLs c=l at *
 obtain ⟨C,hC⟩:∃C:Int,(c.toNat:Int)=C:=⟨_,rfl⟩
 rw [hC] at HIA ⊢
 clear hC
 go_enter Tryz.func214,Tryz.ntmps214
 go_wp2_with fail
 go_loop [3] (fun i=>∃k:Nat,k≤4∧i=.int .i64 (k:Int)∧Hid (∀j:Nat,j<k→l≠(j:Int))) (fun i=>4-(RowKit.intOf i).toNat)
 case atStart=>exact ⟨0,by omega,rfl,fun j hj=>absurd hj (by omega)⟩
 case round =>
  obtain ⟨k,hk,rfl,HN⟩:=hrel
  by_cases hlt:k<4
  ·have hlk:=fun W=>HLT.out k hlt W
   have hia:=HIA.out k hlt
   have d4:(k:Int)<4:=by omega
   generalize ((sLs.getD k 0).toNat:Int)=D at *
   by_cases hq:l=(k:Int)
   ·rw [decide_eq_true hq] at hia
    have HE:=Lib.hid hq;clear hq
    go_wp2_with fail
    go_ret
    exact ⟨ret_int HE.out.symm,rfl⟩
   ·rw [decide_eq_false hq] at hia
    have HN2:Hid (∀j:Nat,j<k+1→l≠(j:Int)):=fun j hj=>by
     rcases Nat.lt_or_ge j k with h | h
     ·exact HN.out j h
     ·obtain rfl:j=k:=by omega
      exact hq
    clear hq
    go_wp2_with fail
    go_round
    case rel=>exact ⟨k+1,by omega,by go_num,HN2.out⟩
    case measure=>simp [RowKit.intOf];omega
  ·obtain rfl:k=4:=by omega
   have HE:Hid (l=-1):=by
    have h0:=HN.out 0 (by omega);have h1:=HN.out 1 (by omega);have h2:=HN.out 2 (by omega);have h3:=HN.out 3 (by omega)
    have:=HIN.out
    unfold Hid;omega
   go_wp2_with fail
   go_ret
   exact ⟨ret_int HE.out.symm,rfl⟩
theorem dgf_two (l:List UInt8) (h:l.length≤2):-1≤dgf l∧dgf l≤99:=by
 unfold dgf
 split
 ·rename_i hc
  match l,h with
  | [],_=>simp at hc
  | [a],_ =>
   have:=hc.2 a (by simp)
   simp [dval];omega
  | [a,b],_ =>
   have h1:=hc.2 a (by simp)
   have h2:=hc.2 b (by simp)
   simp [dval];omega
 ·omega
theorem dgf_dec:∀c:Fin 15,dgf (Lib.decDigits c.val)=(c.val:Int):=by decide +kernel
def shU (s:List UInt8):S3:=(((s.getD 0 0).toNat:Int)-48,Lib.indexByte sLs (s.getD 1 0),dgf (s.drop 2))
theorem shF_len {s:List UInt8} (h:s.length<3∨4<s.length):shF s=((0,0,0),false):=by
 cases hf:(shF s).2
 ·exact (shF_no hf).1
 ·obtain ⟨hv,ht⟩:=shF_yes hf
  have:=(allSh_valid _ (allSh_mem hv)).2.1
  rw [ht] at this;omega
theorem shF_is {s:List UInt8} (h3:3≤s.length) (h4:s.length≤4):shF s=if shT (shU s)=s then (shU s,true) else ((0,0,0),false):=by
 by_cases h:shT (shU s)=s
 ·rw [if_pos h]
  have hv:shvB (shU s)=true:=by
   cases hv:shvB (shU s) with
   | true=>rfl
   | false=>unfold shT at h;rw [hv] at h;simp at h;rw [h] at h3;simp at h3
  have:=shF_text hv
  rwa [h] at this
 ·rw [if_neg h]
  cases hf:(shF s).2
  ·exact (shF_no hf).1
  ·exfalso
   obtain ⟨hv,ht⟩:=shF_yes hf
   generalize (shF s).1=x at hv ht
   have hA:=(allSh_valid x (allSh_mem hv)).2
   rw [ht] at hA
   obtain ⟨_,a0,a1,a2,_⟩:=hA
   obtain ⟨n,l,c,rfl,q1,q2,q3,q4,q5,q6⟩:=shv_nat hv
   simp only [Int.toNat_natCast] at a0 a1 a2
   apply h
   have e:shU s=((n:Int),(l:Int),(c:Int)):=by
    unfold shU
    rw [a2,dgf_dec ⟨c,by omega⟩,List.getD_eq_getElem?_getD,a0,List.getD_eq_getElem?_getD,a1]
    simp only [Option.getD_some]
    rw [idx_ls ⟨l,by omega⟩]
    rw [Prod.mk.injEq]
    refine ⟨?_,rfl⟩
    have:(UInt8.ofNat (48+n)).toNat=48+n:=by
     rw [UInt8.toNat_ofNat'];omega
    omega
   rw [e];exact ht
theorem shU_sm (s:List UInt8) (h:s.length≤4):Sm (shU s):=by
 have h1:=dgf_two (s.drop 2) (by rw [List.length_drop];omega)
 have h2:=ls_in (s.getD 1 0)
 have h3:=(s.getD 0 0).toNat_lt
 unfold Sm shU
 simp only
 omega
theorem specShellFrom_all (s:List UInt8) (w:World) (hl:s.length≤1000000) :
 Calls Tryz.prog 155 #[.string (bs s)] w fun e w'=>e=.returned (shO (shF s))∧Below w.heap.size w w':=by
 have HB0:=Lib.hid (bel_alloc (Below.refl w.heap.size w) (.cells #[.int .i64 0,.int .i64 0,.int .i64 0] 42))
 have HX0:=Lib.hid (Blk.new w 42 #[.int .i64 0,.int .i64 0,.int .i64 0])
 have hsz:(bs s).size=s.length:=bs_size s
 by_cases hr:3≤s.length∧s.length≤4
 case neg =>
  rw [shF_len (by omega)]
  unfold shO
  simp only
  generalize bs s=X at *
  obtain ⟨n,hn⟩:∃n,s.length=n:=⟨_,rfl⟩
  rw [hn] at hsz hr hl
  clear hn
  by_cases h3:n<3
  ·have d0:((n:Int)<3):=by omega
   go_enter Tryz.func155,Tryz.ntmps155
   go_wp2_with fail
   refine bodyPost_ret (results_ct3 rfl _ _ w.heap.size _ _ rfl HX0.out Tryz.underlying42 rfl (by kernel_rfl)) rfl ?_
   exact ⟨rfl,HB0.out⟩
  ·have d0:¬((n:Int)<3):=by omega
   have d1:((4:Int)<(n:Int)):=by omega
   go_enter Tryz.func155,Tryz.ntmps155
   go_wp2_with fail
   refine bodyPost_ret (results_ct3 rfl _ _ w.heap.size _ _ rfl HX0.out Tryz.underlying42 rfl (by kernel_rfl)) rfl ?_
   exact ⟨rfl,HB0.out⟩
 rw [shF_is hr.1 hr.2]
 have hsm:=shU_sm s hr.2
 have HSM:=Lib.hid hsm
 have HST:=Lib.hid (fun W=>specShellText_any (shU s) W hsm)
 have HEQ:=Lib.hid (bs_eq (shT (shU s)) s)
 have H0:s[0]?=some (s.getD 0 0):=by rw [List.getD_eq_getElem?_getD,List.getElem?_eq_getElem (by omega)];rfl
 have H1:s[1]?=some (s.getD 1 0):=by rw [List.getD_eq_getElem?_getD,List.getElem?_eq_getElem (by omega)];rfl
 have HI0:Hid (∀W:World,(Instr.index 9 (.string (bs s)) (.int .i64 0)).run Tryz.prog W=.ok (.int .u8 ((s.getD 0 0).toNat:Int)) W):=fun W=>idx_strk s 0 _ H0 W
 have HI1:Hid (∀W:World,(Instr.index 9 (.string (bs s)) (.int .i64 1)).run Tryz.prog W=.ok (.int .u8 ((s.getD 1 0).toNat:Int)) W):=fun W=>idx_strk s 1 _ H1 W
 have HS2:Hid (∀W:World,(Instr.slice 9 (.string (bs s)) (some (.int .i64 2)) none none).run Tryz.prog W=.ok (.string (bs (s.drop 2))) W):=fun W=>sl_tail s 2 (by omega) W
 have HL5:=Lib.hid (fun W=>l5Letter_any (s.getD 1 0) W)
 have HDG:=Lib.hid (fun W=>l1Digits_any (s.drop 2) W (by rw [List.length_drop];omega))
 have hu:shU s=(((s.getD 0 0).toNat:Int)-48,Lib.indexByte sLs (s.getD 1 0),dgf (s.drop 2)):=rfl
 have h0l:=(s.getD 0 0).toNat_lt
 rw [hu] at HST HEQ hsm ⊢
 unfold Sm at hsm
 simp only at hsm HST
 obtain ⟨z0,hz0⟩:∃z:Int,((s.getD 0 0).toNat:Int)=z:=⟨_,rfl⟩
 rw [hz0] at HI0 HST HEQ hsm ⊢
 have hz01:0≤z0∧z0≤255:=by omega
 clear hz0 h0l hu H0 H1 HSM
 obtain ⟨L,hL⟩:∃L,Lib.indexByte sLs (s.getD 1 0)=L:=⟨_,rfl⟩
 rw [hL] at HL5 HST HEQ hsm ⊢
 clear hL
 obtain ⟨v,hv⟩:∃v,dgf (s.drop 2)=v:=⟨_,rfl⟩
 rw [hv] at HDG HST HEQ hsm ⊢
 clear hv
 obtain ⟨q,hq⟩:∃q:Bool,decide (shT (z0-48,L,v)=s)=q:=⟨_,rfl⟩
 have HRE:Hid ((if shT (z0-48,L,v)=s then ((z0-48,L,v),true) else (((0:Int),(0:Int),(0:Int)),false))=if q then ((z0-48,L,v),true) else ((0,0,0),false)):=by
  unfold Hid
  rw [←hq]
  by_cases h:shT (z0-48,L,v)=s
  ·rw [if_pos h,decide_eq_true h];rfl
  ·rw [if_neg h,decide_eq_false h];rfl
 rw [HRE.out]
 have HEQ2:=Lib.hid (HEQ.out.trans hq)
 clear hq HRE HEQ
 obtain ⟨C1,hC1⟩:∃C:Int,((s.getD 1 0).toNat:Int)=C:=⟨_,rfl⟩
 rw [hC1] at HI1 HL5
 clear hC1
 generalize bs (shT (z0-48,L,v))=Y at *
 generalize bs (s.drop 2)=R at *
 generalize bs s=X at *
 obtain ⟨n,hn⟩:∃n,s.length=n:=⟨_,rfl⟩
 rw [hn] at hsz hr hl
 clear hn
 have d0:¬((n:Int)<3):=by omega
 have d1:¬((4:Int)<(n:Int)):=by omega
 have u1:IntKind.i64.wrap z0=z0:=IntWalk.i64_in _ (by omega)
 have u2:IntKind.i64.wrap (z0-48)=z0-48:=IntWalk.i64_in _ (by omega)
 unfold shO
 go_enter Tryz.func155,Tryz.ntmps155
 go_wp2_with fail
 have hi0:=HI0.out
 have hi1:=HI1.out
 have hs2:=HS2.out
 refine Fr.region_free' [(42,4)] [(42,4,.tmp 24)] (fun _=>42) (fun _=>#[.int .i64 0,.int .i64 0,.int .i64 0]) (fun _=>#[.int .i64 (z0-48),.int .i64 L,.int .i64 v]) 31 (by kernel_rfl) rfl (by kernel_rfl) rfl rfl ?hxq ?hal ?h
 case hxq=>intro s hs e he;simp at hs;subst hs;simp at he;subst he;simp
 case hal=>intro x hx W;simp at hx;subst hx;simp [go_sem]
 case h =>
 apply Exists.intro
 refine ⟨?hW,?hst,?hQ⟩
 case hW =>
  intro A θ hne
  simp only [List.filter_cons,List.filter_nil,Fr.isQ,Fr.alOf,Fr.stOf,Option.isNone_none,Option.isNone_some,Bool.and_self,Bool.and_true,Bool.and_false,Bool.false_eq_true,↓reduceIte]
  repeat (go_big_quiet_step ((first | (go_at_call 214;(with_reducible exact Fr.aftB_same _ (HL5.out _))) | (go_at_call 151;(exact Fr.aftB_same _ ((HDG.out _).mono fun _ _ h=>⟨h.1,h.2.symm⟩))))))
  exact wpQuiet_nil rfl
 case hst =>
  intro s hs W g hB
  simp at hs
  subst hs
  exact st_3 (by kernel_rfl) W g _ _ _ (.int .i64 (z0-48)) (.int .i64 L) (.int .i64 v) rfl rfl rfl hB
 case hQ =>
  intro A w' hb hals hap
  obtain ⟨hA,hbl⟩:=hals (42,4) (by simp)
  simp only at hA hbl
  have HB3:=Lib.hid (bel_sub HB0.out hb)
  have HX3:=Lib.hid (HX0.out.sub hb)
  have HG3:=Lib.hid hbl
  have hgs:w.heap.size≠A 4:=fun e=>by have:=HX0.out.lt;omega
  obtain ⟨y1,y2,y3,_,_,_⟩:=blk3 hbl
  clear hals hap hb hbl hi0 hi1 hs2
  simp only [Fr.putAls,Act.put,List.setIfInBounds_toArray,List.set_cons_succ,List.set_cons_zero]
  generalize A 4=g at *
  go_wp2_with fail
  refine (HST.out _).mono ?_
  rintro e w4 ⟨rfl,hb4⟩
  have HB4:=Lib.hid (bel_sub HB3.out hb4)
  have HX4:=Lib.hid (HX3.out.sub hb4)
  have HG4:=Lib.hid (HG3.out.sub hb4)
  clear hb4 y1 y2 y3
  obtain ⟨y1,y2,y3,_,_,_⟩:=blk3 HG4.out
  obtain ⟨x1,x2,x3,f1,f2,f3⟩:=blk3 HX4.out
  have hlt:=HX4.out.lt
  have hltg:=HG4.out.lt
  have dq:=HEQ2.out
  cases q
  ·have HBZ:=Lib.hid (bel_set (g:=w.heap.size) (i:=2) (u:=.int .i64 0) (bel_set2 (g:=w.heap.size) (x:=.int .i64 0) (y:=.int .i64 0) HB4.out (Nat.le_refl _)) (Nat.le_refl _))
   have HZ:=Lib.hid (((HX4.out.set 0 (.int .i64 0)).set 1 (.int .i64 0)).set 2 (.int .i64 0))
   go_wp2_with fail
   refine bodyPost_ret (results_ct3 rfl _ _ w.heap.size _ _ rfl HZ.out Tryz.underlying42 rfl (by kernel_rfl)) rfl ?_
   exact ⟨rfl,HBZ.out⟩
  ·have HBZ:=Lib.hid (bel_set (g:=w.heap.size) (i:=2) (u:=.int .i64 v) (bel_set2 (g:=w.heap.size) (x:=.int .i64 (z0-48)) (y:=.int .i64 L) HB4.out (Nat.le_refl _)) (Nat.le_refl _))
   have HZ:=Lib.hid (((HX4.out.set 0 (.int .i64 (z0-48))).set 1 (.int .i64 L)).set 2 (.int .i64 v))
   go_wp2_with fail
   refine bodyPost_ret (results_ct3 rfl _ _ w.heap.size _ _ rfl HZ.out Tryz.underlying42 rfl (by kernel_rfl)) rfl ?_
   exact ⟨rfl,HBZ.out⟩
end
end Go.Proofs.YtjdfbnlaiiknpaaGreatDoor
