/- Parts of the proof of : Lb Lc. -/
import Derived.Test.YtjdfbnlaiiknpaaGreatDoorQ38
set_option maxHeartbeats 20000000
set_option maxRecDepth 1000000
set_option linter.unusedSimpArgs false
set_option linter.unusedVariables false
namespace Go.Proofs.YtjdfbnlaiiknpaaGreatDoor
section
open Go.RowKit
attribute [local go_sem ↓] Go.wp_at_zero Go.wp_at_succ
theorem cfF_cv {s:List UInt8} (h:(cfF s).2=true):cvB (cfF s).1=true:=by
 unfold cfF at h ⊢
 split
 ·rename_i h1
  rw [if_pos h1] at h
  split
  ·rename_i h2;exact h2
  ·rename_i h2;rw [if_neg h2] at h;cases h
 ·rename_i h1;rw [if_neg h1] at h;cases h
theorem l51Config_any (A:Option Addr) (n c:Nat) (ws:List (List UInt8)) (w:World) (hl:ws.length=n) (h1:1≤n) (hn:n≤1000) (hm:∀k,(ws.getD k []).length≤10000) (hj:(Lib.join (ws.drop 1) [32]).length≤900) (hr:Reads w w.heap.size 1 A n (scells ws)) :
 Calls Tryz.prog 62 #[.slice A n c] w fun e w'=>e=.returned (.string (bs (finT (if ws.getD 0 []=hunW then rqHu (Lib.join (ws.drop 1) [32]) else rqTe (Lib.join (ws.drop 1) [32])))))∧Below w.heap.size w w':=by
 have HRE:=Lib.hid (l51Rest_any A n c 1 ws w hl hn h1 hm hr)
 have HR:=Lib.hid hr;have HL:=Lib.hid hl
 have HCF:=Lib.hid (fun W=>specConfigFrom_all (Lib.join (ws.drop 1) [32]) hj W)
 have hcl:=cfF_len (Lib.join (ws.drop 1) [32])
 have hcv:(cfF (Lib.join (ws.drop 1) [32])).2=true→_:=fun h=>cfF_cv h
 have HEQ:=Lib.hid (bs_eq (ws.getD 0 []) hunW)
 obtain ⟨q,hq⟩:∃q:Bool,decide (ws.getD 0 []=hunW)=q:=⟨_,rfl⟩
 have hif:(if ws.getD 0 []=hunW then rqHu (Lib.join (ws.drop 1) [32]) else rqTe (Lib.join (ws.drop 1) [32]))=if q=true then rqHu (Lib.join (ws.drop 1) [32]) else rqTe (Lib.join (ws.drop 1) [32]):=by
  rw [←hq];simp only [decide_eq_true_eq]
 rw [hif];rw [hq] at HEQ
 clear hif hq hr hl hm
 unfold rqHu rqTe
 generalize Lib.join (ws.drop 1) [32]=J at *
 obtain ⟨⟨ss,ok⟩,hrr⟩:∃r,cfF J=r:=⟨_,rfl⟩
 rw [hrr] at HCF hcl hcv ⊢
 clear hrr
 unfold CFPost at HCF
 simp only at HCF hcl hcv ⊢
 obtain ⟨b0,off,rfl,hb0,hc0⟩:=HR.out.str HL.out (show 0<n by omega)
 rw [Nat.add_zero] at hc0
 have HC0:=Lib.hid hc0;clear hc0
 obtain ⟨D,hD⟩:∃D,bs (ws.getD 0 [])=D:=⟨_,rfl⟩
 rw [hD] at HEQ HC0;clear hD
 generalize bs J=X at *
 have HEQ2:Hid ((D.toList==([104,117,110,100]:List UInt8))=q):=by
  have h:=HEQ.out
  rwa [show (bs hunW).toList=[104,117,110,100] from ByteArray.toList_mk _] at h
 clear HEQ
 cases ok
 ·have hfin:finT (if q=true then (l1T (hdC ss).1.1 (hdC ss).1.2,false && (hdC ss).2) else (tsT (tcF ss).1,false && (tcF ss).2))=[110,111]:=by
   cases q <;> rfl
  rw [hfin,bs_no]
  clear hfin hcv
  go_enter Tryz.func62,Tryz.ntmps62
  go_wp2_with fail
  refine HRE.out.mono ?_
  rintro e w1 ⟨rfl,hb1⟩
  have HB1:=Lib.hid hb1;clear hb1
  go_wp2_with fail
  refine (HCF.out _).mono ?_
  rintro e w2 ⟨⟨A2,c2,rfl,hr2⟩,hb2⟩
  have HB2:=Lib.hid (bel_sub HB1.out hb2);clear hb2 hr2
  go_wp2_with fail
  go_ret
  exact ⟨rfl,HB2.out⟩
 have hsm:∀s∈ss,Sm s:=fun s hs=>shv_sm ((cv_all (hcv rfl)).1 s hs)
 obtain ⟨m,hm2⟩:∃m,ss.length=m:=⟨_,rfl⟩
 rw [hm2] at HCF hcl
 have HM:=Lib.hid hm2;clear hm2 hcv
 have HSM:=Lib.hid hsm;clear hsm
 cases q
 ·rw [if_neg (by simp),Bool.true_and]
  have HTC:=Lib.hid (fun A c W hr=>specTermsConfig_any A m c ss W (by omega) HM.out HSM.out hr)
  unfold TCPost at HTC
  have htl:=tcF_len ss
  obtain ⟨⟨ts,fine⟩,hf⟩:∃r,tcF ss=r:=⟨_,rfl⟩
  rw [hf] at HTC htl ⊢
  clear hf
  simp only at HTC htl ⊢
  obtain ⟨k,hk⟩:∃k,ts.length=k:=⟨_,rfl⟩
  rw [hk] at HTC htl
  have HTT:=Lib.hid (fun A c W hr=>specTermsText_any A k c ts W (by omega) hk hr)
  clear hk
  unfold finT
  simp only
  go_enter Tryz.func62,Tryz.ntmps62
  go_wp2_with fail
  refine HRE.out.mono ?_
  rintro e w1 ⟨rfl,hb1⟩
  have HB1:=Lib.hid hb1;clear hb1
  go_wp2_with fail
  refine (HCF.out _).mono ?_
  rintro e w2 ⟨⟨A2,c2,rfl,hr2⟩,hb2⟩
  have HB2:=Lib.hid (bel_sub HB1.out hb2)
  have HR2:=Lib.hid hr2
  have hc0:=cell_sub HB2.out HC0.out
  have heq:=HEQ2.out
  clear hb2 hr2
  go_wp2_with fail
  refine (HTC.out A2 c2 _ HR2.out).mono ?_
  rintro e w3 ⟨⟨A3,c3,rfl,hr3⟩,hb3⟩
  have HB3:=Lib.hid (bel_sub HB2.out hb3)
  have HR3:=Lib.hid hr3
  clear hb3 hr3 hc0 heq
  cases fine
  ·go_wp2_with fail
   go_ret
   exact ⟨rfl,HB3.out⟩
  ·go_wp2_with fail
   refine (HTT.out A3 c3 _ HR3.out).mono ?_
   rintro e w4 ⟨rfl,hb4⟩
   have HB4:=Lib.hid (bel_sub HB3.out hb4)
   clear hb4
   go_wp2_with fail
   go_ret
   exact ⟨rfl,HB4.out⟩
 ·rw [if_pos rfl,Bool.true_and]
  have HHC:=Lib.hid (fun A c W hr=>specHundConfig_any A m c ss W (by omega) HM.out HSM.out hr)
  have hmem:=hdC_mem ss
  obtain ⟨⟨⟨⟨t1,t2⟩,j⟩,fine⟩,hf⟩:∃r,hdC ss=r:=⟨_,rfl⟩
  rw [hf] at HHC hmem ⊢
  clear hf
  unfold lvV at HHC
  simp only at HHC hmem ⊢
  have HLT:Hid (∀W,Calls Tryz.prog 101 #[.agg #[.int .i64 t1,.int .i64 t2,.int .i64 j]] W fun e w'=>e=.returned (.string (bs (l1T (t1,t2) j)))∧Below W.heap.size W w'):=fun W=>by
   have:=specLevelText_any (t1,t2) j W
   rwa [lvB_mem.2 hmem,if_pos rfl] at this
  clear hmem
  unfold finT
  simp only
  go_enter Tryz.func62,Tryz.ntmps62
  go_wp2_with fail
  refine HRE.out.mono ?_
  rintro e w1 ⟨rfl,hb1⟩
  have HB1:=Lib.hid hb1;clear hb1
  go_wp2_with fail
  refine (HCF.out _).mono ?_
  rintro e w2 ⟨⟨A2,c2,rfl,hr2⟩,hb2⟩
  have HB2:=Lib.hid (bel_sub HB1.out hb2)
  have HR2:=Lib.hid hr2
  have hc0:=cell_sub HB2.out HC0.out
  have heq:=HEQ2.out
  clear hb2 hr2
  go_wp2_with fail
  refine (HHC.out A2 c2 _ HR2.out).mono ?_
  rintro e w3 ⟨rfl,hb3⟩
  have HB3:=Lib.hid (bel_alloc (bel_sub HB2.out hb3) (.cells #[.int .i64 t1,.int .i64 t2,.int .i64 j] 131))
  clear hb3 hc0 heq
  cases fine
  ·go_wp2_with fail
   go_ret
   exact ⟨rfl,HB3.out⟩
  ·go_wp2_with fail
   refine (HLT.out _).mono ?_
   rintro e w4 ⟨rfl,hb4⟩
   have HB4:=Lib.hid (bel_sub HB3.out hb4)
   clear hb4
   go_wp2_with fail
   go_ret
   exact ⟨rfl,HB4.out⟩
end
section
open Go.RowKit
attribute [local go_sem ↓] Go.wp_at_zero Go.wp_at_succ
def RsS (w2:World) (A':Option Addr) (k c':Nat) (xs:List Value) (W:World):Prop:=Below w2.heap.size w2 W∧W.ownsRow w2.heap.size 9 1 (.slice A' k c') k xs
theorem RsS.sub {w2:World} {A':Option Addr} {k c':Nat} {xs:List Value} {W W':World} (h:RsS w2 A' k c' xs W) (hb:Below W.heap.size W W'):RsS w2 A' k c' xs W':=⟨bel_sub h.1 hb,own_below h.2 hb⟩
theorem RsS.drew {w2:World} {A':Option Addr} {k c':Nat} {xs:List Value} {W:World} (h:RsS w2 A' k c' xs W):RsS w2 A' k c' xs W.drew:=⟨h.1.drew,ownsRow_drew' h.2⟩
theorem rss_app {w2:World} {A' A2:Option Addr} {k c' c2:Nat} {xs zs:List Value} {W W2:World} {o:Array Value} (h:RsS w2 A' k c' xs W) (hown:W2.ownsRow w2.heap.size 9 1 (.slice A2 (k+1) c2) (k+1) zs) (hb:Below w2.heap.size (W.alloc (.cells o 9)) W2):RsS w2 A2 (k+1) c2 zs W2 :=
 ⟨(h.1.alloc h.1.size _).trans hb,hown⟩
def C4 (b o:Nat) (n1 n2 n3 n4:Int) (W:World):Prop:=W.cell? ⟨b,o+2,none⟩=some (.int .i64 n1)∧W.cell? ⟨b,o+3,none⟩=some (.int .i64 n2)∧W.cell? ⟨b,o+4,none⟩=some (.int .i64 n3)∧W.cell? ⟨b,o+5,none⟩=some (.int .i64 n4)
theorem C4.sub {w2:World} {b o:Nat} {n1 n2 n3 n4:Int} {A':Option Addr} {k c':Nat} {xs:List Value} {W:World} (h:C4 b o n1 n2 n3 n4 w2) (hb:RsS w2 A' k c' xs W):C4 b o n1 n2 n3 n4 W :=
 ⟨cell_sub hb.1 h.1,cell_sub hb.1 h.2.1,cell_sub hb.1 h.2.2.1,cell_sub hb.1 h.2.2.2⟩
theorem C4.alloc {b o:Nat} {n1 n2 n3 n4:Int} {W:World} (h:C4 b o n1 n2 n3 n4 W) (x:Obj):C4 b o n1 n2 n3 n4 (W.alloc x):=⟨cell_past _ h.1,cell_past _ h.2.1,cell_past _ h.2.2.1,cell_past _ h.2.2.2⟩
theorem l51Split_any (s1 s2:List UInt8) (w:World) (l1:s1.length≤1000000) (l2:s2.length≤1000000) :
 Calls Tryz.prog 68 #[.string (bs s1),.string (bs s2)] w fun e w'=>e=.returned (.string (bs (finT (rqSpl s1 s2))))∧Below w.heap.size w w':=by
 have HLF1:=Lib.hid (fun W=>specLevelFrom_all s1 W l1)
 have HLF2:=Lib.hid (fun W=>specLevelFrom_all s2 W l2)
 unfold rqSpl finT
 simp only
 obtain ⟨r1,hr1⟩:∃r,lvF s1=r:=⟨_,rfl⟩
 obtain ⟨r2,hr2⟩:∃r,lvF s2=r:=⟨_,rfl⟩
 rw [hr1] at HLF1 ⊢
 rw [hr2] at HLF2 ⊢
 clear hr1 hr2
 obtain ⟨⟨⟨su,lu⟩,ju⟩,ok1⟩:=r1
 obtain ⟨⟨⟨sl,ll⟩,jl⟩,ok2⟩:=r2
 unfold lvV at HLF1 HLF2
 simp only at HLF1 HLF2 ⊢
 have HSP:=Lib.hid (fun W=>specSplitOf_any su lu ju sl ll jl W)
 unfold SplitsPost at HSP
 have hnl:=spL_len (su,lu) (sl,ll) ju jl
 have HTT:Hid (splT (su,lu) ju (sl,ll) jl=Lib.join (((spL (su,lu) ju (sl,ll) jl).map (spE (fz (su,lu) ju) ju (fz (sl,ll) jl) jl)).drop 0) [32]):=rfl
 obtain ⟨TT,hTT⟩:∃T,splT (su,lu) ju (sl,ll) jl=T:=⟨_,rfl⟩
 rw [hTT] at HTT ⊢
 clear hTT
 obtain ⟨n,hn⟩:∃n,(spL (su,lu) ju (sl,ll) jl).length=n:=⟨_,rfl⟩
 rw [hn] at HSP hnl
 have HN:=Lib.hid hn;clear hn
 obtain ⟨ok3,hok3⟩:∃o,spOk (su,lu) ju (sl,ll) jl=o:=⟨_,rfl⟩
 rw [hok3] at HSP ⊢
 clear hok3
 generalize spL (su,lu) ju (sl,ll) jl=ps at *
 generalize fz (su,lu) ju=gu at *
 generalize fz (sl,ll) jl=gl at *
 have HRE:=Lib.hid (fun A c W hr=>l51Rest_any A n c 0 (ps.map (spE gu ju gl jl)) W (by rw [List.length_map];exact HN.out) (by omega) (Nat.zero_le _) (fun k=>by
  rw [List.getD_eq_getElem?_getD,List.getElem?_map]
  rcases h:ps[k]? with _ | p
  ·simp
  ·have:=spE_len gu ju gl jl p
   simp;omega) hr)
 rw [←HTT.out] at HRE
 clear HTT
 generalize bs s1=X1 at *
 generalize bs s2=X2 at *
 go_enter Tryz.func68,Tryz.ntmps68
 go_wp2_with fail
 refine (HLF1.out _).mono ?_
 rintro e w2 ⟨rfl,hb2⟩
 have HB2:=Lib.hid (bel_alloc hb2 (.cells #[.int .i64 su,.int .i64 lu,.int .i64 ju] 131))
 have HX2:=Lib.hid (Blk.new w2 131 #[.int .i64 su,.int .i64 lu,.int .i64 ju])
 clear hb2
 go_wp2_with fail
 refine (HLF2.out _).mono ?_
 rintro e w3 ⟨rfl,hb3⟩
 have HB3:=Lib.hid (bel_alloc (bel_sub HB2.out hb3) (.cells #[.int .i64 sl,.int .i64 ll,.int .i64 jl] 131))
 have HX3:=Lib.hid ((HX2.out.sub hb3).alloc (.cells #[.int .i64 sl,.int .i64 ll,.int .i64 jl] 131))
 have HY3:=Lib.hid (Blk.new w3 131 #[.int .i64 sl,.int .i64 ll,.int .i64 jl])
 clear hb3 HB2 HX2
 cases ok1
 ·go_wp2_with fail
  go_ret
  exact ⟨rfl,HB3.out⟩
 cases ok2
 ·go_wp2_with fail
  go_ret
  exact ⟨rfl,HB3.out⟩
 obtain ⟨x1,x2,x3,_,_,_⟩:=blk3 HX3.out
 obtain ⟨y1,y2,y3,_,_,_⟩:=blk3 HY3.out
 go_wp2_with fail
 refine (HSP.out _).mono ?_
 rintro e w4 ⟨⟨A,c,rfl,hr4⟩,hb4⟩
 have HB4:=Lib.hid (bel_sub HB3.out hb4)
 have HR4:=Lib.hid (own_reads hr4)
 have HO4:=Lib.hid (own_empty w4 9 1)
 have HB5:=Lib.hid (bel_alloc (Below.refl w4.heap.size w4) (.cells #[] 9))
 clear hb4 hr4 x1 x2 x3 y1 y2 y3 HX3 HY3 HB3 HSP HLF1 HLF2
 cases ok3
 ·go_wp2_with fail
  go_ret
  exact ⟨rfl,HB4.out⟩
 go_wp2_with fail
 go_loopw [11,12] (fun v i wr=>∃(k:Nat) (A':Option Addr) (c':Nat),k≤n∧i=.int .i64 (k:Int)∧v=.slice A' k c'∧Hid (RsS w4 A' k c' (scells ((ps.take k).map (spE gu ju gl jl))) wr)) (fun _ i _=>n-(RowKit.intOf i).toNat)
 case atStart=>exact ⟨0,_,_,Nat.zero_le _,rfl,rfl,HB5.out,HO4.out⟩
 case round =>
  clear HO4 HB5
  obtain ⟨k,A',c',hk,rfl,rfl,HI⟩:=hrel
  by_cases hlt:k<n
  ·obtain ⟨b',off,p,rfl,hb',hp,r1,r2,r3,r4,r5,r6⟩:=HR4.out.spl hlt
   have hkl:k<ps.length:=by rw [HN.out];exact hlt
   have hjk:ps[k]=p:=by rw [List.getElem?_eq_getElem hkl] at hp;injection hp
   have HJ:Hid (scells ((ps.take (k+1)).map (spE gu ju gl jl))=scells ((ps.take k).map (spE gu ju gl jl))++[.string (bs (spE gu ju gl jl p))]):=by
    unfold Hid scells
    rw [List.take_succ_eq_append_getElem hkl,List.map_append,List.map_append,hjk]
    rfl
   have HTX:Hid (bs (spE gu ju gl jl p)=bs (ratT (shR gu p.1 gl p.2).1)++⟨#[58]⟩++bs (ratT (clR jl 2 ju p.2 (p.1-p.2)).1.2)):=by
    unfold Hid spE;rw [←bs_append,←bs_append];rfl
   have HR1:=Lib.hid (fun W=>specRatText_any (shR gu p.1 gl p.2).1.1 (shR gu p.1 gl p.2).1.2 W)
   have HR2:=Lib.hid (fun W=>specRatText_any (clR jl 2 ju p.2 (p.1-p.2)).1.2.1 (clR jl 2 ju p.2 (p.1-p.2)).1.2.2 W)
   have hz1:(bs (ratT (shR gu p.1 gl p.2).1)).size≤23:=by rw [bs_size];exact ratT_len _
   have hz2:(bs (ratT (clR jl 2 ju p.2 (p.1-p.2)).1.2)).size≤23:=by rw [bs_size];exact ratT_len _
   have HC4:Hid (C4 b' (off+k*6) (shR gu p.1 gl p.2).1.1 (shR gu p.1 gl p.2).1.2 (clR jl 2 ju p.2 (p.1-p.2)).1.2.1 (clR jl 2 ju p.2 (p.1-p.2)).1.2.2 w4):=⟨r3,r4,r5,r6⟩
   clear hp hjk hkl r1 r2 r3 r4 r5 r6
   rw [show (((shR gu p.1 gl p.2).1.1,(shR gu p.1 gl p.2).1.2):T2)=(shR gu p.1 gl p.2).1 from rfl] at HR1
   rw [show (((clR jl 2 ju p.2 (p.1-p.2)).1.2.1,(clR jl 2 ju p.2 (p.1-p.2)).1.2.2):T2)=(clR jl 2 ju p.2 (p.1-p.2)).1.2 from rfl] at HR2
   generalize bs (spE gu ju gl jl p)=TX at *
   generalize bs (ratT (shR gu p.1 gl p.2).1)=T1 at *
   generalize bs (ratT (clR jl 2 ju p.2 (p.1-p.2)).1.2)=T2 at *
   generalize (shR gu p.1 gl p.2).1.1=n1 at *
   generalize (shR gu p.1 gl p.2).1.2=n2 at *
   generalize (clR jl 2 ju p.2 (p.1-p.2)).1.2.1=n3 at *
   generalize (clR jl 2 ju p.2 (p.1-p.2)).1.2.2=n4 at *
   generalize scells ((ps.take k).map (spE gu ju gl jl))=xs at *
   have i1:(k:Int)<(n:Int):=by omega
   have i0:(0:Int)≤(k:Int):=by omega
   have HID:=Lib.hid (HI.out.drew)
   have hs4:=HI.out.1.size
   have qa1:¬(9223372036854775807<T1.size+1):=by omega
   have qa2:¬(9223372036854775807<T1.size+1+T2.size):=by omega
   obtain ⟨e2,e3,e4,e5⟩:=HC4.out.sub HI.out
   go_wp2_with fail
   go_region_held3 (fun w'=>w'.cell? ⟨b',off+k*6+2,none⟩=some (.int .i64 n1)∧w'.cell? ⟨b',off+k*6+3,none⟩=some (.int .i64 n2)∧w'.cell? ⟨b',off+k*6+4,none⟩=some (.int .i64 n3)∧w'.cell? ⟨b',off+k*6+5,none⟩=some (.int .i64 n4)) (first | exact ⟨e2,e3,e4,e5⟩ | exact HC4.out.sub hi6 | exact HC4.out.sub hi5 | exact (HC4.out.sub hi6).alloc _ | exact HC4.out.sub hi7)
    (first | (go_at_call 107;with_reducible refine (HR1.out _).mono ?_;rintro e w5 ⟨rfl,hb5⟩;have hi5:=HID.out.sub hb5) | (go_at_call 107;with_reducible refine (HR2.out _).mono ?_;rintro e w6 ⟨rfl,hb6⟩;have hi6:=hi5.sub hb6) | (refine step_app2 _ (by rfl) (.tmp 44) (.tmp 59) _ (by rfl) w4.heap.size 9 1 16 elStr A' c' k xs (by rfl) (hi6.2.alloc _) w6.heap.size #[.string (T1++⟨#[58]⟩++T2)] (by rfl) (Blk.new w6 _ _) (by rfl) (one1 (by rfl)) (by omega) (by omega) (by have:=hi6.1.size;simp;omega) ?_;intro A2 c2 w7 hown7 hc7 hb7 hk7;have hi7:=rss_app hi6 hown7 hb7))
   all_goals
    have HI7:=Lib.hid hi7
    clear hown7 hb7 hk7 hi7 hi6 hi5 hb5 hb6
    go_wp2_with fail
    go_roundw
    case rel =>
     refine ⟨k+1,A2,c2,by omega,by go_num,rfl,?_⟩
     unfold Hid
     rw [HJ.out,HTX.out];exact HI7.out
    case measure=>simp [RowKit.intOf];omega
  ·obtain rfl:k=n:=by omega
   have htk:ps.take k=ps:=List.take_of_length_le (by rw [HN.out];exact Nat.le_refl _)
   rw [htk] at HI
   have HB9:=Lib.hid (bel_sub HB4.out HI.out.1)
   have HR9:=Lib.hid (HRE.out A' c' _ (own_reads HI.out.2))
   clear HI htk
   go_wp2_with fail
   refine HR9.out.mono ?_
   rintro e w5 ⟨rfl,hb5⟩
   have HB5:=Lib.hid (bel_sub HB9.out hb5);clear hb5
   go_wp2_with fail
   go_ret
   exact ⟨rfl,HB5.out⟩
end
end Go.Proofs.YtjdfbnlaiiknpaaGreatDoor
