/- Parts of the proof of : LSpl. -/
import Derived.Test.YtlgdndnaiogooaaGreatDoorQ45
import Derived.Test.YtlgdndnaiogooaaGreatDoorQ28
set_option maxHeartbeats 20000000
set_option maxRecDepth 1000000
set_option linter.unusedSimpArgs false
set_option linter.unusedVariables false
namespace Go.Proofs.YtlgdndnaiogooaaGreatDoor
section
open Go.RowKit
attribute [local go_sem ↓] Go.wp_at_zero Go.wp_at_succ
def splW:List UInt8:=[115,112,108,105,116]
theorem spl_cmd:cmdOf splW=some 132:=by decide +kernel
def splLn (a b:List UInt8):List UInt8:=splW++32 :: (a++32 :: b)
theorem splLine (tu tl:T2) (ju jl:Int) (w:World) (h:spOk tu ju tl jl=true) (hE:Ers w) (ht:Tab w):LineOk w (splLn (l1T tu ju) (l1T tl jl)) (splT tu ju tl jl):=by
 obtain ⟨v1,v2,_⟩:=spOk_iff.1 h
 obtain ⟨e1,e2,e3,e4⟩:=lvF_text v1
 obtain ⟨f1,f2,f3,f4⟩:=lvF_text v2
 have hs:spl 32 (splLn (l1T tu ju) (l1T tl jl))=[splW,l1T tu ju,l1T tl jl]:=by unfold splLn;rw [spl_app (by decide),spl_app e2,spl_none f2]
 intro W b hW hbl
 rw [hs] at hbl ⊢
 have hr:rqSpl (l1T tu ju) (l1T tl jl)=(splT tu ju tl jl,true):=by unfold rqSpl;rw [e1,f1];simp [h]
 exact answer_any b 3 [splW,l1T tu ju,l1T tl jl] splW 132 (bs (splT tu ju tl jl)) true W rfl rfl (by decide) (by omega) hbl spl_cmd
  (enters_of Tryz.func132 (by kernel_rfl) rfl)
  (fun W' hW'=>by
   have:=reqSplit_any (l1T tu ju) (l1T tl jl) b W' (by omega) (by omega) (Nat.lt_of_lt_of_le hbl.lt hW'.size) (((hbl.sub hW').cell 1).trans rfl) (((hbl.sub hW').cell 2).trans rfl) ((hE.on hW).on hW') ((ht.on hW).on hW')
   rw [hr] at this
   exact this)
theorem DrawSplitOf_any (A:Option Addr) (n c:Nat) (w:World) (hm:n≤140737488355328) (hc:n≤c) (hb:Bytes w w.heap.size A n) :
 Calls Tryz.prog 29 #[.slice A n c] w fun e w'=>∃a b c a' b' c':Int,e=.returned (.tuple #[.agg #[.int .i64 a,.int .i64 b,.int .i64 c],.agg #[.int .i64 a',.int .i64 b',.int .i64 c']])∧Below w.heap.size w w':=by
 have hb':Bytes ((w.alloc (.cells #[.int .i64 0,.int .i64 0,.int .i64 0] 31)).alloc (.cells #[.int .i64 0,.int .i64 0,.int .i64 0] 31)) ((w.alloc (.cells #[.int .i64 0,.int .i64 0,.int .i64 0] 31)).alloc (.cells #[.int .i64 0,.int .i64 0,.int .i64 0] 31)).heap.size A n:=fun hn=>by
  obtain ⟨b,off,e,h1,h2⟩:=(hb.keep fun p hp=>(World.cell?_alloc_lt (w.alloc (.cells #[.int .i64 0,.int .i64 0,.int .i64 0] 31)) (.cells #[.int .i64 0,.int .i64 0,.int .i64 0] 31) p (by simp;omega)).trans (World.cell?_alloc_lt w (.cells #[.int .i64 0,.int .i64 0,.int .i64 0] 31) p (by omega))) hn
  exact ⟨b,off,e,by simp;omega,h2⟩
 have HBY:=Lib.hid hb';clear hb hb'
 have HB:=Lib.hid (bel_alloc (bel_alloc (Below.refl w.heap.size w) (.cells #[.int .i64 0,.int .i64 0,.int .i64 0] 31)) (.cells #[.int .i64 0,.int .i64 0,.int .i64 0] 31))
 have H0:=Lib.hid ((Blk.new w 31 #[.int .i64 0,.int .i64 0,.int .i64 0]).alloc (.cells #[.int .i64 0,.int .i64 0,.int .i64 0] 31))
 have H1:=Lib.hid (Blk.new (w.alloc (.cells #[.int .i64 0,.int .i64 0,.int .i64 0] 31)) 31 #[.int .i64 0,.int .i64 0,.int .i64 0])
 rw [World.size_alloc] at H1
 go_enter Tryz.func29,Tryz.ntmps29
 go_wp2_with fail
 refine (l6Open_any A n c _ hm hc HBY.out).mono ?_
 rintro e w1 ⟨rfl,hR1,hb1⟩
 replace HB:=Lib.hid (bel_sub HB.out hb1)
 replace H0:=Lib.hid (H0.out.sub hb1)
 replace H1:=Lib.hid (H1.out.sub hb1)
 have HR1:=Lib.hid hR1
 obtain ⟨B,hB⟩:∃B,((w.alloc (.cells #[.int .i64 0,.int .i64 0,.int .i64 0] 31)).alloc (.cells #[.int .i64 0,.int .i64 0,.int .i64 0] 31)).heap.size=B:=⟨_,rfl⟩
 have hB2:B=w.heap.size+1+1:=by rw [←hB];simp
 rw [hB] at HR1
 clear hb1 hR1 HBY hB
 subst hB2
 go_wp2_with fail
 refine (l92Split_any (w.heap.size+1+1) (w.heap.size+1+1) 0 _ (by omega) HR1.out).mono ?_
 rintro e w2 ⟨a,b,c,a',b',c',rfl,_,_,hg2⟩
 have HB2:=Lib.hid (below_of_gb HB.out hg2 HB.out.size (by omega))
 replace H0:=Lib.hid (H0.out.gb hg2 (by omega))
 replace H1:=Lib.hid (H1.out.gb hg2 (by omega))
 clear hg2 HB HR1
 obtain ⟨x1,x2,x3,f1,f2,f3⟩:=blk3 H0.out
 obtain ⟨y1,y2,y3,g1,g2,g3⟩:=blk3 H1.out
 have HZ0:=Lib.hid (blk_far3 (p:=w.heap.size+1) (x:=.int .i64 a') (y:=.int .i64 b') (z:=.int .i64 c') (blk_set3 (x:=.int .i64 a) (y:=.int .i64 b) (z:=.int .i64 c) H0.out) (by omega))
 have HZ1:=Lib.hid (blk_set3 (x:=.int .i64 a') (y:=.int .i64 b') (z:=.int .i64 c') (blk_far3 (p:=w.heap.size) (x:=.int .i64 a) (y:=.int .i64 b) (z:=.int .i64 c) H1.out (by omega)))
 have HBZ:=Lib.hid (bel_set (g:=w.heap.size+1) (i:=2) (u:=.int .i64 c') (bel_set2 (g:=w.heap.size+1) (x:=.int .i64 a') (y:=.int .i64 b') (bel_set (g:=w.heap.size) (i:=2) (u:=.int .i64 c) (bel_set2 (g:=w.heap.size) (x:=.int .i64 a) (y:=.int .i64 b) HB2.out (Nat.le_refl _)) (Nat.le_refl _)) (by omega)) (by omega))
 go_wp2_with fail
 refine bodyPost_ret (results_ll rfl _ _ w.heap.size (w.heap.size+1) rfl rfl HZ0.out HZ1.out Tryz.underlying31 rfl (by kernel_rfl) (by kernel_rfl)) rfl ?_
 exact ⟨_,_,_,_,_,_,rfl,HBZ.out⟩
theorem fnExecuteSplit_walk (A:Option Addr) (n0 c0:Nat) (w:World) (hn:n0≤maxLen) (hc:n0≤c0) (hb:Bytes w w.heap.size A n0) (ht:Tab w) (hm:Mx w) (he:Ers w) :
 Calls Tryz.prog 7 #[.slice A n0 c0] w fun e w'=>e=.returned (.bool true)∧Below w.heap.size w w':=by
 unfold maxLen at hn
 have HE:=Lib.hid (fun W (hB:Below w.heap.size w W)=>And.intro (ht.on hB) (And.intro (hm.on hB) (he.on hB)));clear ht hm he
 have HB:=Lib.hid hb;clear hb
 have hB0:=Below.refl w.heap.size w
 by_cases hbig:1048576<n0
 ·go_enter Tryz.func7,Tryz.ntmps7
  go_wp2_with fail
  go_ret
  exact ⟨rfl,hB0⟩
 clear hB0
 go_enter Tryz.func7,Tryz.ntmps7
 go_wp2_with fail
 refine (DrawSplitOf_any A n0 c0 w (by omega) hc HB.out).mono ?_
 rintro e w1 ⟨su,lu,ju,sl,ll,jl,rfl,hb1⟩
 have HB1:=Lib.hid (bel_alloc (bel_alloc hb1 (.cells #[.int .i64 su,.int .i64 lu,.int .i64 ju] 31)) (.cells #[.int .i64 sl,.int .i64 ll,.int .i64 jl] 31))
 have HX:=Lib.hid ((Blk.new w1 31 #[.int .i64 su,.int .i64 lu,.int .i64 ju]).alloc (.cells #[.int .i64 sl,.int .i64 ll,.int .i64 jl] 31))
 have HY:=Lib.hid (Blk.new (w1.alloc (.cells #[.int .i64 su,.int .i64 lu,.int .i64 ju] 31)) 31 #[.int .i64 sl,.int .i64 ll,.int .i64 jl])
 rw [World.size_alloc] at HY
 clear hb1 HB
 obtain ⟨x1,x2,x3⟩:=Level3 HX.out
 obtain ⟨y1,y2,y3⟩:=Level3 HY.out
 have HI:=Lib.hid (fun W (hW:Ers W)=>implSplitOf_any su lu ju sl ll jl W hW)
 have HS:=Lib.hid (fun W=>specSplitOf_any su lu ju sl ll jl W)
 unfold SplitsPost at HI HS
 have hlen:=spL_len (su,lu) (sl,ll) ju jl
 have HNE:=Lib.hid (fun h=>spL_ne (tu:=(su,lu)) (ju:=ju) (tl:=(sl,ll)) (jl:=jl) h)
 have HLN:=Lib.hid (fun W (h:spOk (su,lu) ju (sl,ll) jl=true) (hE:Ers W) (ht:Tab W)=>splLine (su,lu) (sl,ll) ju jl W h hE ht)
 have HCT:=Lib.hid (splT_count (su,lu) (sl,ll) ju jl)
 have HFI:=Lib.hid (fun p ps (h:spL (su,lu) ju (sl,ll) jl=p :: ps)=>splT_first h)
 have HVV:=Lib.hid (fun (h:spOk (su,lu) ju (sl,ll) jl=true)=>And.intro (spOk_iff.1 h).1 (spOk_iff.1 h).2.1)
 obtain ⟨ok,hok⟩:∃o,spOk (su,lu) ju (sl,ll) jl=o:=⟨_,rfl⟩
 obtain ⟨ps,hps⟩:∃o,spL (su,lu) ju (sl,ll) jl=o:=⟨_,rfl⟩
 rw [hok] at HI HS HNE HLN HVV
 rw [hps] at HI HS hlen HNE HCT HFI
 clear hok hps
 obtain ⟨n,hnn⟩:∃n,ps.length=n:=⟨_,rfl⟩
 rw [hnn] at HI HS hlen HCT
 have HN:=Lib.hid hnn;clear hnn
 go_wp2_with fail
 refine (HI.out _ (HE.out _ HB1.out).2.2).mono ?_
 rintro e w2 ⟨⟨A2,c2,rfl,hr2⟩,hb2⟩
 have HB2:=Lib.hid (bel_sub HB1.out hb2)
 replace HX:=Lib.hid (HX.out.sub hb2);replace HY:=Lib.hid (HY.out.sub hb2)
 have HR2:=Lib.hid (own_reads hr2)
 clear hb2 hr2 x1 x2 x3 y1 y2 y3
 obtain ⟨x1,x2,x3⟩:=Level3 HX.out
 obtain ⟨y1,y2,y3⟩:=Level3 HY.out
 go_wp2_with fail
 refine (HS.out _).mono ?_
 rintro e w3 ⟨⟨A3,c3,rfl,hr3⟩,hb3⟩
 have HB3:=Lib.hid (bel_sub HB2.out hb3)
 replace HX:=Lib.hid (HX.out.sub hb3);replace HY:=Lib.hid (HY.out.sub hb3)
 replace HR2:=Lib.hid ((HR2.out.below hb3).more hb3.size)
 have HR3:=Lib.hid (own_reads hr3)
 clear hb3 hr3 x1 x2 x3 y1 y2 y3
 go_wp2_with fail
 refine (sameSplits_any A2 A3 n c2 c3 _ _ _ _ ps w3 (by omega) HR2.out HR3.out).mono ?_
 rintro e w4 ⟨rfl,hb4⟩
 have HB4:=Lib.hid (bel_sub HB3.out hb4)
 replace HX:=Lib.hid (HX.out.sub hb4);replace HY:=Lib.hid (HY.out.sub hb4)
 replace HR2:=Lib.hid ((HR2.out.below hb4).more hb4.size)
 replace HR3:=Lib.hid ((HR3.out.below hb4).more hb4.size)
 clear hb4
 cases ok
 ·go_wp2_with fail
  refine (sameSplits_any A2 A3 n c2 c3 _ _ _ _ ps w4 (by omega) HR2.out HR3.out).mono ?_
  rintro e w5 ⟨rfl,hb5⟩
  have HB5:=Lib.hid (bel_sub HB4.out hb5);clear hb5
  go_wp2_with fail
  go_ret
  exact ⟨ret_bool (by simp),HB5.out⟩
 have hv:=HVV.out rfl
 have hl1:=lvF_text hv.1
 have hl2:=lvF_text hv.2
 have HT1:=Lib.hid (fun W=>LevelText_any (su,lu) ju W (lvB_mem.1 hv.1))
 have HT2:=Lib.hid (fun W=>LevelText_any (sl,ll) jl W (lvB_mem.1 hv.2))
 have hln:(splLn (l1T (su,lu) ju) (l1T (sl,ll) jl)).length≤599:=by
  have h1:=hl1.2.2.2;have h2:=hl2.2.2.2
  unfold splLn splW;simp;omega
 have hnl:10∉splLn (l1T (su,lu) ju) (l1T (sl,ll) jl):=by unfold splLn splW;simp;exact ⟨hl1.2.2.1,hl2.2.2.1⟩
 have htl:=splT_len (su,lu) (sl,ll) ju jl
 have HEX:=Lib.hid (fun W (h:Tab W∧Mx W∧Ers W)=>exec1 (splLn (l1T (su,lu) ju) (l1T (sl,ll) jl)) (splT (su,lu) ju (sl,ll) jl) W h.1 h.2.1 hln hnl (Nat.le_trans htl (by omega)) (HLN.out W rfl h.2.2 h.1))
 have hz1:(bs (l1T (su,lu) ju)).size≤6:=by rw [bs_size];exact hl1.2.2.2
 have hz2:(bs (l1T (sl,ll) jl)).size≤6:=by rw [bs_size];exact hl2.2.2.2
 have hs1:bs (splLn (l1T (su,lu) ju) (l1T (sl,ll) jl)++[10])=(⟨#[115,112,108,105,116,32]⟩:ByteArray)++bs (l1T (su,lu) ju)++⟨#[32]⟩++bs (l1T (sl,ll) jl)++⟨#[10]⟩:=by
  rw [show splLn (l1T (su,lu) ju) (l1T (sl,ll) jl)++[10]=[115,112,108,105,116,32]++l1T (su,lu) ju++[32]++l1T (sl,ll) jl++[10] by unfold splLn splW;simp,←bs_append,←bs_append,←bs_append,←bs_append];rfl
 rw [hs1] at HEX
 rw [show tmT (su,lu)++spT ju=l1T (su,lu) ju from rfl] at HT1
 rw [show tmT (sl,ll)++spT jl=l1T (sl,ll) jl from rfl] at HT2
 obtain ⟨O,hO⟩:∃O,splT (su,lu) ju (sl,ll) jl++[10,108,105,110,101,115,32,49,10]=O:=⟨_,rfl⟩
 have hcO:O.count 58=n:=by rw [←hO,List.count_append,HCT.out];rfl
 have hOl:O.length≤3000:=by rw [←hO,List.length_append];simp only [List.length_cons,List.length_nil];omega
 obtain ⟨p,ps',rfl⟩:∃p ps',ps=p :: ps':=by
  cases ps with
  | nil=>exact absurd rfl (HNE.out rfl)
  | cons p ps'=>exact ⟨p,ps',rfl⟩
 obtain ⟨rst,hrst⟩:=HFI.out p ps' rfl
 have hOp:∃r,O=spE (fz (su,lu) ju) ju (fz (sl,ll) jl) jl p++(r++[10,108,105,110,101,115,32,49,10]):=⟨rst,by rw [←hO,hrst,List.append_assoc]⟩
 rw [hO] at HEX
 have hn0:0<n:=by have:=HN.out;simp at this;omega
 clear hs1 hl1 hl2 HLN HCT HFI HNE hO hrst hln hnl htl HI HS hv
 generalize bs (l1T (su,lu) ju)=X at *
 generalize bs (l1T (sl,ll) jl)=Y at *
 obtain ⟨x1,x2,x3⟩:=Level3 HX.out
 obtain ⟨y1,y2,y3⟩:=Level3 HY.out
 have k1:=After.cell x1
 have k2:=After.cell x2
 have k3:=After.cell x3
 have k4:=After.cell y1
 have k5:=After.cell y2
 have k6:=After.cell y3
 have HTA:=Lib.hid (fun q:After w4=>HE.out q.w' (bel_sub HB4.out q.below))
 go_wp2_with fail
 refine wp_region_after (by kernel_rfl) (by kernel_rfl) ?_
 repeat (go_big_quiet_step ((first | (go_at_call 12;first | (with_reducible exact after_call _ (HT1.out _)) | (with_reducible exact after_call _ (HT2.out _))) | (go_at_call 13;exact after_call _ (HEX.out _ (HTA.out _))))))
 refine wpQuiet_nil ?_
 intro w9 hw'
 obtain ⟨⟨w9',hb9⟩,hw''⟩:=hw'
 subst hw''
 have HB9:=Lib.hid (bel_sub HB4.out hb9)
 replace HR2:=Lib.hid ((HR2.out.below hb9).more hb9.size)
 clear hb9 k1 k2 k3 k4 k5 k6 x1 x2 x3 y1 y2 y3
 obtain ⟨m,hm⟩:∃m,O.length=m:=⟨_,rfl⟩
 have hsO:(bs O).size=m:=by rw [bs_size];exact hm
 have HID:=Lib.hid (fun k x (h:O[k]?=some x) W=>idx_strk O k x h W)
 have HOM:=Lib.hid hm
 have HOP:=Lib.hid hOp
 have HCO:=Lib.hid hcO
 have hm3:m≤3000:=by omega
 obtain ⟨OB,hOB⟩:∃OB,bs O=OB:=⟨_,rfl⟩
 rw [hOB] at HID hsO ⊢
 have HOB:=Lib.hid hOB
 clear hm hOp hcO hOl hOB
 go_wp2_with fail
 go_loopw [10,11] (fun c i wr=>∃k:Nat,k≤m∧i=.int .i64 k∧c=.int .i64 ((O.take k).count 58:Nat)∧wr=w9) (fun _ i _=>m-(RowKit.intOf i).toNat)
 case atStart=>exact ⟨0,Nat.zero_le _,rfl,by simp,rfl⟩
 case round =>
  obtain ⟨k,hk,rfl,rfl,rfl⟩:=hrel
  have hcl:(O.take k).count 58≤3000:=Nat.le_trans List.count_le_length (by rw [List.length_take];omega)
  by_cases hlt:k<m
  ·have hkl:k<O.length:=by rw [HOM.out];exact hlt
   have hx:O[k]?=some O[k]:=List.getElem?_eq_getElem hkl
   have hid:=HID.out k _ hx
   have HTK:=Lib.hid (List.take_succ_eq_append_getElem hkl)
   generalize O[k]=x at *
   have i1:(k:Int)<(m:Int):=by omega
   by_cases h58:x=58
   ·subst h58
    have HCN:Hid ((O.take (k+1)).count 58=(O.take k).count 58+1):=by unfold Hid;rw [HTK.out,List.count_append];rfl
    generalize (O.take k).count 58=c at *
    replace hid:∀W:World,(Instr.index 9 (.string OB) (.int .i64 (k:Int))).run Tryz.prog W=.ok (.int .u8 58) W:=hid
    clear hx
    go_wp2_with fail
    go_roundw
    case rel=>exact ⟨k+1,by omega,by go_num,by rw [HCN.out];go_num,trivial⟩
    case measure=>simp [RowKit.intOf];omega
   ·have HCN:Hid ((O.take (k+1)).count 58=(O.take k).count 58):=by unfold Hid;rw [HTK.out,List.count_append,List.count_eq_zero_of_not_mem (l:=[x]) (by simpa using fun h=>h58 h.symm)];rfl
    have hne:((x.toNat:Int)==58)=false:=by
     rw [beq_eq_false_iff_ne]
     intro h
     exact h58 (UInt8.toNat_inj.1 (by have:x.toNat=58:=by omega
                                      rw [this];rfl))
    generalize (O.take k).count 58=c at *
    generalize (x.toNat:Int)=y at *
    clear hx
    go_wp2_with fail
    go_roundw
    case rel=>exact ⟨k+1,by omega,by go_num,by rw [HCN.out],trivial⟩
    case measure=>simp [RowKit.intOf];omega
  ·obtain rfl:k=m:=by omega
   have htk:O.take k=O:=List.take_of_length_le (by rw [HOM.out];exact Nat.le_refl _)
   rw [htk,HCO.out]
   obtain ⟨b,off,p',rfl,hb,hp',r1,r2,r3,r4,r5,r6⟩:=HR2.out.spl hn0
   obtain rfl:p=p':=by simpa using hp'
   clear hp'
   rw [Nat.zero_mul] at r1 r2 r3 r4 r5 r6
   rw [Nat.add_zero] at r1 r2 r3 r4 r5 r6
   obtain ⟨r,hr⟩:=HOP.out
   have HQ1:=Lib.hid (fun W (hW:Tab W)=>implRatText_any (shR (fz (su,lu) ju) p.1 (fz (sl,ll) jl) p.2).1.1 (shR (fz (su,lu) ju) p.1 (fz (sl,ll) jl) p.2).1.2 W hW)
   have HQ2:=Lib.hid (fun W (hW:Tab W)=>implRatText_any (clR jl 2 ju p.2 (p.1-p.2)).1.2.1 (clR jl 2 ju p.2 (p.1-p.2)).1.2.2 W hW)
   rw [show (((shR (fz (su,lu) ju) p.1 (fz (sl,ll) jl) p.2).1.1,(shR (fz (su,lu) ju) p.1 (fz (sl,ll) jl) p.2).1.2):T2)=(shR (fz (su,lu) ju) p.1 (fz (sl,ll) jl) p.2).1 from rfl] at HQ1
   rw [show (((clR jl 2 ju p.2 (p.1-p.2)).1.2.1,(clR jl 2 ju p.2 (p.1-p.2)).1.2.2):T2)=(clR jl 2 ju p.2 (p.1-p.2)).1.2 from rfl] at HQ2
   have hq1:(bs (ratT (shR (fz (su,lu) ju) p.1 (fz (sl,ll) jl) p.2).1)).size≤23:=by rw [bs_size];exact ratT_len _
   have hq2:(bs (ratT (clR jl 2 ju p.2 (p.1-p.2)).1.2)).size≤23:=by rw [bs_size];exact ratT_len _
   have hfe:bs (ratT (shR (fz (su,lu) ju) p.1 (fz (sl,ll) jl) p.2).1)++(⟨#[58]⟩:ByteArray)++bs (ratT (clR jl 2 ju p.2 (p.1-p.2)).1.2)=bs (spE (fz (su,lu) ju) ju (fz (sl,ll) jl) jl p):=by
    unfold spE;rw [←bs_append,←bs_append];rfl
   obtain ⟨F,hF⟩:∃F,spE (fz (su,lu) ju) ju (fz (sl,ll) jl) jl p=F:=⟨_,rfl⟩
   have hFl:=spE_len (fz (su,lu) ju) ju (fz (sl,ll) jl) jl p
   rw [hF] at hr hfe hFl
   have hsz:F.length<k:=by
    have:=HOM.out
    rw [hr,List.length_append,List.length_append] at this
    simp only [List.length_cons,List.length_nil] at this
    omega
   have HSLC:Hid (∀W:World,(Instr.slice 9 (.string OB) none (some (.int .i64 (F.length:Int))) none).run Tryz.prog W=.ok (.string (bs F)) W):=fun W=>by
    have h:=sl_head O F.length (by rw [HOM.out];omega) W
    rw [HOB.out] at h
    rw [h,hr,List.take_left]
   have hfs:(bs F).size=F.length:=bs_size _
   generalize bs (ratT (shR (fz (su,lu) ju) p.1 (fz (sl,ll) jl) p.2).1)=T1 at *
   generalize bs (ratT (clR jl 2 ju p.2 (p.1-p.2)).1.2)=T2 at *
   generalize (shR (fz (su,lu) ju) p.1 (fz (sl,ll) jl) p.2).1.1=n1 at *
   generalize (shR (fz (su,lu) ju) p.1 (fz (sl,ll) jl) p.2).1.2=n2 at *
   generalize (clR jl 2 ju p.2 (p.1-p.2)).1.2.1=n3 at *
   generalize (clR jl 2 ju p.2 (p.1-p.2)).1.2.2=n4 at *
   clear hF hr
   generalize F.length=fl at *
   generalize bs F=FB at *
   have k1:=After.cell r3
   have k2:=After.cell r4
   have k3:=After.cell r5
   have k4:=After.cell r6
   have HTA:=Lib.hid (fun q:After wr=>HE.out q.w' (bel_sub HB9.out q.below))
   have i1:(0:Int)<(n:Int):=by omega
   clear htk
   go_wp2_with fail
   refine wp_region_after (by kernel_rfl) (by kernel_rfl) ?_
   repeat (go_big_quiet_step ((go_at_call 24;first | (with_reducible exact after_call _ (HQ1.out _ (HTA.out _).1)) | (with_reducible exact after_call _ (HQ2.out _ (HTA.out _).1)))))
   refine wpQuiet_nil ?_
   intro w10 hw'
   obtain ⟨⟨w10',hb10⟩,hw''⟩:=hw'
   subst hw''
   have HB10:=Lib.hid (bel_sub HB9.out hb10);clear hb10 k1 k2 k3 k4 r1 r2 r3 r4 r5 r6
   have hsl:=HSLC.out w10
   go_wp2_with fail
   go_ret
   exact ⟨ret_bool (by simp),HB10.out⟩
end
end Go.Proofs.YtlgdndnaiogooaaGreatDoor
