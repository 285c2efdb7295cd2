/- Parts of the proof of : LCleb. -/
import Derived.Test.YtlgdndnaiogooaaGreatDoorQ35
import Derived.Test.YtlgdndnaiogooaaGreatDoorQ42
import Derived.Test.YtlgdndnaiogooaaGreatDoorQ28
set_option maxHeartbeats 20000000
set_option maxRecDepth 1000000
set_option linter.unusedSimpArgs false
set_option linter.unusedVariables false
namespace Go.Proofs.YtlgdndnaiogooaaGreatDoor
section
open Go.RowKit
attribute [local go_sem ↓] Go.wp_at_zero Go.wp_at_succ
def wd (k:Int):List UInt8:=if k<0 then [45,UInt8.ofNat (48+(k.natAbs:Int)).toNat] else [UInt8.ofNat (48+(k.natAbs:Int)).toNat]
theorem wd_facts {k:Int} (h0:-6≤k) (h1:k≤6):32∉wd k∧10∉wd k∧(wd k).length≤2∧numOf (wd k)=k:=by
 have h:∀i:Fin 13,32∉wd ((i.1:Int)-6)∧10∉wd ((i.1:Int)-6)∧(wd ((i.1:Int)-6)).length≤2∧numOf (wd ((i.1:Int)-6))=(i.1:Int)-6:=by decide +kernel
 have h2:=h ⟨(k+6).toNat,by omega⟩
 have e:(((k+6).toNat:Int))-6=k:=by omega
 simp only [e] at h2
 exact h2
theorem wd_pos (m:Nat):wd (m:Int)=[UInt8.ofNat (48+(m:Int)).toNat]:=by unfold wd;rw [if_neg (by omega)];rfl
theorem wd_neg (m:Nat) (h:0<m):wd (-(m:Int))=[45,UInt8.ofNat (48+(m:Int)).toNat]:=by unfold wd;rw [if_pos (by omega),Int.natAbs_neg];rfl
def clW:List UInt8:=[99,108,101,98,115,99,104]
theorem cl_cmd:cmdOf clW=some 130:=by decide +kernel
def clL (vs:List Int) (k:Nat):List UInt8:=clW++(vs.take k).flatMap fun v=>32 :: wd v
theorem clL_succ {vs:List Int} {k:Nat} {v:Int} (h:vs[k]?=some v):clL vs (k+1)=clL vs k++(32 :: wd v):=by
 unfold clL
 rw [List.take_add_one,h,List.flatMap_append]
 simp
theorem clR_ok {a b c m n:Int} (h:(clR a b c m n).2=true):cplB a b c m n=true:=by
 unfold clR at h
 split at h
 ·assumption
 ·cases h
theorem clLine (a b c m n:Int) (w:World) (ha:-6≤a∧a≤6) (hb:-6≤b∧b≤6) (hc:-6≤c∧c≤6) (hm:-6≤m∧m≤6) (hn:-6≤n∧n≤6) (h:(clR a b c m n).2=true) (ht:Tab w):LineOk w (clL [a,b,c,m,n] 5) (rootT (clR a b c m n).1):=by
 obtain ⟨a1,_,a3,a4⟩:=wd_facts ha.1 ha.2
 obtain ⟨b1,_,b3,b4⟩:=wd_facts hb.1 hb.2
 obtain ⟨c1,_,c3,c4⟩:=wd_facts hc.1 hc.2
 obtain ⟨m1,_,m3,m4⟩:=wd_facts hm.1 hm.2
 obtain ⟨n1,_,n3,n4⟩:=wd_facts hn.1 hn.2
 have hs:spl 32 (clL [a,b,c,m,n] 5)=[clW,wd a,wd b,wd c,wd m,wd n]:=by
  have e:clL [a,b,c,m,n] 5=clW++32 :: (wd a++32 :: (wd b++32 :: (wd c++32 :: (wd m++32 :: wd n)))):=by simp [clL]
  rw [e,spl_app (by decide),spl_app a1,spl_app b1,spl_app c1,spl_app m1,spl_none n1]
 intro W g hW hbl
 rw [hs] at hbl ⊢
 have hr:rqCl (wd a) (wd b) (wd c) (wd m) (wd n)=(rootT (clR a b c m n).1,true):=by unfold rqCl;rw [a4,b4,c4,m4,n4,h]
 exact answer_any g 6 [clW,wd a,wd b,wd c,wd m,wd n] clW 130 (bs (rootT (clR a b c m n).1)) true W rfl rfl (by decide) (by omega) hbl cl_cmd
  (enters_of Tryz.func130 (by kernel_rfl) rfl)
  (fun W' hW'=>by
   have hB:=hbl.sub hW'
   have:=reqClebsch_any (wd a) (wd b) (wd c) (wd m) (wd n) g W' (by omega) (by omega) (by omega) (by omega) (by omega) (Nat.lt_of_lt_of_le hbl.lt hW'.size) ((hB.cell 1).trans rfl) ((hB.cell 2).trans rfl) ((hB.cell 3).trans rfl) ((hB.cell 4).trans rfl) ((hB.cell 5).trans rfl) ((ht.on hW).on hW')
   rw [hr] at this
   exact this)
theorem clL_len (vs:List Int) (h:∀v∈vs,-6≤v∧v≤6) (k:Nat):10∉clL vs k∧(clL vs k).length≤7+3*k:=by
 induction k with
 | zero=>exact ⟨by unfold clL;simp [clW],by simp [clL,clW]⟩
 | succ k ih =>
  cases hv:vs[k]? with
  | none =>
   have:vs.length≤k:=List.getElem?_eq_none_iff.1 hv
   have e:clL vs (k+1)=clL vs k:=by unfold clL;rw [List.take_of_length_le this,List.take_of_length_le (by omega)]
   rw [e];exact ⟨ih.1,by omega⟩
  | some v =>
   have hb:=h v (List.mem_of_getElem? hv)
   obtain ⟨_,x2,x3,_⟩:=wd_facts hb.1 hb.2
   rw [clL_succ hv]
   refine ⟨?_,?_⟩
   ·simp [ih.1,x2]
   ·simp;omega
theorem fnExecuteClebsch_walk (A:Option Addr) (n0 c0:Nat) (w:World) (hn:n0≤maxLen) (hc:n0≤c0) (hb:Bytes w w.heap.size A n0) (ht:Tab w) (hm:Mx w) :
 Calls Tryz.prog 6 #[.slice A n0 c0] w fun e w'=>e=.returned (.bool true)∧Below w.heap.size w w':=by
 unfold maxLen at hn
 have HE:=Lib.hid (fun W (hB:Below w.heap.size w W)=>And.intro (ht.on hB) (hm.on hB));clear ht hm
 have HB:=Lib.hid hb;clear hb
 have hB0:=Below.refl w.heap.size w
 by_cases hbig:1048576<n0
 ·go_enter Tryz.func6,Tryz.ntmps6
  go_wp2_with fail
  go_ret
  exact ⟨rfl,hB0⟩
 clear hB0
 go_enter Tryz.func6,Tryz.ntmps6
 go_wp2_with fail
 refine (DrawClebsch_any A n0 c0 w (by omega) hc HB.out).mono ?_
 rintro e w1 ⟨a,b,c,m,n,rfl,hb1⟩
 have HB1:=Lib.hid hb1
 clear hb1 HB
 have HI:=Lib.hid (fun W=>implClebsch_any a b c m n W)
 have HS:=Lib.hid (fun W=>specClebsch_any a b c m n W)
 have HOK:=Lib.hid (fun h=>clR_ok (a:=a) (b:=b) (c:=c) (m:=m) (n:=n) h)
 have HLN:=Lib.hid (fun W ha hb hc hm hn h ht=>clLine a b c m n W ha hb hc hm hn h ht)
 obtain ⟨r,hr⟩:∃r,clR a b c m n=r:=⟨_,rfl⟩
 rw [hr] at HI HS HOK HLN
 clear hr
 obtain ⟨⟨sg,x,y⟩,ok⟩:=r
 unfold rtO rtV at HI HS
 simp only at HI HS HOK HLN
 go_wp2_with fail
 refine (HI.out _).mono ?_
 rintro e w2 ⟨rfl,hb2⟩
 have HB2:=Lib.hid (bel_alloc (bel_sub HB1.out hb2) (.cells #[.int .i64 sg,.int .i64 x,.int .i64 y] 52))
 have HG2:=Lib.hid (Blk.new w2 52 #[.int .i64 sg,.int .i64 x,.int .i64 y])
 clear hb2
 go_wp2_with fail
 refine (HS.out _).mono ?_
 rintro e w3 ⟨rfl,hb3⟩
 have HB3:=Lib.hid (bel_alloc (bel_sub HB2.out hb3) (.cells #[.int .i64 sg,.int .i64 x,.int .i64 y] 52))
 have HG3:=Lib.hid ((HG2.out.sub hb3).alloc (.cells #[.int .i64 sg,.int .i64 x,.int .i64 y] 52))
 have HH3:=Lib.hid (Blk.new w3 52 #[.int .i64 sg,.int .i64 x,.int .i64 y])
 clear hb3
 obtain ⟨y1,y2,y3,_,_,_⟩:=blk3 HG3.out
 obtain ⟨z1,z2,z3,_,_,_⟩:=blk3 HH3.out
 cases ok
 ·go_wp2_with fail
  go_ret
  exact ⟨ret_bool (by simp),HB3.out⟩
 have hcp:=HOK.out rfl
 obtain ⟨⟨q1,q2,q3⟩,_,q4,q5⟩:=cplB_iff.1 hcp
 have q6:=(hasB_iff.1 q4).2.1
 have q7:=(hasB_iff.1 q5).2.1
 have hvs:∀v∈[a,b,c,m,n],-6≤v∧v≤6:=by
  intro v hv
  simp at hv
  rcases hv with rfl | rfl | rfl | rfl | rfl <;> omega
 have HLL:=Lib.hid (fun k=>clL_len _ hvs k)
 have HVS:=Lib.hid hvs
 have HEX:=Lib.hid (fun W (h:Tab W∧Mx W)=>exec1 (clL [a,b,c,m,n] 5) (rootT (sg,(x,y))) W h.1 h.2 (Nat.le_trans (HLL.out 5).2 (by omega)) (HLL.out 5).1 (Nat.le_trans (rootT_len _) (by omega)) (HLN.out W (by omega) (by omega) (by omega) (by omega) (by omega) rfl h.1))
 clear hcp q1 q2 q3 q4 q5 q6 q7 hvs HLN HOK HI HS
 have HRT:=Lib.hid (fun W (hW:Tab W)=>implRootText_any sg x y W hW)
 have hz2:(bs (rootT (sg,(x,y)))).size≤30:=by rw [bs_size];exact rootT_len _
 have hs2:bs (rootT (sg,(x,y))++[10,108,105,110,101,115,32,49,10])=bs (rootT (sg,(x,y)))++(⟨#[10,108,105,110,101,115,32,49,10]⟩:ByteArray):=by
  rw [←bs_append];rfl
 rw [hs2,←bs_append] at HEX
 generalize bs (rootT (sg,(x,y)))=Y at *
 have HB4:=Lib.hid (bel_alloc HB3.out (.cells #[.int .i64 a,.int .i64 b,.int .i64 c,.int .i64 m,.int .i64 n] 3))
 have HG4:=Lib.hid (HG3.out.alloc (.cells #[.int .i64 a,.int .i64 b,.int .i64 c,.int .i64 m,.int .i64 n] 3))
 have HV4:=Lib.hid (Blk.new (w3.alloc (.cells #[.int .i64 sg,.int .i64 x,.int .i64 y] 52)) 3 #[.int .i64 a,.int .i64 b,.int .i64 c,.int .i64 m,.int .i64 n])
 go_wp2_with fail
 clear y1 y2 y3 z1 z2 z3
 obtain ⟨w4,hw4⟩:∃w4,(w3.alloc (.cells #[.int .i64 sg,.int .i64 x,.int .i64 y] 52)).alloc (.cells #[.int .i64 a,.int .i64 b,.int .i64 c,.int .i64 m,.int .i64 n] 3)=w4:=⟨_,rfl⟩
 rw [hw4] at HB4 HG4 HV4
 simp only [hw4]
 obtain ⟨g,hg⟩:∃g,(w3.alloc (.cells #[.int .i64 sg,.int .i64 x,.int .i64 y] 52)).heap.size=g:=⟨_,rfl⟩
 have hg1:w3.heap.size+1=g:=by rw [←hg];simp
 rw [hg] at HV4
 simp only [hg1]
 obtain ⟨g2,hg2⟩:∃g2,w2.heap.size=g2:=⟨_,rfl⟩
 rw [hg2] at HG4
 simp only [hg2]
 clear HB1 HB2 HB3 HG2 HG3 HH3 hw4 hg hg1 hg2
 go_loopw [13,14] (fun s i wr=>∃k:Nat,k≤5∧i=.int .i64 k∧s=.string (bs (clL [a,b,c,m,n] k))∧Hid (Below w4.heap.size w4 wr)) (fun _ i _=>5-(RowKit.intOf i).toNat)
 case atStart=>exact ⟨0,by omega,rfl,rfl,Below.refl _ _⟩
 case round =>
  obtain ⟨k,hk,rfl,rfl,HB⟩:=hrel
  have hpz:(bs (clL [a,b,c,m,n] k)).size≤7+3*k:=by rw [bs_size];exact (HLL.out k).2
  by_cases hlt:k<5
  ·obtain ⟨v,hv⟩:∃v,[a,b,c,m,n][k]?=some v:=⟨_,List.getElem?_eq_getElem (by simpa using hlt)⟩
   have hvb:=HVS.out v (List.mem_of_getElem? hv)
   have r1:wr.cell? ⟨g,k,none⟩=some (.int .i64 v):=by
    rw [(HV4.out.sub HB.out).cell k]
    have e:(#[.int .i64 a,.int .i64 b,.int .i64 c,.int .i64 m,.int .i64 n]:Array Value)=([a,b,c,m,n].map (Value.int .i64)).toArray:=rfl
    rw [e,List.getElem?_toArray,List.getElem?_map,hv]
    rfl
   have i0:(0:Int)≤(k:Int):=by omega
   have i1:(k:Int)<5:=by omega
   have HPS:=Lib.hid (clL_succ hv)
   clear hv
   generalize clL [a,b,c,m,n] k=P0 at *
   by_cases hneg:v<0
   ·obtain ⟨q,rfl,hq⟩:∃q:Nat,v=-(q:Int)∧0<q:=⟨v.natAbs,by omega,by omega⟩
    have HPE:Hid (bs P0++⟨#[32,45]⟩++bs [UInt8.ofNat (48+(q:Int)).toNat]=bs (clL [a,b,c,m,n] (k+1))):=by
     unfold Hid
     rw [HPS.out,wd_neg q hq,show (⟨#[32,45]⟩:ByteArray)=bs [32,45] from rfl,bs_append,bs_append,List.append_assoc]
     rfl
    have HCV:=Lib.hid (fun W=>conv_new W (48+(q:Int)) (by omega) (by omega))
    have hv1:(bs [UInt8.ofNat (48+(q:Int)).toNat]).size≤1:=Nat.le_of_eq (bs_size _)
    have HB6:=Lib.hid (bel_alloc HB.out (.cells #[.int .u8 (48+(q:Int))] 5))
    generalize bs P0=P at *
    generalize bs [UInt8.ofNat (48+(q:Int)).toNat]=V at *
    have k1:=HCV.out
    go_wp2_with fail
    go_roundw
    case rel=>exact ⟨k+1,by omega,by first | rfl | go_num,by rw [←HPE.out],HB6.out⟩
    case measure=>simp [RowKit.intOf];omega
   ·obtain ⟨q,rfl⟩:=Int.eq_ofNat_of_zero_le (a:=v) (by omega)
    have HPE:Hid (bs P0++⟨#[32]⟩++bs [UInt8.ofNat (48+(q:Int)).toNat]=bs (clL [a,b,c,m,n] (k+1))):=by
     unfold Hid
     rw [HPS.out,wd_pos q,show (⟨#[32]⟩:ByteArray)=bs [32] from rfl,bs_append,bs_append,List.append_assoc]
     rfl
    have HCV:=Lib.hid (fun W=>conv_new W (48+(q:Int)) (by omega) (by omega))
    have hv1:(bs [UInt8.ofNat (48+(q:Int)).toNat]).size≤1:=Nat.le_of_eq (bs_size _)
    have HB6:=Lib.hid (bel_alloc HB.out (.cells #[.int .u8 (48+(q:Int))] 5))
    generalize bs P0=P at *
    generalize bs [UInt8.ofNat (48+(q:Int)).toNat]=V at *
    have k1:=HCV.out
    go_wp2_with fail
    go_roundw
    case rel=>exact ⟨k+1,by omega,by first | rfl | go_num,by rw [←HPE.out],HB6.out⟩
    case measure=>simp [RowKit.intOf];omega
  ·obtain rfl:k=5:=by omega
   obtain ⟨x1,x2,x3,_,_,_⟩:=blk3 (HG4.out.sub HB.out)
   have HBr:=Lib.hid (bel_sub HB4.out HB.out)
   generalize bs (clL [a,b,c,m,n] 5)=X at *
   have k1:=After.cell x1
   have k2:=After.cell x2
   have k3:=After.cell x3
   have HTA:=Lib.hid (fun q:After wr=>HE.out q.w' (bel_sub HBr.out q.below))
   rw [show bs [10]=(⟨#[10]⟩:ByteArray) from rfl] at HEX
   go_wp2_with fail
   refine wp_region_after (by kernel_rfl) (by kernel_rfl) ?_
   repeat (go_big_quiet_step ((first | (go_at_call 13;exact after_call _ (HEX.out _ (HTA.out _))) | (go_at_call 28;exact after_call _ (HRT.out _ (HTA.out _).1)))))
   refine wpQuiet_nil ?_
   intro w9 hw'
   obtain ⟨⟨w9',hb9⟩,hw''⟩:=hw'
   subst hw''
   have HB9:=Lib.hid (bel_sub HBr.out hb9);clear hb9
   go_wp2_with fail
   go_ret
   exact ⟨ret_bool (by simp),HB9.out⟩
end
end Go.Proofs.YtlgdndnaiogooaaGreatDoor
