/- Parts of the proof of : LFac. -/
import Derived.Test.YtlgdndnaiogooaaGreatDoorQ27
import Derived.Test.YtlgdndnaiogooaaGreatDoorQ28
set_option maxHeartbeats 20000000
set_option maxRecDepth 1000000
set_option linter.unusedSimpArgs false
set_option linter.unusedVariables false
namespace Go.Proofs.YtlgdndnaiogooaaGreatDoor
section
open Go.RowKit
attribute [local go_sem ↓] Go.wp_at_zero Go.wp_at_succ
def facW:List UInt8:=[102,97,99,116,111,114]
theorem fac_cmd:cmdOf facW=some 129:=by decide +kernel
theorem fac_ok {t:T2} {j:Int} (h:(facR t j).2=true):lvB t j=true:=by
 unfold facR at h
 split at h
 ·rename_i h1;exact h1.1
 ·cases h
theorem facLine (t:T2) (j:Int) (w:World) (h:(facR t j).2=true) (hE:Ers w) (ht:Tab w):LineOk w (facW++32 :: l1T t j) (ratT (facR t j).1):=by
 obtain ⟨e1,e2,e3,e4⟩:=lvF_text (fac_ok h)
 have hs:spl 32 (facW++32 :: l1T t j)=[facW,l1T t j]:=by rw [spl_app (by decide),spl_none e2]
 intro W b hW hbl
 rw [hs] at hbl ⊢
 have hr:rqFac (l1T t j)=(ratT (facR t j).1,true):=by unfold rqFac;rw [e1];simp [h]
 have ha:=answer_any b 2 [facW,l1T t j] facW 129 (bs (ratT (facR t j).1)) true W rfl rfl (by decide) (by omega) hbl fac_cmd
  (enters_of Tryz.func129 (by kernel_rfl) rfl)
  (fun W' hW'=>by
   have:=reqFactor_any (l1T t j) b W' (by omega) (Nat.lt_of_lt_of_le hbl.lt hW'.size) (((hbl.sub hW').cell 1).trans rfl) ((hE.on hW).on hW') ((ht.on hW).on hW')
   rw [hr] at this
   exact this)
 exact ha
theorem DrawFactorOf_any (A:Option Addr) (n c:Nat) (w:World) (hm:n≤140737488355328) (hc:n≤c) (hb:Bytes w w.heap.size A n) :
 Calls Tryz.prog 21 #[.slice A n c] w fun e w'=>∃s l j:Int,e=.returned (.agg #[.int .i64 s,.int .i64 l,.int .i64 j])∧Below w.heap.size w w':=by
 have hb':Bytes (w.alloc (.cells #[.int .i64 0,.int .i64 0,.int .i64 0] 31)) (w.alloc (.cells #[.int .i64 0,.int .i64 0,.int .i64 0] 31)).heap.size A n:=fun hn=>by
  obtain ⟨b,off,e,h1,h2⟩:=(hb.keep fun p hp=>World.cell?_alloc_lt w (.cells #[.int .i64 0,.int .i64 0,.int .i64 0] 31) p (by omega)) hn
  exact ⟨b,off,e,by simp;omega,h2⟩
 have HBY:=Lib.hid hb';clear hb hb'
 have HB0:=Lib.hid (bel_alloc (Below.refl w.heap.size w) (.cells #[.int .i64 0,.int .i64 0,.int .i64 0] 31))
 have HX0:=Lib.hid (Blk.new w 31 #[.int .i64 0,.int .i64 0,.int .i64 0])
 go_enter Tryz.func21,Tryz.ntmps21
 go_wp2_with fail
 refine (l6Open_any A n c _ hm hc HBY.out).mono ?_
 rintro e w1 ⟨rfl,hR1,hb1⟩
 have HB1:=Lib.hid (bel_sub HB0.out hb1)
 have HX1:=Lib.hid (HX0.out.sub hb1)
 have HR1:=Lib.hid hR1
 obtain ⟨B,hB⟩:∃B,(w.alloc (.cells #[.int .i64 0,.int .i64 0,.int .i64 0] 31)).heap.size=B:=⟨_,rfl⟩
 have hB2:B=w.heap.size+1:=by rw [←hB];simp
 rw [hB] at HR1
 clear hb1 hR1 HBY hB
 subst hB2
 go_wp2_with fail
 refine (l92Level_any (w.heap.size+1) (w.heap.size+1) 0 _ (by omega) HR1.out).mono ?_
 rintro e w2 ⟨s,l,j,rfl,_,_,hg2⟩
 have HB2:=Lib.hid (below_of_gb HB1.out hg2 HB1.out.size (by omega))
 have HX2:=Lib.hid (HX1.out.gb hg2 (by omega))
 clear hg2 HB1 HX1 HR1
 obtain ⟨x1,x2,x3,f1,f2,f3⟩:=blk3 HX2.out
 have HZ:=Lib.hid (((HX2.out.set 0 (.int .i64 s)).set 1 (.int .i64 l)).set 2 (.int .i64 j))
 have HBZ:=Lib.hid (bel_set (g:=w.heap.size) (i:=2) (u:=.int .i64 j) (bel_set2 (g:=w.heap.size) (x:=.int .i64 s) (y:=.int .i64 l) HB2.out (Nat.le_refl _)) (Nat.le_refl _))
 go_wp2_with fail
 refine bodyPost_ret (results_lev1 rfl _ _ w.heap.size _ _ rfl HZ.out Tryz.underlying31 rfl (by kernel_rfl)) rfl ?_
 exact ⟨s,l,j,rfl,HBZ.out⟩
theorem fnExecuteFactor_walk (A:Option Addr) (n0 c0:Nat) (w:World) (hn:n0≤maxLen) (hc:n0≤c0) (hb:Bytes w w.heap.size A n0) (ht:Tab w) (hm:Mx w) (he:Ers w) :
 Calls Tryz.prog 5 #[.slice A n0 c0] w fun e w'=>e=.returned (.bool true)∧Below w.heap.size w w':=by
 unfold maxLen at hn
 have HE:=Lib.hid (fun W (hB:Below w.heap.size w W)=>And.intro (ht.on hB) (And.intro (hm.on hB) (he.on hB)));clear ht hm he
 have HB:=Lib.hid hb;clear hb
 have hB0:=Below.refl w.heap.size w
 by_cases hbig:1048576<n0
 ·go_enter Tryz.func5,Tryz.ntmps5
  go_wp2_with fail
  go_ret
  exact ⟨rfl,hB0⟩
 clear hB0
 go_enter Tryz.func5,Tryz.ntmps5
 go_wp2_with fail
 refine (DrawFactorOf_any A n0 c0 w (by omega) hc HB.out).mono ?_
 rintro e w1 ⟨s,l,j,rfl,hb1⟩
 have HB1:=Lib.hid (bel_alloc hb1 (.cells #[.int .i64 s,.int .i64 l,.int .i64 j] 31))
 have HT1:=Lib.hid (Blk.new w1 31 #[.int .i64 s,.int .i64 l,.int .i64 j])
 clear hb1 HB
 obtain ⟨x1,x2,x3⟩:=Level3 HT1.out
 have HI:=Lib.hid (fun W (hW:Ers W)=>FactorOf_any (s,l) j W hW)
 have HS:=Lib.hid (fun W=>specFactorOf_any (s,l) j W)
 have HOK:=Lib.hid (fun h=>fac_ok (t:=(s,l)) (j:=j) h)
 have HLN:=Lib.hid (fun W (h:(facR (s,l) j).2=true) (hE:Ers W) (ht:Tab W)=>facLine (s,l) j W h hE ht)
 obtain ⟨r,hr⟩:∃r,facR (s,l) j=r:=⟨_,rfl⟩
 rw [hr] at HI HS HOK HLN
 clear hr
 rw [okV_form] at HI HS
 obtain ⟨⟨p,q⟩,ok⟩:=r
 simp only at HI HS HOK HLN
 go_wp2_with fail
 refine (HI.out _ (HE.out _ HB1.out).2.2).mono ?_
 rintro e w2 ⟨rfl,hb2⟩
 have HB2:=Lib.hid (bel_alloc (bel_sub HB1.out hb2) (.cells #[.int .i64 p,.int .i64 q] 45))
 have HT2:=Lib.hid ((HT1.out.sub hb2).alloc (.cells #[.int .i64 p,.int .i64 q] 45))
 have HG2:=Lib.hid (Blk.new w2 45 #[.int .i64 p,.int .i64 q])
 clear hb2 x1 x2 x3
 obtain ⟨x1,x2,x3⟩:=Level3 HT2.out
 go_wp2_with fail
 refine (HS.out _).mono ?_
 rintro e w3 ⟨rfl,hb3⟩
 have HB3:=Lib.hid (bel_alloc (bel_sub HB2.out hb3) (.cells #[.int .i64 p,.int .i64 q] 45))
 have HT3:=Lib.hid ((HT2.out.sub hb3).alloc (.cells #[.int .i64 p,.int .i64 q] 45))
 have HG3:=Lib.hid ((HG2.out.sub hb3).alloc (.cells #[.int .i64 p,.int .i64 q] 45))
 have HH3:=Lib.hid (Blk.new w3 45 #[.int .i64 p,.int .i64 q])
 clear hb3 x1 x2 x3
 obtain ⟨x1,x2,x3⟩:=Level3 HT3.out
 obtain ⟨y1,y2,_,_⟩:=blk2 HG3.out
 obtain ⟨z1,z2,_,_⟩:=blk2 HH3.out
 cases ok
 ·go_wp2_with fail
  go_ret
  exact ⟨ret_bool (by simp),HB3.out⟩
 have HLT:=Lib.hid (fun W=>LevelText_any (s,l) j W (lvB_mem.1 (HOK.out rfl)))
 have hlv:=lvF_text (HOK.out rfl)
 have HEX:=Lib.hid (fun W (h:Tab W∧Mx W∧Ers W)=>exec1 (facW++32 :: l1T (s,l) j) (ratT (p,q)) W h.1 h.2.1 (by have:=hlv.2.2.2;unfold facW;simp;omega) (by unfold facW;simp;exact hlv.2.2.1) (Nat.le_trans (ratT_len _) (by omega)) (HLN.out W rfl h.2.2 h.1))
 have HRT:=Lib.hid (fun W (hW:Tab W)=>implRatText_any p q W hW)
 have hz1:(bs (l1T (s,l) j)).size≤6:=by rw [bs_size];exact hlv.2.2.2
 have hz2:(bs (ratT (p,q))).size≤23:=by rw [bs_size];exact ratT_len _
 have hs1:bs (facW++32 :: l1T (s,l) j++[10])=(⟨#[102,97,99,116,111,114,32]⟩:ByteArray)++bs (l1T (s,l) j)++⟨#[10]⟩:=by
  rw [show facW++32 :: l1T (s,l) j++[10]=[102,97,99,116,111,114,32]++l1T (s,l) j++[10] by unfold facW;simp,←bs_append,←bs_append];rfl
 have hs2:bs (ratT (p,q)++[10,108,105,110,101,115,32,49,10])=bs (ratT (p,q))++(⟨#[10,108,105,110,101,115,32,49,10]⟩:ByteArray):=by
  rw [←bs_append];rfl
 rw [hs1,hs2] at HEX
 rw [show tmT (s,l)++spT j=l1T (s,l) j from rfl] at HLT
 clear hs1 hs2 hlv HLN HOK HI HS
 generalize bs (l1T (s,l) j)=X at *
 generalize bs (ratT (p,q))=Y at *
 have k1:=After.cell x1
 have k2:=After.cell x2
 have k3:=After.cell x3
 have k4:=After.cell y1
 have k5:=After.cell y2
 have HTA:=Lib.hid (fun q:After (w3.alloc (.cells #[.int .i64 p,.int .i64 q] 45))=>HE.out q.w' (bel_sub HB3.out q.below))
 go_wp2_with fail
 refine wp_region_after (by kernel_rfl) (by kernel_rfl) ?_
 repeat (go_big_quiet_step ((first | (go_at_call 12;exact after_call _ (HLT.out _)) | (go_at_call 13;exact after_call _ (HEX.out _ (HTA.out _))) | (go_at_call 24;exact after_call _ (HRT.out _ (HTA.out _).1)))))
 refine wpQuiet_nil ?_
 intro w9 hw'
 obtain ⟨⟨w9',hb9⟩,hw''⟩:=hw'
 subst hw''
 have HB9:=Lib.hid (bel_sub HB3.out hb9);clear hb9
 go_wp2_with fail
 go_ret
 exact ⟨ret_bool (by simp),HB9.out⟩
end
end Go.Proofs.YtlgdndnaiogooaaGreatDoor
