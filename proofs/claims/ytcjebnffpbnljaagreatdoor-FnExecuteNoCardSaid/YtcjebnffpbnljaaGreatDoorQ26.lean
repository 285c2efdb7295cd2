/- Parts of the proof of : Fad. -/
import Derived.Test.YtcjebnffpbnljaaGreatDoorQ15
import Derived.Test.YtcjebnffpbnljaaGreatDoorQ08
import Derived.Test.YtcjebnffpbnljaaGreatDoorQ07
set_option maxHeartbeats 20000000
set_option maxRecDepth 1000000
set_option linter.unusedSimpArgs false
set_option linter.unusedVariables false
namespace Go.Proofs.YtcjebnffpbnljaaGreatDoor
section
section
open Go.RowKit
attribute [local go_sem ↓] Go.wp_at_zero Go.wp_at_succ
def lvW:List UInt8:=[108,101,118,101,108,115]
end
section
open Go.RowKit
attribute [local go_sem ↓] Go.wp_at_zero Go.wp_at_succ
def rqFac (s:List UInt8):List UInt8×Bool:=(ratT (facR (lvF s).1.1 (lvF s).1.2).1,(lvF s).2&&(facR (lvF s).1.1 (lvF s).1.2).2)
theorem reqFactor_any (s:List UInt8) (b:Nat) (w:World) (hs:s.length≤1000000) (hb:b<w.heap.size) (hA:w.cell? ⟨b,1,none⟩=some (.string (bs s))) (hE:Ers w) (ht:Tab w) :
 Calls Tryz.prog 63 #[.agg #[.slice (some ⟨b,1,none⟩) 1 1]] w fun e w'=>e=.returned (.tuple #[.string (bs (rqFac s).1),.bool (rqFac s).2])∧Below w.heap.size w w':=by
 have HLF:=kk (fun W=>LevelFrom_all s W hs)
 unfold rqFac
 simp only
 obtain⟨r,hr⟩:∃r,lvF s=r:=⟨_,rfl⟩
 rw[hr] at HLF ⊢
 clear hr
 obtain⟨⟨⟨p,q⟩,j⟩,ok⟩:=r
 unfold lvV at HLF
 simp only at HLF ⊢
 have HFF:=kk (fun W (hW:Ers W)=>FactorOf_any (p,q) j W hW)
 obtain⟨f,hf⟩:∃f,facR (p,q) j=f:=⟨_,rfl⟩
 rw[hf] at HFF ⊢
 rw[okV_form] at HFF
 clear hf
 obtain⟨⟨x,y⟩,fk⟩:=f
 simp only at HFF ⊢
 have HRT:=kk (fun W (hW:Tab W)=>implRatText_any x y W hW)
 have HA:=kk hA;clear hA
 have HE:=kk (fun W (hb:Below w.heap.size w W)=>hE.on hb);clear hE
 have HTb:=kk (fun W (hb:Below w.heap.size w W)=>ht.on hb);clear ht
 generalize bs s=X at *
 generalize bs (ratT (x,y))=Y at *
 have HB0:=kk (bel_alloc (Below.refl w.heap.size w) (.cells #[.slice (some ⟨b,1,none⟩) 1 1] 70))
 have HQ0:=kk (Blk.new w 70 #[.slice (some ⟨b,1,none⟩) 1 1])
 go_enter Tryz.func63,Tryz.ntmps63
 go_wp2_with fail
 refine(exactly_any _ 1 1 _).mono ?_
 rintro e w1 ⟨rfl,hb1⟩
 have HB1:=kk (bel_sub HB0.out hb1)
 have c0:w1.cell? ⟨w.heap.size,0,none⟩=some (.slice (some ⟨b,1,none⟩) 1 1):=(HQ0.out.sub hb1).cell 0
 have hA:=(HB1.out.cell (p:=⟨b,1,none⟩) hb).trans HA.out
 clear hb1 HB0 HQ0
 go_wp2_with fail
 refine(HLF.out _).mono ?_
 rintro e w2 ⟨rfl,hb2⟩
 have HB2:=kk (bel_alloc (bel_sub HB1.out hb2) (.cells #[.int .i64 p,.int .i64 q,.int .i64 j] 56))
 clear hb2 c0 hA HB1
 go_wp2_with fail
 refine(HFF.out _ (HE.out _ HB2.out)).mono ?_
 rintro e w3 ⟨rfl,hb3⟩
 have HB3:=kk (bel_alloc (bel_sub HB2.out hb3) (.cells #[.int .i64 x,.int .i64 y] 75))
 clear hb3 HB2
 go_wp2_with fail
 refine(HRT.out _ (HTb.out _ HB3.out)).mono ?_
 rintro e w4 ⟨rfl,hb4⟩
 have HB4:=kk (bel_sub HB3.out hb4)
 clear hb4 HB3
 cases ok
 ·go_wp2_with fail
  go_ret2
  exact⟨rfl,HB4.out⟩
 ·go_wp2_with fail
  go_ret2
  exact⟨rfl,HB4.out⟩
end
section
open Go.RowKit
attribute [local go_sem ↓] Go.wp_at_zero Go.wp_at_succ
theorem results_lev1 {P:Program} {fn:Func} {p:Tmp} {ty:TypeId} {cs:Array Value} (h:fn.results=#[.cell p ty]) (tmps:Array Value) (w:World) (g:Nat) (t:TypeId) (d:TypeDesc)
 (hp:tmps.getD p undef=.pointer (some ⟨g,0,none⟩)) (hg:Blk w g t cs)
 (hu:P.underlying ty=some d) (hd:(match d with | .struct _ | .array _ _=>true | _=>false)=true) (hi:(P.info? ty).map (·.size)=some cs.size) :
 (results fn tmps).run P w=.ok (.agg cs) w:=by
 have hp':tmps[p]?.getD undef=.pointer (some ⟨g,0,none⟩):=by simpa using hp
 simp[results,h,hp',asAddr,run_loadVar_row w g t ty cs (0,0) d hg hu hd hi]
def LevPost (T:TypeId) (w:World) (B R N:Nat) (e:Ending) (w':World):Prop :=
 ∃s l j:Int,e=.returned (.agg #[.int .i64 s,.int .i64 l,.int .i64 j])∧((0≤s∧s≤9)∧(0≤l∧l≤4)∧(-2≤j∧j≤30))∧Rd T w' B R N∧w.grownBy w' (some R)
theorem l92Level_any (B R N:Nat) (w:World) (hN:N≤800000) (hR:Rd 46 w B R N) :
 Calls Tryz.prog 31 #[.pointer (some ⟨R,0,none⟩)] w (LevPost 46 w B R (N+5)):=by
 have ltw:=hR.lt
 have lew:=hR.le
 have HR0:=kk hR;clear hR
 have HG0:=kk (gb_refl w (some R))
 go_enter Tryz.func31,Tryz.ntmps31
 have HR1:=kk (HR0.out.alloc (.cells #[.int .i64 0,.int .i64 0,.int .i64 0] 56))
 have HG1:=kk (gb_alloc HG0.out (.cells #[.int .i64 0,.int .i64 0,.int .i64 0] 56))
 have HX1_n:=kk (Blk.new w 56 #[.int .i64 0,.int .i64 0,.int .i64 0])
 clear HR0 HG0
 go_wp2_with fail
 refine(pick_any B R _ 5 _ (by omega) (by omega) (by omega) HR1.out).mono ?_
 rintro e w2 ⟨v2,rfl,hv2,hR2,hg2⟩
 have b2:=hv2.lt (by omega)
 have HX2_0:=kk (HX1_n.out.gb hg2 (by omega))
 have HR2:=kk hR2;clear hR2
 have HG2:=kk (gb_trans HG1.out hg2);clear hg2
 clear HX1_n HR1 HG1
 have lt2:=HR2.out.lt
 have le2:=HG2.out.size
 clear hv2
 go_wp2_with fail
 refine(pick_any B R _ 5 _ (by omega) (by omega) (by omega) HR2.out).mono ?_
 rintro e w3 ⟨v3,rfl,hv3,hR3,hg3⟩
 have b3:=hv3.lt (by omega)
 have HX3_0:=kk (HX2_0.out.gb hg3 (by omega))
 have HR3:=kk hR3;clear hR3
 have HG3:=kk (gb_trans HG2.out hg3);clear hg3
 clear HX2_0 HR2 HG2
 have lt3:=HR3.out.lt
 have le3:=HG3.out.size
 clear hv3
 have HR4:=kk (HR3.out.alloc (.cells #[.int .i64 v2,.int .i64 v3] 52))
 have HG4:=kk (gb_alloc HG3.out (.cells #[.int .i64 v2,.int .i64 v3] 52))
 have HX4_0:=kk (HX3_0.out.alloc (.cells #[.int .i64 v2,.int .i64 v3] 52))
 have HX4_n:=kk (Blk.new w3 52 #[.int .i64 v2,.int .i64 v3])
 clear HX3_0 HR3 HG3
 have hv:tvB (v2,v3)=true:=tvB_iff.2 ⟨⟨by simp;omega,by simp;omega⟩,by simp;omega,by simp;omega⟩
 have hln:=lv_len hv
 have HVV:=kk hv;clear hv
 have HLO:=kk (fun W=>specLevelsOf_any (v2,v3) W)
 unfold LevelsPost at HLO
 obtain⟨js,hjs⟩:∃js,lvJs (v2,v3)=js:=⟨_,rfl⟩
 obtain⟨n,hnn⟩:∃n,js.length=n:=⟨_,rfl⟩
 rw[hjs] at HLO hln
 rw[hnn] at HLO hln
 have HN:=kk hnn;have HJS:=kk hjs;clear hjs hnn
 obtain⟨z1,z2,_,_⟩:=blk2 HX4_n.out
 have hRb:R<((w3.alloc (.cells #[.int .i64 v2,.int .i64 v3] 52))).heap.size:=HR4.out.lt
 go_wp2_with fail
 refine(HLO.out _).mono ?_
 rintro e w5 ⟨⟨A,c,rfl,hr⟩,hg5⟩
 clear z1 z2
 have HX5_0:=kk (HX4_0.out.sub hg5)
 have HX5_1:=kk (HX4_n.out.sub hg5)
 have HR5:=kk (HR4.out.below hg5)
 have HG5:=kk (gb_below HG4.out hg5);clear hg5
 clear HX4_0 HX4_n HR4 HG4
 have lt5:=HR5.out.lt
 have le5:=HG5.out.size
 have HO5:=kk hr;clear hr
 go_wp2_with fail
 refine(pick_any B R _ (n:Int) _ (by omega) (by omega) (by omega) HR5.out).mono ?_
 rintro e w6 ⟨v6,rfl,hv6,hR6,hg6⟩
 have b6:=hv6.lt (by omega)
 have HO6:=kk (own_gb HO5.out hg6 hRb)
 have HX6_0:=kk (HX5_0.out.gb hg6 (by omega))
 have HX6_1:=kk (HX5_1.out.gb hg6 (by omega))
 have HR6:=kk hR6;clear hR6
 have HG6:=kk (gb_trans HG5.out hg6);clear hg6
 clear HX5_0 HX5_1 HR5 HG5
 have lt6:=HR6.out.lt
 have le6:=HG6.out.size
 clear hv6 HO5 HLO
 obtain⟨i,rfl⟩:∃i:Nat,v6=i:=⟨v6.toNat,by omega⟩
 obtain⟨b0,off,j,rfl,hb0,r1,r2,r3,hg⟩:=(own_reads HO6.out).lev HN.out (k:=i) (by omega)
 have HJ:Hid (j∈js):=List.mem_of_getElem? hg.out
 have hjb:0≤j∧j≤24:=by
  have h1:=HJ.out;rw[←HJS.out] at h1
  have h2:=lv_ok HVV.out h1;exact⟨h2.1,h2.2.1⟩
 have i0:(0:Int)≤(i:Int):=by omega
 have i1:(i:Int)<(n:Int):=by omega
 simp only at r1 r2
 clear hg
 have hzw:w.heap.size<w6.heap.size:=HX6_0.out.lt
 have HR7:=kk (HR6.out.alloc (.cells #[.int .i64 v2,.int .i64 v3,.int .i64 j] 56))
 have HG7:=kk (gb_alloc HG6.out (.cells #[.int .i64 v2,.int .i64 v3,.int .i64 j] 56))
 have HX7_0:=kk (HX6_0.out.alloc (.cells #[.int .i64 v2,.int .i64 v3,.int .i64 j] 56))
 have HX7_1:=kk (HX6_1.out.alloc (.cells #[.int .i64 v2,.int .i64 v3,.int .i64 j] 56))
 have HX7_n:=kk (Blk.new w6 56 #[.int .i64 v2,.int .i64 v3,.int .i64 j])
 clear HX6_0 HX6_1 HR6 HG6
 go_wp2_with fail
 refine(pick_any B R _ 30 _ (by omega) (by omega) (by omega) HR7.out).mono ?_
 rintro e w8 ⟨v8,rfl,hv8,hR8,hg8⟩
 have b8:=hv8.lt (by omega)
 clear r1 r2 r3 i0 i1
 have HX8_0:=kk (HX7_0.out.gb hg8 (by omega))
 have HX8_1:=kk (HX7_1.out.gb hg8 (by omega))
 have HX8_2:=kk (HX7_n.out.gb hg8 (by omega))
 have HR8:=kk hR8;clear hR8
 have HG8:=kk (gb_trans HG7.out hg8);clear hg8
 clear HX7_0 HX7_1 HX7_n HR7 HG7
 have lt8:=HR8.out.lt
 have le8:=HG8.out.size
 clear hv8
 have hzx:w.heap.size<w6.heap.size:=hzw
 by_cases h0:v8=0
 ·subst h0
  obtain⟨y0a,y0b,y0e,y0c,y0d,y0f⟩:=blk3 HX8_0.out
  have q0:=HX8_0.out.lt
  obtain⟨y1a,y1b,y1c,y1d⟩:=blk2 HX8_1.out
  have q1:=HX8_1.out.lt
  obtain⟨y2a,y2b,y2e,y2c,y2d,y2f⟩:=blk3 HX8_2.out
  have q2:=HX8_2.out.lt
  have leX:w.heap.size≤w6.heap.size:=by omega
  have hzx2:w.heap.size≠w6.heap.size:=by omega
  have hRx:w6.heap.size≠R:=by omega
  have hBx:B≤w6.heap.size:=by omega
  have hBw:B≤w.heap.size:=by omega
  have hRw:w.heap.size≠R:=by omega
  have HZ:=kk (((((HX8_0.out.far (p:=⟨w6.heap.size,2,none⟩) hzx2 (.int .i64 (j+1))).set 0 (.int .i64 (v2))).set 1 (.int .i64 (v3))).set 2 (.int .i64 (j+1))))
  have HGZ:=kk ((gb_setCell (p:=⟨w.heap.size,2,none⟩) (gb_setCell (p:=⟨w.heap.size,1,none⟩) (gb_setCell (p:=⟨w.heap.size,0,none⟩) (gb_setCell (p:=⟨w6.heap.size,2,none⟩) HG8.out (.inr leX) (.int .i64 (j+1))) (.inr (Nat.le_refl _)) (.int .i64 (v2))) (.inr (Nat.le_refl _)) (.int .i64 (v3))) (.inr (Nat.le_refl _)) (.int .i64 (j+1))))
  have HRZ:=kk (((((HR8.out.setCell (p:=⟨w6.heap.size,2,none⟩) hBx hRx (.int .i64 (j+1))).setCell (p:=⟨w.heap.size,0,none⟩) hBw hRw (.int .i64 (v2))).setCell (p:=⟨w.heap.size,1,none⟩) hBw hRw (.int .i64 (v3))).setCell (p:=⟨w.heap.size,2,none⟩) hBw hRw (.int .i64 (j+1))))
  go_wp2_with fail
  refine bodyPost_ret (results_lev1 rfl _ _ w.heap.size _ _ rfl HZ.out Tryz.underlying56 rfl (by kernel_rfl)) rfl ?_
  exact⟨_,_,_,rfl,by omega,HRZ.out.more (by omega),HGZ.out⟩
 by_cases h1:v8=1
 ·subst h1
  have HR9:=kk (HR8.out.alloc (.cells #[.int .i64 (-2),.int .i64 30] 3))
  have HG9:=kk (gb_alloc HG8.out (.cells #[.int .i64 (-2),.int .i64 30] 3))
  have HX9_0:=kk (HX8_0.out.alloc (.cells #[.int .i64 (-2),.int .i64 30] 3))
  have HX9_1:=kk (HX8_1.out.alloc (.cells #[.int .i64 (-2),.int .i64 30] 3))
  have HX9_2:=kk (HX8_2.out.alloc (.cells #[.int .i64 (-2),.int .i64 30] 3))
  have HX9_n:=kk (Blk.new w8 3 #[.int .i64 (-2),.int .i64 30])
  clear HX8_0 HX8_1 HX8_2 HR8 HG8
  go_wp2_with fail
  refine(pick_any B R _ 2 _ (by omega) (by omega) (by omega) HR9.out).mono ?_
  rintro e w10 ⟨v10,rfl,hv10,hR10,hg10⟩
  have b10:=hv10.lt (by omega)
  have HX10_0:=kk (HX9_0.out.gb hg10 (by omega))
  have HX10_1:=kk (HX9_1.out.gb hg10 (by omega))
  have HX10_2:=kk (HX9_2.out.gb hg10 (by omega))
  have HX10_3:=kk (HX9_n.out.gb hg10 (by omega))
  have HR10:=kk hR10;clear hR10
  have HG10:=kk (gb_trans HG9.out hg10);clear hg10
  clear HX9_0 HX9_1 HX9_2 HX9_n HR9 HG9
  have lt10:=HR10.out.lt
  have le10:=HG10.out.size
  clear hv10
  obtain⟨j10,rfl⟩:∃j10:Nat,v10=j10:=⟨v10.toNat,by omega⟩
  obtain⟨n1,hn1,kn1⟩:∃x:Int,w10.cell? ⟨w8.heap.size,j10,none⟩=some (.int .i64 x)∧(-2≤x∧x≤30):=by
   rw[HX10_3.out.cell]
   have hj:j10=0∨j10=1:=by omega
   rcases hj with rfl | rfl<;>exact⟨_,rfl,by omega,by omega⟩
  have ij10a:(0:Int)≤(j10:Int):=by omega
  have ij10b:(j10:Int)<2:=by omega
  obtain⟨y0a,y0b,y0e,y0c,y0d,y0f⟩:=blk3 HX10_0.out
  have q0:=HX10_0.out.lt
  obtain⟨y1a,y1b,y1c,y1d⟩:=blk2 HX10_1.out
  have q1:=HX10_1.out.lt
  obtain⟨y2a,y2b,y2e,y2c,y2d,y2f⟩:=blk3 HX10_2.out
  have q2:=HX10_2.out.lt
  have q3:=HX10_3.out.lt
  have leX:w.heap.size≤w6.heap.size:=by omega
  have hzx2:w.heap.size≠w6.heap.size:=by omega
  have hRx:w6.heap.size≠R:=by omega
  have hBx:B≤w6.heap.size:=by omega
  have hBw:B≤w.heap.size:=by omega
  have hRw:w.heap.size≠R:=by omega
  have HZ:=kk (((((HX10_0.out.far (p:=⟨w6.heap.size,2,none⟩) hzx2 (.int .i64 (n1))).set 0 (.int .i64 (v2))).set 1 (.int .i64 (v3))).set 2 (.int .i64 (n1))))
  have HGZ:=kk ((gb_setCell (p:=⟨w.heap.size,2,none⟩) (gb_setCell (p:=⟨w.heap.size,1,none⟩) (gb_setCell (p:=⟨w.heap.size,0,none⟩) (gb_setCell (p:=⟨w6.heap.size,2,none⟩) HG10.out (.inr leX) (.int .i64 (n1))) (.inr (Nat.le_refl _)) (.int .i64 (v2))) (.inr (Nat.le_refl _)) (.int .i64 (v3))) (.inr (Nat.le_refl _)) (.int .i64 (n1))))
  have HRZ:=kk (((((HR10.out.setCell (p:=⟨w6.heap.size,2,none⟩) hBx hRx (.int .i64 (n1))).setCell (p:=⟨w.heap.size,0,none⟩) hBw hRw (.int .i64 (v2))).setCell (p:=⟨w.heap.size,1,none⟩) hBw hRw (.int .i64 (v3))).setCell (p:=⟨w.heap.size,2,none⟩) hBw hRw (.int .i64 (n1))))
  go_wp2_with fail
  refine bodyPost_ret (results_lev1 rfl _ _ w.heap.size _ _ rfl HZ.out Tryz.underlying56 rfl (by kernel_rfl)) rfl ?_
  exact⟨_,_,_,rfl,by omega,HRZ.out.more (by omega),HGZ.out⟩
 by_cases h2:v8=2
 ·subst h2
  obtain⟨y0a,y0b,y0e,y0c,y0d,y0f⟩:=blk3 HX8_0.out
  have q0:=HX8_0.out.lt
  obtain⟨y1a,y1b,y1c,y1d⟩:=blk2 HX8_1.out
  have q1:=HX8_1.out.lt
  obtain⟨y2a,y2b,y2e,y2c,y2d,y2f⟩:=blk3 HX8_2.out
  have q2:=HX8_2.out.lt
  have leX:w.heap.size≤w6.heap.size:=by omega
  have hzx2:w.heap.size≠w6.heap.size:=by omega
  have hRx:w6.heap.size≠R:=by omega
  have hBx:B≤w6.heap.size:=by omega
  have hBw:B≤w.heap.size:=by omega
  have hRw:w.heap.size≠R:=by omega
  have HZ:=kk (((((HX8_0.out.far (p:=⟨w6.heap.size,0,none⟩) hzx2 (.int .i64 (9))).set 0 (.int .i64 (9))).set 1 (.int .i64 (v3))).set 2 (.int .i64 (j))))
  have HGZ:=kk ((gb_setCell (p:=⟨w.heap.size,2,none⟩) (gb_setCell (p:=⟨w.heap.size,1,none⟩) (gb_setCell (p:=⟨w.heap.size,0,none⟩) (gb_setCell (p:=⟨w6.heap.size,0,none⟩) HG8.out (.inr leX) (.int .i64 (9))) (.inr (Nat.le_refl _)) (.int .i64 (9))) (.inr (Nat.le_refl _)) (.int .i64 (v3))) (.inr (Nat.le_refl _)) (.int .i64 (j))))
  have HRZ:=kk (((((HR8.out.setCell (p:=⟨w6.heap.size,0,none⟩) hBx hRx (.int .i64 (9))).setCell (p:=⟨w.heap.size,0,none⟩) hBw hRw (.int .i64 (9))).setCell (p:=⟨w.heap.size,1,none⟩) hBw hRw (.int .i64 (v3))).setCell (p:=⟨w.heap.size,2,none⟩) hBw hRw (.int .i64 (j))))
  go_wp2_with fail
  refine bodyPost_ret (results_lev1 rfl _ _ w.heap.size _ _ rfl HZ.out Tryz.underlying56 rfl (by kernel_rfl)) rfl ?_
  exact⟨_,_,_,rfl,by omega,HRZ.out.more (by omega),HGZ.out⟩
 have e0:(v8==0)=false:=by simpa using h0
 have e1:(v8==1)=false:=by simpa using h1
 have e2:(v8==2)=false:=by simpa using h2
 clear h0 h1 h2
 obtain⟨y0a,y0b,y0e,y0c,y0d,y0f⟩:=blk3 HX8_0.out
 have q0:=HX8_0.out.lt
 obtain⟨y1a,y1b,y1c,y1d⟩:=blk2 HX8_1.out
 have q1:=HX8_1.out.lt
 obtain⟨y2a,y2b,y2e,y2c,y2d,y2f⟩:=blk3 HX8_2.out
 have q2:=HX8_2.out.lt
 have hBw:B≤w.heap.size:=by omega
 have hRw:w.heap.size≠R:=by omega
 have HZ:=kk ((((HX8_0.out.set 0 (.int .i64 (v2))).set 1 (.int .i64 (v3))).set 2 (.int .i64 (j))))
 have HGZ:=kk ((gb_setCell (p:=⟨w.heap.size,2,none⟩) (gb_setCell (p:=⟨w.heap.size,1,none⟩) (gb_setCell (p:=⟨w.heap.size,0,none⟩) HG8.out (.inr (Nat.le_refl _)) (.int .i64 (v2))) (.inr (Nat.le_refl _)) (.int .i64 (v3))) (.inr (Nat.le_refl _)) (.int .i64 (j))))
 have HRZ:=kk ((((HR8.out.setCell (p:=⟨w.heap.size,0,none⟩) hBw hRw (.int .i64 (v2))).setCell (p:=⟨w.heap.size,1,none⟩) hBw hRw (.int .i64 (v3))).setCell (p:=⟨w.heap.size,2,none⟩) hBw hRw (.int .i64 (j))))
 go_wp2_with fail
 refine bodyPost_ret (results_lev1 rfl _ _ w.heap.size _ _ rfl HZ.out Tryz.underlying56 rfl (by kernel_rfl)) rfl ?_
 exact⟨_,_,_,rfl,by omega,HRZ.out.more (by omega),HGZ.out⟩
end

end
end Go.Proofs.YtcjebnffpbnljaaGreatDoor
