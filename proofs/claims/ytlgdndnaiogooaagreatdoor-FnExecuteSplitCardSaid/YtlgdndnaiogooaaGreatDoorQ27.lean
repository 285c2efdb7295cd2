/- Parts of the proof of : Fad. -/
import Derived.Test.YtlgdndnaiogooaaGreatDoorQ14
import Derived.Test.YtlgdndnaiogooaaGreatDoorQ17
import Derived.Test.YtlgdndnaiogooaaGreatDoorQ26
set_option maxHeartbeats 20000000
set_option maxRecDepth 1000000
set_option linter.unusedSimpArgs false
set_option linter.unusedVariables false
namespace Go.Proofs.YtlgdndnaiogooaaGreatDoor
section
section
open Go.RowKit
attribute [local go_sem ↓] Go.wp_at_zero Go.wp_at_succ
theorem DrawLevelsOf_any (A:Option Addr) (n c:Nat) (w:World) (hm:n≤140737488355328) (hc:n≤c) (hb:Bytes w w.heap.size A n) :
 Calls Tryz.prog 8 #[.slice A n c] w fun e w'=>∃t:T2,e=.returned (trm t)∧Drawn t∧Below w.heap.size w w':=by
 have hb':Bytes (w.alloc (.cells #[.int .i64 0,.int .i64 0] 24)) (w.alloc (.cells #[.int .i64 0,.int .i64 0] 24)).heap.size A n:=fun hn=>by
  obtain ⟨b,off,e,h1,h2⟩:=(hb.keep fun p hp=>World.cell?_alloc_lt w (.cells #[.int .i64 0,.int .i64 0] 24) p (by omega)) hn
  exact ⟨b,off,e,by simp;omega,h2⟩
 have HBY:=Lib.hid hb';clear hb hb'
 have HB0:=Lib.hid ((Below.refl w.heap.size w).alloc (Nat.le_refl _) (.cells #[.int .i64 0,.int .i64 0] 24))
 have HX0:=Lib.hid (Blk.new w 24 #[.int .i64 0,.int .i64 0])
 go_enter Tryz.func8,Tryz.ntmps8
 go_wp2_with fail
 refine (l6Open_any A n c _ hm hc HBY.out).mono ?_
 rintro e w1 ⟨rfl,hR1,hb1⟩
 have HB1:=Lib.hid (HB0.out.trans (hb1.mono HB0.out.size))
 have HX1:=Lib.hid (HX0.out.sub hb1)
 have HR1:=Lib.hid hR1
 obtain ⟨B,hB⟩:∃B,(w.alloc (.cells #[.int .i64 0,.int .i64 0] 24)).heap.size=B:=⟨_,rfl⟩
 have hB2:B=w.heap.size+1:=by rw [←hB];simp
 rw [hB] at HR1
 clear hb1 hR1 HBY hB
 subst hB2
 go_wp2_with fail
 refine (l92Term_any (w.heap.size+1) (w.heap.size+1) 0 _ (by omega) HR1.out).mono ?_
 rintro e w2 ⟨⟨s,l⟩,rfl,hd,hR2,hg2⟩
 have HB2:=Lib.hid (below_of_gb HB1.out hg2 HB1.out.size (by omega))
 have HX2:=Lib.hid (HX1.out.gb hg2 (by omega))
 have HD:=Lib.hid hd
 clear hd hR2 hg2 HB1 HX1 HR1
 obtain ⟨x1,x2,x3,x4⟩:=blk2 HX2.out
 unfold trm
 go_wp2_with fail
 refine bodyPost_ret (by simp [results,Tryz.results8,go_sem,x1,x2];rfl) rfl ?_
 exact ⟨(s,l),rfl,HD.out,(HB2.out.setCell (p:=⟨w.heap.size,0,none⟩) (Nat.le_refl _) _).setCell (p:=⟨w.heap.size,1,none⟩) (Nat.le_refl _) _⟩
def lvW:List UInt8:=[108,101,118,101,108,115]
def lvL (t:T2):List UInt8:=lvW++[32]++tmT t
def lvS (t:T2):List UInt8:=lvL t++[10]
theorem lv_spl (s l:Nat) (hs:s≤8) (hl:l≤8):spl 32 (lvL ((s:Int),(l:Int)))=[lvW,tmT ((s:Int),(l:Int))]∧spl 10 (lvS ((s:Int),(l:Int)))=[lvL ((s:Int),(l:Int))]++[[]]:=by
 unfold lvS lvL
 rw [tm_two s l hs hl]
 have h:∀s l:Fin 9,spl 32 (lvW++[32]++[UInt8.ofNat (49+s.1),lts.getD l.1 0])=[lvW,[UInt8.ofNat (49+s.1),lts.getD l.1 0]]∧spl 10 (lvW++[32]++[UInt8.ofNat (49+s.1),lts.getD l.1 0]++[10])=[lvW++[32]++[UInt8.ofNat (49+s.1),lts.getD l.1 0]]++[[]]:=by decide +kernel
 exact h ⟨s,by omega⟩ ⟨l,by omega⟩
theorem lv_cmd:cmdOf lvW=some 128:=by decide +kernel
theorem lvT_len {t:T2} (hv:tvB t=true):(lvT t).length≤108:=by
 have h:=joinl_len hv (lvJs t) (lvJs t).length (Nat.le_refl _)
 rw [List.take_of_length_le (Nat.le_refl _)] at h
 have:=(lv_len hv).2
 unfold lvT
 omega
theorem ExecLevels_any (t:T2) (w:World) (hv:tvB t=true) (ht:Tab w) (hm:Mx w) :
 Calls Tryz.prog 13 #[.string (bs (lvS t))] w fun e w'=>e=.returned (.string (bs (lvT t++[10,108,105,110,101,115,32,49,10])))∧Below w.heap.size w w':=by
 obtain ⟨s,l⟩:=t
 have hb:=tvB_iff.1 hv
 obtain ⟨s,rfl⟩:=Int.eq_ofNat_of_zero_le hb.1.1
 obtain ⟨l,rfl⟩:=Int.eq_ofNat_of_zero_le hb.2.1
 have hs8:s≤8:=by have:=hb.1.2;simp at this;omega
 have hl8:l≤8:=by have:=hb.2.2;simp at this;omega
 obtain ⟨e1,e2⟩:=lv_spl s l hs8 hl8
 have htl:=tmT_len hv
 have hlen:(lvL ((s:Int),(l:Int))).length=9:=by unfold lvL;rw [List.length_append,htl];rfl
 have hvl:=lvT_len hv
 have hgo:∀(x:List UInt8) (m:Nat),x.length≤m→∀k,([x].getD k []).length≤m:=fun x m h k=>by
  cases k with
  | zero=>exact h
  | succ k=>simp
 have h:=Execute_any (lvS ((s:Int),(l:Int))) 1 [lvL ((s:Int),(l:Int))] [lvT ((s:Int),(l:Int))] w ht hm (by unfold lvS;rw [List.length_append,hlen];decide) e2 rfl (by omega)
  (hgo _ _ (by omega)) (hgo _ _ (by omega)) (fun k hk W b hW hbl=>by
   obtain rfl:k=0:=by omega
   simp only [List.getD_cons_zero] at hbl ⊢
   rw [e1] at hbl ⊢
   have ha:=answer_any b 2 [lvW,tmT ((s:Int),(l:Int))] lvW 128 (bs (lvT ((s:Int),(l:Int)))) true W rfl rfl (by decide) (by omega) hbl lv_cmd
    (enters_of Tryz.func128 (by kernel_rfl) rfl)
    (fun W' hW'=>reqLevels_any ((s:Int),(l:Int)) b W' hv (Nat.lt_of_lt_of_le hbl.lt hW'.size) (((hbl.sub hW').cell 1).trans rfl))
   exact ha)
 refine h.mono fun e w' ⟨he,hb⟩=>⟨?_,hb⟩
 rw [he]
 refine ret_str (congrArg bs ?_)
 show outP [lvT ((s:Int),(l:Int))] 1++linesT++Lib.decDigits 1++[10]=_
 have:Lib.decDigits 1=[49]:=by decide +kernel
 rw [this]
 simp [outP,linesT]
end
section
open Go.RowKit
attribute [local go_sem ↓] Go.wp_at_zero Go.wp_at_succ
def rqFac (s:List UInt8):List UInt8 × Bool:=(ratT (facR (lvF s).1.1 (lvF s).1.2).1,(lvF s).2 && (facR (lvF s).1.1 (lvF s).1.2).2)
theorem reqFactor_any (s:List UInt8) (b:Nat) (w:World) (hs:s.length≤1000000) (hb:b<w.heap.size) (hA:w.cell? ⟨b,1,none⟩=some (.string (bs s))) (hE:Ers w) (ht:Tab w) :
 Calls Tryz.prog 129 #[.agg #[.slice (some ⟨b,1,none⟩) 1 1]] w fun e w'=>e=.returned (.tuple #[.string (bs (rqFac s).1),.bool (rqFac s).2])∧Below w.heap.size w w':=by
 have HLF:=Lib.hid (fun W=>LevelFrom_all s W hs)
 unfold rqFac
 simp only
 obtain ⟨r,hr⟩:∃r,lvF s=r:=⟨_,rfl⟩
 rw [hr] at HLF ⊢
 clear hr
 obtain ⟨⟨⟨p,q⟩,j⟩,ok⟩:=r
 unfold lvV at HLF
 simp only at HLF ⊢
 have HFF:=Lib.hid (fun W (hW:Ers W)=>FactorOf_any (p,q) j W hW)
 obtain ⟨f,hf⟩:∃f,facR (p,q) j=f:=⟨_,rfl⟩
 rw [hf] at HFF ⊢
 rw [okV_form] at HFF
 clear hf
 obtain ⟨⟨x,y⟩,fk⟩:=f
 simp only at HFF ⊢
 have HRT:=Lib.hid (fun W (hW:Tab W)=>implRatText_any x y W hW)
 have HA:=Lib.hid hA;clear hA
 have HE:=Lib.hid (fun W (hb:Below w.heap.size w W)=>hE.on hb);clear hE
 have HTb:=Lib.hid (fun W (hb:Below w.heap.size w W)=>ht.on hb);clear ht
 generalize bs s=X at *
 generalize bs (ratT (x,y))=Y at *
 have HB0:=Lib.hid (bel_alloc (Below.refl w.heap.size w) (.cells #[.slice (some ⟨b,1,none⟩) 1 1] 136))
 have HQ0:=Lib.hid (Blk.new w 136 #[.slice (some ⟨b,1,none⟩) 1 1])
 go_enter Tryz.func129,Tryz.ntmps129
 go_wp2_with fail
 refine (exactly_any _ 1 1 _).mono ?_
 rintro e w1 ⟨rfl,hb1⟩
 have HB1:=Lib.hid (bel_sub HB0.out hb1)
 have c0:w1.cell? ⟨w.heap.size,0,none⟩=some (.slice (some ⟨b,1,none⟩) 1 1):=(HQ0.out.sub hb1).cell 0
 have hA:=(HB1.out.cell (p:=⟨b,1,none⟩) hb).trans HA.out
 clear hb1 HB0 HQ0
 go_wp2_with fail
 refine (HLF.out _).mono ?_
 rintro e w2 ⟨rfl,hb2⟩
 have HB2:=Lib.hid (bel_alloc (bel_sub HB1.out hb2) (.cells #[.int .i64 p,.int .i64 q,.int .i64 j] 31))
 clear hb2 c0 hA HB1
 go_wp2_with fail
 refine (HFF.out _ (HE.out _ HB2.out)).mono ?_
 rintro e w3 ⟨rfl,hb3⟩
 have HB3:=Lib.hid (bel_alloc (bel_sub HB2.out hb3) (.cells #[.int .i64 x,.int .i64 y] 45))
 clear hb3 HB2
 go_wp2_with fail
 refine (HRT.out _ (HTb.out _ HB3.out)).mono ?_
 rintro e w4 ⟨rfl,hb4⟩
 have HB4:=Lib.hid (bel_sub HB3.out hb4)
 clear hb4 HB3
 cases ok
 ·go_wp2_with fail
  go_ret2
  exact ⟨rfl,HB4.out⟩
 ·go_wp2_with fail
  go_ret2
  exact ⟨rfl,HB4.out⟩
end
section
open Go.RowKit
attribute [local go_sem ↓] Go.wp_at_zero Go.wp_at_succ
theorem results_lev1 {P:Program} {fn:Func} {p:Tmp} {ty:TypeId} {cs:Array Value} (h:fn.results=#[.cell p ty]) (tmps:Array Value) (w:World) (g:Nat) (t:TypeId) (d:TypeDesc)
 (hp:tmps.getD p undef=.pointer (some ⟨g,0,none⟩)) (hg:Blk w g t cs)
 (hu:P.underlying ty=some d) (hd:(match d with | .struct _ | .array _ _=>true | _=>false)=true) (hi:(P.info? ty).map (·.size)=some cs.size) :
 (results fn tmps).run P w=.ok (.agg cs) w:=by
 have hp':tmps[p]?.getD undef=.pointer (some ⟨g,0,none⟩):=by simpa using hp
 simp [results,h,hp',asAddr,run_loadVar_row w g t ty cs (0,0) d hg hu hd hi]
def LevPost (T:TypeId) (w:World) (B R N:Nat) (e:Ending) (w':World):Prop :=
 ∃s l j:Int,e=.returned (.agg #[.int .i64 s,.int .i64 l,.int .i64 j])∧((0≤s∧s≤9)∧(0≤l∧l≤4)∧(-2≤j∧j≤30))∧Rd T w' B R N∧w.grownBy w' (some R)
theorem l92Level_any (B R N:Nat) (w:World) (hN:N≤800000) (hR:Rd 124 w B R N) :
 Calls Tryz.prog 57 #[.pointer (some ⟨R,0,none⟩)] w (LevPost 124 w B R (N+5)):=by
 have ltw:=hR.lt
 have lew:=hR.le
 have HR0:=Lib.hid hR;clear hR
 have HG0:=Lib.hid (gb_refl w (some R))
 go_enter Tryz.func57,Tryz.ntmps57
 have HR1:=Lib.hid (HR0.out.alloc (.cells #[.int .i64 0,.int .i64 0,.int .i64 0] 31))
 have HG1:=Lib.hid (gb_alloc HG0.out (.cells #[.int .i64 0,.int .i64 0,.int .i64 0] 31))
 have HX1_n:=Lib.hid (Blk.new w 31 #[.int .i64 0,.int .i64 0,.int .i64 0])
 clear HR0 HG0
 go_wp2_with fail
 refine (pick_any B R _ 5 _ (by omega) (by omega) (by omega) HR1.out).mono ?_
 rintro e w2 ⟨v2,rfl,hv2,hR2,hg2⟩
 have b2:=hv2.lt (by omega)
 have HX2_0:=Lib.hid (HX1_n.out.gb hg2 (by omega))
 have HR2:=Lib.hid hR2;clear hR2
 have HG2:=Lib.hid (gb_trans HG1.out hg2);clear hg2
 clear HX1_n HR1 HG1
 have lt2:=HR2.out.lt
 have le2:=HG2.out.size
 clear hv2
 go_wp2_with fail
 refine (pick_any B R _ 5 _ (by omega) (by omega) (by omega) HR2.out).mono ?_
 rintro e w3 ⟨v3,rfl,hv3,hR3,hg3⟩
 have b3:=hv3.lt (by omega)
 have HX3_0:=Lib.hid (HX2_0.out.gb hg3 (by omega))
 have HR3:=Lib.hid hR3;clear hR3
 have HG3:=Lib.hid (gb_trans HG2.out hg3);clear hg3
 clear HX2_0 HR2 HG2
 have lt3:=HR3.out.lt
 have le3:=HG3.out.size
 clear hv3
 have HR4:=Lib.hid (HR3.out.alloc (.cells #[.int .i64 v2,.int .i64 v3] 24))
 have HG4:=Lib.hid (gb_alloc HG3.out (.cells #[.int .i64 v2,.int .i64 v3] 24))
 have HX4_0:=Lib.hid (HX3_0.out.alloc (.cells #[.int .i64 v2,.int .i64 v3] 24))
 have HX4_n:=Lib.hid (Blk.new w3 24 #[.int .i64 v2,.int .i64 v3])
 clear HX3_0 HR3 HG3
 have hv:tvB (v2,v3)=true:=tvB_iff.2 ⟨⟨by simp;omega,by simp;omega⟩,by simp;omega,by simp;omega⟩
 have hln:=lv_len hv
 have HVV:=Lib.hid hv;clear hv
 have HLO:=Lib.hid (fun W=>specLevelsOf_any (v2,v3) W)
 unfold LevelsPost at HLO
 obtain ⟨js,hjs⟩:∃js,lvJs (v2,v3)=js:=⟨_,rfl⟩
 obtain ⟨n,hnn⟩:∃n,js.length=n:=⟨_,rfl⟩
 rw [hjs] at HLO hln
 rw [hnn] at HLO hln
 have HN:=Lib.hid hnn;have HJS:=Lib.hid hjs;clear hjs hnn
 obtain ⟨z1,z2,_,_⟩:=blk2 HX4_n.out
 have hRb:R<((w3.alloc (.cells #[.int .i64 v2,.int .i64 v3] 24))).heap.size:=HR4.out.lt
 go_wp2_with fail
 refine (HLO.out _).mono ?_
 rintro e w5 ⟨⟨A,c,rfl,hr⟩,hg5⟩
 clear z1 z2
 have HX5_0:=Lib.hid (HX4_0.out.sub hg5)
 have HX5_1:=Lib.hid (HX4_n.out.sub hg5)
 have HR5:=Lib.hid (HR4.out.below hg5)
 have HG5:=Lib.hid (gb_below HG4.out hg5);clear hg5
 clear HX4_0 HX4_n HR4 HG4
 have lt5:=HR5.out.lt
 have le5:=HG5.out.size
 have HO5:=Lib.hid hr;clear hr
 go_wp2_with fail
 refine (pick_any B R _ (n:Int) _ (by omega) (by omega) (by omega) HR5.out).mono ?_
 rintro e w6 ⟨v6,rfl,hv6,hR6,hg6⟩
 have b6:=hv6.lt (by omega)
 have HO6:=Lib.hid (own_gb HO5.out hg6 hRb)
 have HX6_0:=Lib.hid (HX5_0.out.gb hg6 (by omega))
 have HX6_1:=Lib.hid (HX5_1.out.gb hg6 (by omega))
 have HR6:=Lib.hid hR6;clear hR6
 have HG6:=Lib.hid (gb_trans HG5.out hg6);clear hg6
 clear HX5_0 HX5_1 HR5 HG5
 have lt6:=HR6.out.lt
 have le6:=HG6.out.size
 clear hv6 HO5 HLO
 obtain ⟨i,rfl⟩:∃i:Nat,v6=i:=⟨v6.toNat,by omega⟩
 obtain ⟨b0,off,j,rfl,hb0,r1,r2,r3,hg⟩:=(own_reads HO6.out).lev HN.out (k:=i) (by omega)
 have HJ:Hid (j∈js):=List.mem_of_getElem? hg.out
 have hjb:0≤j∧j≤24:=by
  have h1:=HJ.out;rw [←HJS.out] at h1
  have h2:=lv_ok HVV.out h1;exact ⟨h2.1,h2.2.1⟩
 have i0:(0:Int)≤(i:Int):=by omega
 have i1:(i:Int)<(n:Int):=by omega
 simp only at r1 r2
 clear hg
 have hzw:w.heap.size<w6.heap.size:=HX6_0.out.lt
 have HR7:=Lib.hid (HR6.out.alloc (.cells #[.int .i64 v2,.int .i64 v3,.int .i64 j] 31))
 have HG7:=Lib.hid (gb_alloc HG6.out (.cells #[.int .i64 v2,.int .i64 v3,.int .i64 j] 31))
 have HX7_0:=Lib.hid (HX6_0.out.alloc (.cells #[.int .i64 v2,.int .i64 v3,.int .i64 j] 31))
 have HX7_1:=Lib.hid (HX6_1.out.alloc (.cells #[.int .i64 v2,.int .i64 v3,.int .i64 j] 31))
 have HX7_n:=Lib.hid (Blk.new w6 31 #[.int .i64 v2,.int .i64 v3,.int .i64 j])
 clear HX6_0 HX6_1 HR6 HG6
 go_wp2_with fail
 refine (pick_any B R _ 30 _ (by omega) (by omega) (by omega) HR7.out).mono ?_
 rintro e w8 ⟨v8,rfl,hv8,hR8,hg8⟩
 have b8:=hv8.lt (by omega)
 clear r1 r2 r3 i0 i1
 have HX8_0:=Lib.hid (HX7_0.out.gb hg8 (by omega))
 have HX8_1:=Lib.hid (HX7_1.out.gb hg8 (by omega))
 have HX8_2:=Lib.hid (HX7_n.out.gb hg8 (by omega))
 have HR8:=Lib.hid hR8;clear hR8
 have HG8:=Lib.hid (gb_trans HG7.out hg8);clear hg8
 clear HX7_0 HX7_1 HX7_n HR7 HG7
 have lt8:=HR8.out.lt
 have le8:=HG8.out.size
 clear hv8
 have hzx:w.heap.size<w6.heap.size:=hzw
 by_cases h0:v8=0
 ·subst h0
  obtain ⟨y0a,y0b,y0e,y0c,y0d,y0f⟩:=blk3 HX8_0.out
  have q0:=HX8_0.out.lt
  obtain ⟨y1a,y1b,y1c,y1d⟩:=blk2 HX8_1.out
  have q1:=HX8_1.out.lt
  obtain ⟨y2a,y2b,y2e,y2c,y2d,y2f⟩:=blk3 HX8_2.out
  have q2:=HX8_2.out.lt
  have leX:w.heap.size≤w6.heap.size:=by omega
  have hzx2:w.heap.size≠w6.heap.size:=by omega
  have hRx:w6.heap.size≠R:=by omega
  have hBx:B≤w6.heap.size:=by omega
  have hBw:B≤w.heap.size:=by omega
  have hRw:w.heap.size≠R:=by omega
  have HZ:=Lib.hid (((((HX8_0.out.far (p:=⟨w6.heap.size,2,none⟩) hzx2 (.int .i64 (j+1))).set 0 (.int .i64 (v2))).set 1 (.int .i64 (v3))).set 2 (.int .i64 (j+1))))
  have HGZ:=Lib.hid ((gb_setCell (p:=⟨w.heap.size,2,none⟩) (gb_setCell (p:=⟨w.heap.size,1,none⟩) (gb_setCell (p:=⟨w.heap.size,0,none⟩) (gb_setCell (p:=⟨w6.heap.size,2,none⟩) HG8.out (.inr leX) (.int .i64 (j+1))) (.inr (Nat.le_refl _)) (.int .i64 (v2))) (.inr (Nat.le_refl _)) (.int .i64 (v3))) (.inr (Nat.le_refl _)) (.int .i64 (j+1))))
  have HRZ:=Lib.hid (((((HR8.out.setCell (p:=⟨w6.heap.size,2,none⟩) hBx hRx (.int .i64 (j+1))).setCell (p:=⟨w.heap.size,0,none⟩) hBw hRw (.int .i64 (v2))).setCell (p:=⟨w.heap.size,1,none⟩) hBw hRw (.int .i64 (v3))).setCell (p:=⟨w.heap.size,2,none⟩) hBw hRw (.int .i64 (j+1))))
  go_wp2_with fail
  refine bodyPost_ret (results_lev1 rfl _ _ w.heap.size _ _ rfl HZ.out Tryz.underlying31 rfl (by kernel_rfl)) rfl ?_
  exact ⟨_,_,_,rfl,by omega,HRZ.out.more (by omega),HGZ.out⟩
 by_cases h1:v8=1
 ·subst h1
  have HR9:=Lib.hid (HR8.out.alloc (.cells #[.int .i64 (-2),.int .i64 30] 3))
  have HG9:=Lib.hid (gb_alloc HG8.out (.cells #[.int .i64 (-2),.int .i64 30] 3))
  have HX9_0:=Lib.hid (HX8_0.out.alloc (.cells #[.int .i64 (-2),.int .i64 30] 3))
  have HX9_1:=Lib.hid (HX8_1.out.alloc (.cells #[.int .i64 (-2),.int .i64 30] 3))
  have HX9_2:=Lib.hid (HX8_2.out.alloc (.cells #[.int .i64 (-2),.int .i64 30] 3))
  have HX9_n:=Lib.hid (Blk.new w8 3 #[.int .i64 (-2),.int .i64 30])
  clear HX8_0 HX8_1 HX8_2 HR8 HG8
  go_wp2_with fail
  refine (pick_any B R _ 2 _ (by omega) (by omega) (by omega) HR9.out).mono ?_
  rintro e w10 ⟨v10,rfl,hv10,hR10,hg10⟩
  have b10:=hv10.lt (by omega)
  have HX10_0:=Lib.hid (HX9_0.out.gb hg10 (by omega))
  have HX10_1:=Lib.hid (HX9_1.out.gb hg10 (by omega))
  have HX10_2:=Lib.hid (HX9_2.out.gb hg10 (by omega))
  have HX10_3:=Lib.hid (HX9_n.out.gb hg10 (by omega))
  have HR10:=Lib.hid hR10;clear hR10
  have HG10:=Lib.hid (gb_trans HG9.out hg10);clear hg10
  clear HX9_0 HX9_1 HX9_2 HX9_n HR9 HG9
  have lt10:=HR10.out.lt
  have le10:=HG10.out.size
  clear hv10
  obtain ⟨j10,rfl⟩:∃j10:Nat,v10=j10:=⟨v10.toNat,by omega⟩
  obtain ⟨n1,hn1,kn1⟩:∃x:Int,w10.cell? ⟨w8.heap.size,j10,none⟩=some (.int .i64 x)∧(-2≤x∧x≤30):=by
   rw [HX10_3.out.cell]
   have hj:j10=0∨j10=1:=by omega
   rcases hj with rfl | rfl <;> exact ⟨_,rfl,by omega,by omega⟩
  have ij10a:(0:Int)≤(j10:Int):=by omega
  have ij10b:(j10:Int)<2:=by omega
  obtain ⟨y0a,y0b,y0e,y0c,y0d,y0f⟩:=blk3 HX10_0.out
  have q0:=HX10_0.out.lt
  obtain ⟨y1a,y1b,y1c,y1d⟩:=blk2 HX10_1.out
  have q1:=HX10_1.out.lt
  obtain ⟨y2a,y2b,y2e,y2c,y2d,y2f⟩:=blk3 HX10_2.out
  have q2:=HX10_2.out.lt
  have q3:=HX10_3.out.lt
  have leX:w.heap.size≤w6.heap.size:=by omega
  have hzx2:w.heap.size≠w6.heap.size:=by omega
  have hRx:w6.heap.size≠R:=by omega
  have hBx:B≤w6.heap.size:=by omega
  have hBw:B≤w.heap.size:=by omega
  have hRw:w.heap.size≠R:=by omega
  have HZ:=Lib.hid (((((HX10_0.out.far (p:=⟨w6.heap.size,2,none⟩) hzx2 (.int .i64 (n1))).set 0 (.int .i64 (v2))).set 1 (.int .i64 (v3))).set 2 (.int .i64 (n1))))
  have HGZ:=Lib.hid ((gb_setCell (p:=⟨w.heap.size,2,none⟩) (gb_setCell (p:=⟨w.heap.size,1,none⟩) (gb_setCell (p:=⟨w.heap.size,0,none⟩) (gb_setCell (p:=⟨w6.heap.size,2,none⟩) HG10.out (.inr leX) (.int .i64 (n1))) (.inr (Nat.le_refl _)) (.int .i64 (v2))) (.inr (Nat.le_refl _)) (.int .i64 (v3))) (.inr (Nat.le_refl _)) (.int .i64 (n1))))
  have HRZ:=Lib.hid (((((HR10.out.setCell (p:=⟨w6.heap.size,2,none⟩) hBx hRx (.int .i64 (n1))).setCell (p:=⟨w.heap.size,0,none⟩) hBw hRw (.int .i64 (v2))).setCell (p:=⟨w.heap.size,1,none⟩) hBw hRw (.int .i64 (v3))).setCell (p:=⟨w.heap.size,2,none⟩) hBw hRw (.int .i64 (n1))))
  go_wp2_with fail
  refine bodyPost_ret (results_lev1 rfl _ _ w.heap.size _ _ rfl HZ.out Tryz.underlying31 rfl (by kernel_rfl)) rfl ?_
  exact ⟨_,_,_,rfl,by omega,HRZ.out.more (by omega),HGZ.out⟩
 by_cases h2:v8=2
 ·subst h2
  obtain ⟨y0a,y0b,y0e,y0c,y0d,y0f⟩:=blk3 HX8_0.out
  have q0:=HX8_0.out.lt
  obtain ⟨y1a,y1b,y1c,y1d⟩:=blk2 HX8_1.out
  have q1:=HX8_1.out.lt
  obtain ⟨y2a,y2b,y2e,y2c,y2d,y2f⟩:=blk3 HX8_2.out
  have q2:=HX8_2.out.lt
  have leX:w.heap.size≤w6.heap.size:=by omega
  have hzx2:w.heap.size≠w6.heap.size:=by omega
  have hRx:w6.heap.size≠R:=by omega
  have hBx:B≤w6.heap.size:=by omega
  have hBw:B≤w.heap.size:=by omega
  have hRw:w.heap.size≠R:=by omega
  have HZ:=Lib.hid (((((HX8_0.out.far (p:=⟨w6.heap.size,0,none⟩) hzx2 (.int .i64 (9))).set 0 (.int .i64 (9))).set 1 (.int .i64 (v3))).set 2 (.int .i64 (j))))
  have HGZ:=Lib.hid ((gb_setCell (p:=⟨w.heap.size,2,none⟩) (gb_setCell (p:=⟨w.heap.size,1,none⟩) (gb_setCell (p:=⟨w.heap.size,0,none⟩) (gb_setCell (p:=⟨w6.heap.size,0,none⟩) HG8.out (.inr leX) (.int .i64 (9))) (.inr (Nat.le_refl _)) (.int .i64 (9))) (.inr (Nat.le_refl _)) (.int .i64 (v3))) (.inr (Nat.le_refl _)) (.int .i64 (j))))
  have HRZ:=Lib.hid (((((HR8.out.setCell (p:=⟨w6.heap.size,0,none⟩) hBx hRx (.int .i64 (9))).setCell (p:=⟨w.heap.size,0,none⟩) hBw hRw (.int .i64 (9))).setCell (p:=⟨w.heap.size,1,none⟩) hBw hRw (.int .i64 (v3))).setCell (p:=⟨w.heap.size,2,none⟩) hBw hRw (.int .i64 (j))))
  go_wp2_with fail
  refine bodyPost_ret (results_lev1 rfl _ _ w.heap.size _ _ rfl HZ.out Tryz.underlying31 rfl (by kernel_rfl)) rfl ?_
  exact ⟨_,_,_,rfl,by omega,HRZ.out.more (by omega),HGZ.out⟩
 have e0:(v8==0)=false:=by simpa using h0
 have e1:(v8==1)=false:=by simpa using h1
 have e2:(v8==2)=false:=by simpa using h2
 clear h0 h1 h2
 obtain ⟨y0a,y0b,y0e,y0c,y0d,y0f⟩:=blk3 HX8_0.out
 have q0:=HX8_0.out.lt
 obtain ⟨y1a,y1b,y1c,y1d⟩:=blk2 HX8_1.out
 have q1:=HX8_1.out.lt
 obtain ⟨y2a,y2b,y2e,y2c,y2d,y2f⟩:=blk3 HX8_2.out
 have q2:=HX8_2.out.lt
 have hBw:B≤w.heap.size:=by omega
 have hRw:w.heap.size≠R:=by omega
 have HZ:=Lib.hid ((((HX8_0.out.set 0 (.int .i64 (v2))).set 1 (.int .i64 (v3))).set 2 (.int .i64 (j))))
 have HGZ:=Lib.hid ((gb_setCell (p:=⟨w.heap.size,2,none⟩) (gb_setCell (p:=⟨w.heap.size,1,none⟩) (gb_setCell (p:=⟨w.heap.size,0,none⟩) HG8.out (.inr (Nat.le_refl _)) (.int .i64 (v2))) (.inr (Nat.le_refl _)) (.int .i64 (v3))) (.inr (Nat.le_refl _)) (.int .i64 (j))))
 have HRZ:=Lib.hid ((((HR8.out.setCell (p:=⟨w.heap.size,0,none⟩) hBw hRw (.int .i64 (v2))).setCell (p:=⟨w.heap.size,1,none⟩) hBw hRw (.int .i64 (v3))).setCell (p:=⟨w.heap.size,2,none⟩) hBw hRw (.int .i64 (j))))
 go_wp2_with fail
 refine bodyPost_ret (results_lev1 rfl _ _ w.heap.size _ _ rfl HZ.out Tryz.underlying31 rfl (by kernel_rfl)) rfl ?_
 exact ⟨_,_,_,rfl,by omega,HRZ.out.more (by omega),HGZ.out⟩
end
section
open Go.RowKit
attribute [local go_sem ↓] Go.wp_at_zero Go.wp_at_succ
def LineOk (w:World) (line out:List UInt8):Prop:=∀(W:World) (b:Nat),Below w.heap.size w W→Blk W b 9 (wcs (spl 32 line)) →
 Calls Tryz.prog 43 #[.slice (some ⟨b,0,none⟩) (spl 32 line).length (spl 32 line).length] W fun e w'=>e=.returned (.string (bs out))∧Below W.heap.size W w'
theorem spl_line {l:List UInt8} (h:10∉l):spl 10 (l++[10])=[l]++[[]]:=by
 rw [spl_app h];rfl
theorem lines1 {x:List UInt8}:outP [x] 1++linesT++Lib.decDigits 1++[10]=x++[10,108,105,110,101,115,32,49,10]:=by
 have:Lib.decDigits 1=[49]:=by decide +kernel
 rw [this]
 simp [outP,linesT]
theorem exec1 (line out:List UInt8) (w:World) (ht:Tab w) (hm:Mx w) (hl:line.length≤599) (h10:10∉line) (ho:out.length≤10000) (h:LineOk w line out) :
 Calls Tryz.prog 13 #[.string (bs (line++[10]))] w fun e w'=>e=.returned (.string (bs (out++[10,108,105,110,101,115,32,49,10])))∧Below w.heap.size w w':=by
 have hgo:∀(x:List UInt8) (m:Nat),x.length≤m→∀k,([x].getD k []).length≤m:=fun x m h k=>by
  cases k with
  | zero=>exact h
  | succ k=>simp
 have hx:=Execute_any (line++[10]) 1 [line] [out] w ht hm (by simp;omega) (spl_line h10) rfl (by omega) (hgo _ _ (by omega)) (hgo _ _ ho) (fun k hk W b hW hbl=>by
  obtain rfl:k=0:=by omega
  simp only [List.getD_cons_zero] at hbl ⊢
  exact h W b hW hbl)
 refine hx.mono fun e w' ⟨he,hb⟩=>⟨?_,hb⟩
 rw [he]
 exact ret_str (congrArg bs lines1)
theorem sp_chars (j:Nat) (h:j≤24):32∉spT (j:Int)∧10∉spT (j:Int)∧1≤(spT (j:Int)).length∧(spT (j:Int)).length≤4:=by
 have h1:∀j:Fin 25,32∉spT (j.1:Int)∧10∉spT (j.1:Int)∧1≤(spT (j.1:Int)).length∧(spT (j.1:Int)).length≤4:=by decide +kernel
 exact h1 ⟨j,by omega⟩
theorem sp_inj {i j:Nat} (hi:i≤24) (hj:j≤24) (h:spT (i:Int)=spT (j:Int)):i=j:=by
 have h1:∀i j:Fin 25,spT (i.1:Int)=spT (j.1:Int)→i=j:=by decide +kernel
 have:=h1 ⟨i,by omega⟩ ⟨j,by omega⟩ h
 injection this
theorem tm_chars {t:T2} (hv:tvB t=true):32∉tmT t∧10∉tmT t∧tmF (tmT t)=(t,true):=by
 have hb:=tvB_iff.1 hv
 obtain ⟨s,l⟩:=t
 obtain ⟨s,rfl⟩:=Int.eq_ofNat_of_zero_le hb.1.1
 obtain ⟨l,rfl⟩:=Int.eq_ofNat_of_zero_le hb.2.1
 have h:∀s l:Fin 9,32∉tmT ((s.1:Int),(l.1:Int))∧10∉tmT ((s.1:Int),(l.1:Int))∧tmF (tmT ((s.1:Int),(l.1:Int)))=(((s.1:Int),(l.1:Int)),true):=by decide +kernel
 have h8:=hb.1.2;have h9:=hb.2.2;simp at h8 h9
 exact h ⟨s,by omega⟩ ⟨l,by omega⟩
theorem lvF_text {t:T2} {j:Int} (h:lvB t j=true):lvF (l1T t j)=((t,j),true)∧32∉l1T t j∧10∉l1T t j∧(l1T t j).length≤6:=by
 have h1:=lvB_iff.1 h
 have hm:=lvB_mem.1 h
 obtain ⟨c1,c2,c3⟩:=tm_chars h1.1
 have hj:=(triB_iff.1 h1.2).1.2.2
 obtain ⟨k,rfl⟩:=Int.eq_ofNat_of_zero_le hj.1
 obtain ⟨d1,d2,d3,d4⟩:=sp_chars k (by omega)
 have htl:=tmT_len h1.1
 have e1:(l1T t (k:Int)).take 2=tmT t:=by unfold l1T;rw [List.take_append_of_le_length (by omega),List.take_of_length_le (by omega)]
 have e2:(l1T t (k:Int)).drop 2=spT (k:Int):=by unfold l1T;rw [List.drop_append_of_le_length (by omega),List.drop_of_length_le (by omega),List.nil_append]
 have e3:(l1T t (k:Int)).length=2+(spT (k:Int)).length:=by unfold l1T;rw [List.length_append,htl]
 refine ⟨?_,?_,?_,by omega⟩
 ·unfold lvF
  rw [e1,e2,c3,if_pos ⟨by omega,rfl⟩]
  have:lvJ t (spT (k:Int))=some (k:Int):=by
   unfold lvJ
   have hx:((lvJs t).find? fun j=>decide (spT j=spT (k:Int)))≠none:=by
    intro hn
    have:=List.find?_eq_none.1 hn (k:Int) hm
    simp at this
   cases hq:(lvJs t).find? fun j=>decide (spT j=spT (k:Int)) with
   | none=>exact absurd hq hx
   | some i =>
    have h2:=List.find?_some hq
    have h3:=List.mem_of_find?_eq_some hq
    have h4:=lv_ok h1.1 h3
    obtain ⟨i,rfl⟩:=Int.eq_ofNat_of_zero_le h4.1
    have:=sp_inj (by have:=h4.2.1;omega) (by omega) (of_decide_eq_true h2)
    rw [this]
  simp only [this]
 ·unfold l1T;simp [c1,d1]
 ·unfold l1T;simp [c2,d2]
end
end
end Go.Proofs.YtlgdndnaiogooaaGreatDoor
