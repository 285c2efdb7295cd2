/- Parts of the proof of : Fa. -/
import Derived.Test.YtlgdndnaiogooaaGreatDoorQ18
import Derived.Test.YtlgdndnaiogooaaGreatDoorQ20
import Derived.Test.YtlgdndnaiogooaaGreatDoorQ25
import Derived.Test.YtlgdndnaiogooaaGreatDoorQ12
set_option maxHeartbeats 20000000
set_option maxRecDepth 1000000
set_option linter.unusedSimpArgs false
set_option linter.unusedVariables false
namespace Go.Proofs.YtlgdndnaiogooaaGreatDoor
section
section
open Go.RowKit
attribute [local go_sem ↓] Go.wp_at_zero Go.wp_at_succ
theorem square_any (s l j x:Int) (w:World) (h0:-1000≤x) (h1:x≤1000) :
 Calls Tryz.prog 103 #[.agg #[.int .i64 s,.int .i64 l,.int .i64 j],.int .i64 x] w fun e w'=>e=.returned (.int .i64 (x*(x+2)))∧w'=w.alloc (.cells #[.int .i64 s,.int .i64 l,.int .i64 j] 147):=by
 have hx:=mul_bd (x:=x) (y:=x+2) (A:=1000) (B:=1002) (by omega) (by omega)
 have u:IntKind.i64.wrap (x*(x+2))=x*(x+2):=IntWalk.i64_in _ (by omega)
 go_enter Tryz.func103,Tryz.ntmps103
 go_wp2_with fail
 go_ret
 exact ⟨rfl,rfl⟩
def sq (x:Int):Int:=x*(x+2)
def facN (t:T2) (j:Int):Int:=2*sq j+sq j+sq t.1-sq (2*t.2)
def facR (t:T2) (j:Int):T2 × Bool:=if lvB t j=true∧j≠0 then ratOf (facN t j) (2*sq j) else ((0,0),false)
def Ers (w:World):Prop:=(∃te pe,w.cell? ⟨0,0,none⟩=some (.iface te pe))∧∃te pe,w.cell? ⟨1,0,none⟩=some (.iface te pe)
theorem Ers.on {w w':World} (h:Ers w) (hb:Below w.heap.size w w'):Ers w':=by
 obtain ⟨⟨te,pe,h1⟩,te',pe',h2⟩:=h
 exact ⟨⟨te,pe,(hb.cell (World.block_lt_of_cell? _ _ h1)).trans h1⟩,te',pe',(hb.cell (World.block_lt_of_cell? _ _ h2)).trans h2⟩
def FacPost (w:World) (r:T2 × Bool) (e:Ending) (w':World):Prop :=
 (if r.2=true then e=.returned (.tuple #[ratV r.1,.nilIface]) else ∃te pe,e=.returned (.tuple #[ratV (0,0),.iface te pe]))∧Below w.heap.size w w'
theorem facPost_no {w w':World} {a b:Int} {te:TypeId} {pe:Value} (h:Below w.heap.size w w'):FacPost w ((a,b),false) (.returned (.tuple #[ratV (0,0),.iface te pe])) w':=⟨by rw [if_neg (by simp)];exact ⟨te,pe,rfl⟩,h⟩
theorem facPost_yes {w w':World} {a b:Int} (h:Below w.heap.size w w'):FacPost w ((a,b),true) (.returned (.tuple #[ratV (a,b),.nilIface])) w':=⟨by rw [if_pos rfl],h⟩
theorem factorOf_any (t:T2) (j:Int) (w:World) (hE:Ers w) :
 Calls Tryz.prog 58 #[.agg #[.int .i64 t.1,.int .i64 t.2,.int .i64 j]] w (FacPost w (facR t j)):=by
 have HV:=Lib.hid (fun W=>LevelValid_all t j W)
 have HB:=Lib.hid (((Below.refl w.heap.size w).alloc (Nat.le_refl _) (.cells #[.int .i64 t.1,.int .i64 t.2,.int .i64 j] 31)).alloc (by simp) (.cells #[.int .i64 0,.int .i64 0] 45))
 have HX:=Lib.hid ((Blk.new w 31 #[.int .i64 t.1,.int .i64 t.2,.int .i64 j]).alloc (.cells #[.int .i64 0,.int .i64 0] 45))
 have hy:=Blk.new (w.alloc (.cells #[.int .i64 t.1,.int .i64 t.2,.int .i64 j] 31)) 45 #[.int .i64 0,.int .i64 0]
 rw [World.size_alloc] at hy
 have HY:=Lib.hid hy;clear hy
 have hne:¬w.heap.size=1-1:=by obtain ⟨_,te,pe,h⟩:=hE;have:=World.block_lt_of_cell? _ _ h;simp only at this;omega
 have hne2:¬w.heap.size=0-1:=by obtain ⟨⟨te,pe,h⟩,_⟩:=hE;have:=World.block_lt_of_cell? _ _ h;simp only at this;omega
 simp only [Nat.reduceSub] at hne hne2
 have HE:=Lib.hid (fun W (hb:Below w.heap.size w W)=>hE.on hb);clear hE
 cases hv:lvB t j
 ·have hr:facR t j=((0,0),false):=by unfold facR;rw [hv];simp
  rw [hr];rw [hv] at HV
  clear hr hv
  obtain ⟨s,l⟩:=t
  simp only at *
  go_enter Tryz.func58,Tryz.ntmps58
  go_wp2_with fail
  refine (HV.out _).mono ?_
  rintro e w1 ⟨rfl,hb1⟩
  have HY1:=Lib.hid (HY.out.sub hb1)
  have HB1:=Lib.hid (HB.out.trans (hb1.mono HB.out.size))
  obtain ⟨⟨te,pe,c1⟩,_⟩:=HE.out _ HB1.out
  obtain ⟨y1,y2,f1,f2⟩:=blk2 HY1.out
  clear hb1
  go_wp2_with fail
  have HZ1:=Lib.hid ((HY1.out.set 0 (.int .i64 0)).set 1 (.int .i64 0))
  have HBZ:=Lib.hid ((HB1.out.setCell (p:=⟨w.heap.size+1,0,none⟩) (by simp) (.int .i64 0)).setCell (p:=⟨w.heap.size+1,1,none⟩) (by simp) (.int .i64 0))
  go_region
  clear c1
  go_wp2_with fail
  refine bodyPost_ret (results_ct0 rfl _ _ (w.heap.size+1) _ _ rfl HZ1.out.drew Tryz.underlying45 rfl (by kernel_rfl)) rfl ?_
  exact ⟨⟨te,pe,rfl⟩,HBZ.out.drew⟩
 by_cases hj0:j=0
 ·subst hj0
  have hr:facR t 0=((0,0),false):=by unfold facR;simp
  rw [hr];rw [hv] at HV
  clear hr hv
  obtain ⟨s,l⟩:=t
  simp only at *
  go_enter Tryz.func58,Tryz.ntmps58
  go_wp2_with fail
  refine (HV.out _).mono ?_
  rintro e w1 ⟨rfl,hb1⟩
  have HY1:=Lib.hid (HY.out.sub hb1)
  have HB1:=Lib.hid (HB.out.trans (hb1.mono HB.out.size))
  obtain ⟨_,⟨te,pe,c1⟩⟩:=HE.out _ HB1.out
  obtain ⟨y1,y2,f1,f2⟩:=blk2 HY1.out
  obtain ⟨x1,x2,x3⟩:=Level3 (HX.out.sub hb1)
  clear hb1
  go_wp2_with fail
  have HZ1:=Lib.hid ((HY1.out.set 0 (.int .i64 0)).set 1 (.int .i64 0))
  have HBZ:=Lib.hid ((HB1.out.setCell (p:=⟨w.heap.size+1,0,none⟩) (by simp) (.int .i64 0)).setCell (p:=⟨w.heap.size+1,1,none⟩) (by simp) (.int .i64 0))
  go_region
  clear c1
  go_wp2_with fail
  refine bodyPost_ret (results_ct0 rfl _ _ (w.heap.size+1) _ _ rfl HZ1.out.drew Tryz.underlying45 rfl (by kernel_rfl)) rfl ?_
  exact ⟨⟨te,pe,rfl⟩,HBZ.out.drew⟩
 have hr:facR t j=ratOf (facN t j) (2*sq j):=by unfold facR;rw [if_pos ⟨hv,hj0⟩]
 have hb:=lvB_iff.1 hv
 have hb1:=tvB_iff.1 hb.1
 have hb2:=(triB_iff.1 hb.2).1
 rw [hr];rw [hv] at HV
 clear hr hv hb
 obtain ⟨s,l⟩:=t
 simp only at *
 have m1:=mul_bd (x:=j) (y:=j+2) (A:=24) (B:=26) (by omega) (by omega)
 have m2:=mul_bd (x:=s) (y:=s+2) (A:=8) (B:=10) (by omega) (by omega)
 have m3:=mul_bd (x:=2*l) (y:=2*l+2) (A:=16) (B:=18) (by omega) (by omega)
 have e0:(j==0)=false:=by simpa using hj0
 go_enter Tryz.func58,Tryz.ntmps58
 go_wp2_with fail
 refine (HV.out _).mono ?_
 rintro e w1 ⟨rfl,hc1⟩
 have HY1:=Lib.hid (HY.out.sub hc1)
 have HB1:=Lib.hid (HB.out.trans (hc1.mono HB.out.size))
 obtain ⟨x1,x2,x3⟩:=Level3 (HX.out.sub hc1)
 clear hc1
 go_wp2_with fail
 refine (square_any s l j j _ (by omega) (by omega)).mono ?_
 rintro e w2 ⟨rfl,rfl⟩
 go_upto_region 7 with (fail)
 have HM:=Lib.hid (Blk.new w1 147 #[.int .i64 s,.int .i64 l,.int .i64 j])
 obtain ⟨r,hr⟩:∃r,ratOf (facN (s,l) j) (2*sq j)=r:=⟨_,rfl⟩
 rw [hr]
 have HR:=Lib.hid (fun W=>implRatOf_any (facN (s,l) j) (2*sq j) W)
 rw [hr,okV_form] at HR
 have HRE:=Lib.hid hr;clear hr
 unfold facN sq at HR
 simp only at HR
 have HY2:=Lib.hid ((HY1.out.alloc (.cells #[.int .i64 s,.int .i64 l,.int .i64 j] 147)).alloc (.cells #[.int .i64 s,.int .i64 l,.int .i64 j] 147))
 have HB2:=Lib.hid (bel_alloc (bel_alloc HB1.out (.cells #[.int .i64 s,.int .i64 l,.int .i64 j] 147)) (.cells #[.int .i64 s,.int .i64 l,.int .i64 j] 147))
 have hsz:=HB1.out.size
 have hsy:=HY1.out.lt
 go_cut [6,7] from 30 to 53 (fun s6 s7 wx=>∃g,s6=.pointer (some ⟨g,0,none⟩)∧s7=.bool r.2∧w.heap.size+1<g∧Hid (Blk wx g 45 #[.int .i64 r.1.1,.int .i64 r.1.2])∧Hid (Blk wx (w.heap.size+1) 45 #[.int .i64 0,.int .i64 0])∧Hid (Below w.heap.size w wx))
 case first =>
  have u1:IntKind.i64.wrap (2*(j*(j+2)))=2*(j*(j+2)):=IntWalk.i64_in _ (by omega)
  have u2:IntKind.i64.wrap (2*(j*(j+2))+j*(j+2))=2*(j*(j+2))+j*(j+2):=IntWalk.i64_in _ (by omega)
  have u3:IntKind.i64.wrap (2*(j*(j+2))+j*(j+2)+s*(s+2))=2*(j*(j+2))+j*(j+2)+s*(s+2):=IntWalk.i64_in _ (by omega)
  have u4:IntKind.i64.wrap (2*l)=2*l:=IntWalk.i64_in _ (by omega)
  have u5:IntKind.i64.wrap (2*(j*(j+2))+j*(j+2)+s*(s+2)-2*l*(2*l+2))=2*(j*(j+2))+j*(j+2)+s*(s+2)-2*l*(2*l+2):=IntWalk.i64_in _ (by omega)
  have HS:=Lib.hid (fun x W=>square_any s l j x W)
  obtain ⟨m0,m1,m2⟩:=Level3 HM.out
  go_region_held3 (fun w'=>w'.cell? ⟨w1.heap.size,0,none⟩=some (.int .i64 s)∧w'.cell? ⟨w1.heap.size,1,none⟩=some (.int .i64 l)∧w'.cell? ⟨w1.heap.size,2,none⟩=some (.int .i64 j)) (first | (refine ⟨?_,?_,?_⟩ <;> ((repeat (first | assumption | apply cell_past | rw [World.cell?_drew] | refine cell_sub hb9 ?_ | refine cell_far (by simp <;> omega) ?_));done)) | go_keep)
   (first | (go_at_call 103;refine (HS.out _ _ (by omega) (by omega)).mono ?_;rintro e w' ⟨rfl,rfl⟩) | (go_at_call 104;refine (HR.out _).mono ?_;rintro e w' ⟨rfl,hb9⟩;obtain ⟨hc9,hf9,hs9⟩:=bcell hb9))
  all_goals
   go_wp2_with fail
   go_meet
   case rel =>
    have hs8:=hs9
    simp at hs8
    refine ⟨_,rfl,rfl,?_,?_,?_,?_⟩
    ·omega
    ·unfold Hid;repeat (first | (with_reducible refine blk_new' ?_;first | rfl | (simp;done)) | with_reducible refine blk_set2 (a:=.int .i64 0) (b:=.int .i64 0) ?_ | with_reducible refine blk_sub ?_ hb9 | with_reducible refine Blk.alloc ?_ _ | with_reducible refine Blk.drew ?_)
    ·unfold Hid;repeat (first | with_reducible exact HY2.out | with_reducible refine blk_far2 ?_ (by omega) | with_reducible refine blk_sub ?_ hb9 | with_reducible refine Blk.alloc ?_ _ | with_reducible refine Blk.drew ?_)
    ·unfold Hid;repeat (first | with_reducible exact HB2.out | with_reducible refine bel_set2 ?_ (by omega) | with_reducible refine bel_sub ?_ hb9 | with_reducible refine bel_alloc ?_ _ | with_reducible refine bel_drew ?_)
 case rest =>
  obtain ⟨g,rfl,rfl,hg,HG,HYR,HBR⟩:=hcut
  obtain ⟨y1,y2,f1,f2⟩:=blk2 HYR.out
  obtain ⟨q1,q2,f3,f4⟩:=blk2 HG.out
  obtain ⟨⟨a,b⟩,ok⟩:=r
  simp only at *
  cases ok
  ·obtain ⟨⟨te,pe,c1⟩,_⟩:=HE.out _ HBR.out
   have HZ1:=Lib.hid ((HYR.out.set 0 (.int .i64 0)).set 1 (.int .i64 0))
   have HBZ:=Lib.hid (bel_set (g:=w.heap.size+1) (i:=1) (u:=.int .i64 0) (bel_set (g:=w.heap.size+1) (i:=0) (u:=.int .i64 0) HBR.out (by simp)) (by simp))
   go_wp2_with fail
   go_region
   clear c1
   go_wp2_with fail
   refine bodyPost_ret (results_ct0 rfl _ _ (w.heap.size+1) _ _ rfl HZ1.out.drew Tryz.underlying45 rfl (by kernel_rfl)) rfl ?_
   exact (by rw [HRE.out];exact facPost_no HBZ.out.drew)
  ·have HZ1:=Lib.hid ((HYR.out.set 0 (.int .i64 a)).set 1 (.int .i64 b))
   have HBZ:=Lib.hid (bel_set (g:=w.heap.size+1) (i:=1) (u:=.int .i64 b) (bel_set (g:=w.heap.size+1) (i:=0) (u:=.int .i64 a) HBR.out (by simp)) (by simp))
   go_wp2_with fail
   refine bodyPost_ret (results_ct0 rfl _ _ (w.heap.size+1) _ _ rfl HZ1.out Tryz.underlying45 rfl (by kernel_rfl)) rfl ?_
   exact (by rw [HRE.out];exact facPost_yes HBZ.out)
end
section
open Go.RowKit
attribute [local go_sem ↓] Go.wp_at_zero Go.wp_at_succ
theorem ratOf_no {n d:Int} (h:(ratOf n d).2=false):ratOf n d=((0,0),false):=by
 unfold ratOf mkB at *
 split at h
 ·rename_i h1;rw [if_pos h1]
 ·rename_i h1
  rw [if_neg h1]
  split at h
  ·cases h
  ·rename_i h2;rw [if_neg h2]
theorem facR_no {t:T2} {j:Int} (h:(facR t j).2=false):facR t j=((0,0),false):=by
 unfold facR at *
 split at h
 ·rename_i h1;rw [if_pos h1];exact ratOf_no h
 ·rename_i h1;rw [if_neg h1]
theorem FactorOf_any (t:T2) (j:Int) (w:World) (hE:Ers w) :
 Calls Tryz.prog 22 #[.agg #[.int .i64 t.1,.int .i64 t.2,.int .i64 j]] w fun e w'=>e=.returned (okV (facR t j))∧Below w.heap.size w w':=by
 have HB:=Lib.hid (bel_alloc (bel_alloc (Below.refl w.heap.size w) (.cells #[.int .i64 t.1,.int .i64 t.2,.int .i64 j] 31)) (.cells #[.int .i64 0,.int .i64 0] 45))
 have hy:=Blk.new (w.alloc (.cells #[.int .i64 t.1,.int .i64 t.2,.int .i64 j] 31)) 45 #[.int .i64 0,.int .i64 0]
 rw [World.size_alloc] at hy
 have HY:=Lib.hid hy;clear hy
 have HF:=Lib.hid (factorOf_any t j _ (hE.on HB.out));clear hE
 have HNO:=Lib.hid (facR_no (t:=t) (j:=j))
 obtain ⟨r,hr⟩:∃r,facR t j=r:=⟨_,rfl⟩
 rw [hr] at HF HNO ⊢
 clear hr
 obtain ⟨s,l⟩:=t
 simp only at *
 go_enter Tryz.func22,Tryz.ntmps22
 go_wp2_with fail
 refine HF.out.mono ?_
 rintro e w1 ⟨he,hb1⟩
 obtain ⟨⟨a,b⟩,ok⟩:=r
 simp only at he
 have HB1:=Lib.hid (bel_sub HB.out hb1)
 have HY1:=Lib.hid (HY.out.sub hb1)
 have hlt:=HY1.out.lt
 clear hb1
 cases ok
 ·rw [if_neg (by simp)] at he
  obtain ⟨te,pe,rfl⟩:=he
  have h0:=HNO.out rfl
  injection h0 with h0 _
  injection h0 with ha hb
  subst ha hb
  unfold ratV
  obtain ⟨y1,y2,f1,f2⟩:=blk2 HY1.out
  have HZ1:=Lib.hid (((HY1.out.set 0 (.int .i64 0)).set 1 (.int .i64 0)).alloc (.cells #[.int .i64 0,.int .i64 0] 45))
  have HBZ:=Lib.hid (bel_alloc (bel_set2 (g:=w.heap.size+1) (x:=.int .i64 0) (y:=.int .i64 0) HB1.out (by simp)) (.cells #[.int .i64 0,.int .i64 0] 45))
  go_wp2_with fail
  refine bodyPost_ret (results_ct0 rfl _ _ (w.heap.size+1) _ _ rfl HZ1.out Tryz.underlying45 rfl (by kernel_rfl)) rfl ?_
  exact ⟨rfl,HBZ.out⟩
 ·rw [if_pos rfl] at he
  subst he
  unfold ratV
  obtain ⟨y1,y2,f1,f2⟩:=blk2 HY1.out
  have HZ1:=Lib.hid (((HY1.out.set 0 (.int .i64 a)).set 1 (.int .i64 b)).alloc (.cells #[.int .i64 a,.int .i64 b] 45))
  have HBZ:=Lib.hid (bel_alloc (bel_set2 (g:=w.heap.size+1) (x:=.int .i64 a) (y:=.int .i64 b) HB1.out (by simp)) (.cells #[.int .i64 a,.int .i64 b] 45))
  go_wp2_with fail
  refine bodyPost_ret (results_ct0 rfl _ _ (w.heap.size+1) _ _ rfl HZ1.out Tryz.underlying45 rfl (by kernel_rfl)) rfl ?_
  exact ⟨rfl,HBZ.out⟩
theorem l15Square_any (x:Int) (w:World) (h0:-1000≤x) (h1:x≤1000) :
 Calls Tryz.prog 62 #[.int .i64 x] w fun e w'=>e=.returned (.int .i64 (x*(x+2)))∧w=w':=by
 have hx:=mul_bd (x:=x) (y:=x+2) (A:=1000) (B:=1002) (by omega) (by omega)
 have u:IntKind.i64.wrap (x*(x+2))=x*(x+2):=IntWalk.i64_in _ (by omega)
 go_enter Tryz.func62,Tryz.ntmps62
 go_wp2_with fail
 go_ret
 exact ⟨rfl,rfl⟩
theorem l16Twice_any (s l j:Int) (w:World) (hs:0≤s∧s≤8) (hl:0≤l∧l≤8) (hj:0≤j∧j≤24) :
 Calls Tryz.prog 61 #[.agg #[.int .i64 s,.int .i64 l,.int .i64 j]] w fun e w'=>e=.returned (.int .i64 (facN (s,l) j))∧Below w.heap.size w w':=by
 have HB:=Lib.hid (bel_alloc (Below.refl w.heap.size w) (.cells #[.int .i64 s,.int .i64 l,.int .i64 j] 31))
 obtain ⟨x1,x2,x3⟩:=Level3 (Blk.new w 31 #[.int .i64 s,.int .i64 l,.int .i64 j])
 have HS:=Lib.hid (fun x W h0 h1=>l15Square_any x W h0 h1)
 have m1:=mul_bd (x:=j) (y:=j+2) (A:=24) (B:=26) (by omega) (by omega)
 have m2:=mul_bd (x:=s) (y:=s+2) (A:=8) (B:=10) (by omega) (by omega)
 have m3:=mul_bd (x:=2*l) (y:=2*l+2) (A:=16) (B:=18) (by omega) (by omega)
 have k1:=After.cell x1
 have k2:=After.cell x2
 have k3:=After.cell x3
 unfold facN sq
 simp only
 have u1:IntKind.i64.wrap (2*(j*(j+2)))=2*(j*(j+2)):=IntWalk.i64_in _ (by omega)
 have u2:IntKind.i64.wrap (2*(j*(j+2))+j*(j+2))=2*(j*(j+2))+j*(j+2):=IntWalk.i64_in _ (by omega)
 have u3:IntKind.i64.wrap (2*(j*(j+2))+j*(j+2)+s*(s+2))=2*(j*(j+2))+j*(j+2)+s*(s+2):=IntWalk.i64_in _ (by omega)
 have u4:IntKind.i64.wrap (2*l)=2*l:=IntWalk.i64_in _ (by omega)
 have u5:IntKind.i64.wrap (2*(j*(j+2))+j*(j+2)+s*(s+2)-2*l*(2*l+2))=2*(j*(j+2))+j*(j+2)+s*(s+2)-2*l*(2*l+2):=IntWalk.i64_in _ (by omega)
 go_enter Tryz.func61,Tryz.ntmps61
 go_wp2_with fail
 refine (HS.out _ _ (by omega) (by omega)).mono ?_
 rintro e w1 ⟨rfl,rfl⟩
 go_wp2_with fail
 refine wp_region_after (by kernel_rfl) (by kernel_rfl) ?_
 repeat (go_big_quiet_step ((go_at_call 62;exact after_same _ (HS.out _ _ (by omega) (by omega)))))
 refine wpQuiet_nil ?_
 intro w9 hw'
 obtain ⟨⟨w9',hb9⟩,hw''⟩:=hw'
 subst hw''
 have HB9:=Lib.hid (bel_sub HB.out hb9);clear hb9
 go_wp2_with fail
 go_ret
 exact ⟨rfl,HB9.out⟩
end
section
open Go.RowKit
attribute [local go_sem ↓] Go.wp_at_zero Go.wp_at_succ
theorem specTriangle_all (a b c:Int) (w:World) :
 Calls Tryz.prog 83 #[.int .i64 a,.int .i64 b,.int .i64 c] w fun e w'=>e=.returned (.bool (triB a b c))∧w=w':=by
 have HA:=Lib.hid (specSpinValid_any a w)
 have HBv:=Lib.hid (specSpinValid_any b w)
 have HC:=Lib.hid (specSpinValid_any c w)
 obtain ⟨r,hr⟩:∃r,triB a b c=r:=⟨_,rfl⟩
 rw [hr]
 have HR:=Lib.hid hr;clear hr
 cases ia:inB a 0 24
 ·have he:r=false:=by rw [←HR.out];simp [triB,ia]
  have HE:=Lib.hid he;clear he HR
  rw [ia] at HA
  clear ia
  go_enter Tryz.func83,Tryz.ntmps83
  go_wp2_with fail
  refine HA.out.mono ?_
  rintro e w1 ⟨rfl,rfl⟩
  go_wp2_with fail
  go_ret
  exact ⟨ret_bool HE.out.symm,rfl⟩
 cases ib:inB b 0 24
 ·have he:r=false:=by rw [←HR.out];simp [triB,ib]
  have HE:=Lib.hid he;clear he HR
  rw [ia] at HA
  rw [ib] at HBv
  clear ia ib
  go_enter Tryz.func83,Tryz.ntmps83
  go_wp2_with fail
  refine HA.out.mono ?_
  rintro e w1 ⟨rfl,rfl⟩
  go_wp2_with fail
  refine HBv.out.mono ?_
  rintro e w1 ⟨rfl,rfl⟩
  go_wp2_with fail
  go_ret
  exact ⟨ret_bool HE.out.symm,rfl⟩
 cases ic:inB c 0 24
 ·have he:r=false:=by rw [←HR.out];simp [triB,ic]
  have HE:=Lib.hid he;clear he HR
  rw [ia] at HA
  rw [ib] at HBv
  rw [ic] at HC
  clear ia ib ic
  go_enter Tryz.func83,Tryz.ntmps83
  go_wp2_with fail
  refine HA.out.mono ?_
  rintro e w1 ⟨rfl,rfl⟩
  go_wp2_with fail
  refine HBv.out.mono ?_
  rintro e w1 ⟨rfl,rfl⟩
  go_wp2_with fail
  refine HC.out.mono ?_
  rintro e w1 ⟨rfl,rfl⟩
  go_wp2_with fail
  go_ret
  exact ⟨ret_bool HE.out.symm,rfl⟩
 have ha:=inB_iff.1 ia
 have hb:=inB_iff.1 ib
 have hc:=inB_iff.1 ic
 have he:r=(decide ((a+b+c) % 2=0) && decide (a≤b+c) && decide (b≤a+c) && decide (c≤a+b)):=by rw [←HR.out];simp only [triB,ia,ib,ic,Bool.and_self,Bool.true_and]
 have HE:=Lib.hid he;clear he HR
 rw [ia] at HA;rw [ib] at HBv;rw [ic] at HC;clear ia ib ic
 have u1:IntKind.i64.wrap (a+b)=a+b:=IntWalk.i64_in _ (by omega)
 have u2:IntKind.i64.wrap (a+b+c)=a+b+c:=IntWalk.i64_in _ (by omega)
 have u3:IntKind.i64.wrap (b+c)=b+c:=IntWalk.i64_in _ (by omega)
 have u4:IntKind.i64.wrap (a+c)=a+c:=IntWalk.i64_in _ (by omega)
 go_enter Tryz.func83,Tryz.ntmps83
 go_wp2_with fail
 refine HA.out.mono ?_
 rintro e w1 ⟨rfl,rfl⟩
 go_wp2_with fail
 refine HBv.out.mono ?_
 rintro e w1 ⟨rfl,rfl⟩
 go_wp2_with fail
 refine HC.out.mono ?_
 rintro e w1 ⟨rfl,rfl⟩
 go_wp2_with fail
 all_goals
  go_ret
  refine ⟨ret_bool ?_,rfl⟩
  rw [HE.out]
  (simp_all <;> try omega)
theorem specLevelValid_all (t:T2) (j:Int) (w:World) :
 Calls Tryz.prog 59 #[.agg #[.int .i64 t.1,.int .i64 t.2,.int .i64 j]] w fun e w'=>e=.returned (.bool (lvB t j))∧Below w.heap.size w w':=by
 have HT:=Lib.hid (specTermValid_any t (w.alloc (.cells #[.int .i64 t.1,.int .i64 t.2,.int .i64 j] 31)))
 obtain ⟨r,hr⟩:∃r,lvB t j=r:=⟨_,rfl⟩
 rw [hr]
 have HR:=Lib.hid hr;clear hr
 have HB:=Lib.hid ((Below.refl w.heap.size w).alloc (Nat.le_refl _) (.cells #[.int .i64 t.1,.int .i64 t.2,.int .i64 j] 31))
 have HD:=Lib.hid (Blk.new w 31 #[.int .i64 t.1,.int .i64 t.2,.int .i64 j])
 cases hv:tvB t
 ·have he:r=false:=by rw [←HR.out];simp [lvB,hv]
  have HE:=Lib.hid he;clear he HR
  rw [hv] at HT;clear hv
  generalize t.1=s at *
  generalize t.2=l at *
  go_enter Tryz.func59,Tryz.ntmps59
  go_wp2_with fail
  refine HT.out.mono ?_
  rintro e w1 ⟨rfl,hb1⟩
  have HB1:=Lib.hid (HB.out.trans (hb1.mono HB.out.size));clear hb1
  go_wp2_with fail
  go_ret
  exact ⟨ret_bool HE.out.symm,HB1.out⟩
 have hb:=tvB_iff.1 hv
 have he:r=triB (2*t.2) t.1 j:=by rw [←HR.out];simp [lvB,hv]
 have HE:=Lib.hid he;clear he HR
 rw [hv] at HT;clear hv
 have HS:=Lib.hid (fun W=>specTriangle_all (2*t.2) t.1 j W)
 rw [←HE.out] at HS
 obtain ⟨s,l⟩:=t
 simp only at *
 clear HE
 go_enter Tryz.func59,Tryz.ntmps59
 go_wp2_with fail
 refine HT.out.mono ?_
 rintro e w1 ⟨rfl,hb1⟩
 have HB1:=Lib.hid (HB.out.trans (hb1.mono HB.out.size))
 obtain ⟨d1,d2,d3⟩:=Level3 (HD.out.sub hb1);clear hb1
 go_wp2_with fail
 refine (HS.out _).mono ?_
 rintro e w2 ⟨rfl,rfl⟩
 go_wp2_with fail
 go_ret
 exact ⟨rfl,HB1.out⟩
theorem specFactorOf_any (t:T2) (j:Int) (w:World) :
 Calls Tryz.prog 23 #[.agg #[.int .i64 t.1,.int .i64 t.2,.int .i64 j]] w fun e w'=>e=.returned (okV (facR t j))∧Below w.heap.size w w':=by
 have HV:=Lib.hid (fun W=>specLevelValid_all t j W)
 have HB:=Lib.hid (bel_alloc (bel_alloc (Below.refl w.heap.size w) (.cells #[.int .i64 t.1,.int .i64 t.2,.int .i64 j] 31)) (.cells #[.int .i64 0,.int .i64 0] 45))
 have HX:=Lib.hid ((Blk.new w 31 #[.int .i64 t.1,.int .i64 t.2,.int .i64 j]).alloc (.cells #[.int .i64 0,.int .i64 0] 45))
 have hy:=Blk.new (w.alloc (.cells #[.int .i64 t.1,.int .i64 t.2,.int .i64 j] 31)) 45 #[.int .i64 0,.int .i64 0]
 rw [World.size_alloc] at hy
 have HY:=Lib.hid hy;clear hy
 by_cases hok:lvB t j=true∧j≠0
 case neg =>
  have hr:facR t j=((0,0),false):=by unfold facR;rw [if_neg hok]
  have hk:lvB t j=false∨(lvB t j=true∧j=0):=by
   cases h:lvB t j
   ·exact .inl rfl
   ·exact .inr ⟨rfl,by rw [h] at hok;simpa using hok⟩
  rw [hr];clear hr hok
  unfold okV ratV
  obtain ⟨s,l⟩:=t
  rcases hk with hv | ⟨hv,hj⟩
  ·rw [hv] at HV;clear hv
   simp only at *
   go_enter Tryz.func23,Tryz.ntmps23
   go_wp2_with fail
   refine (HV.out _).mono ?_
   rintro e w1 ⟨rfl,hb1⟩
   have HY1:=Lib.hid (HY.out.sub hb1)
   have HB1:=Lib.hid (bel_sub HB.out hb1);clear hb1
   obtain ⟨y1,y2,f1,f2⟩:=blk2 HY1.out
   have HZ1:=Lib.hid ((HY1.out.set 0 (.int .i64 0)).set 1 (.int .i64 0))
   have HBZ:=Lib.hid (bel_set (g:=w.heap.size+1) (i:=1) (u:=.int .i64 0) (bel_set (g:=w.heap.size+1) (i:=0) (u:=.int .i64 0) HB1.out (by simp)) (by simp))
   go_wp2_with fail
   refine bodyPost_ret (results_ct0 rfl _ _ (w.heap.size+1) _ _ rfl HZ1.out Tryz.underlying45 rfl (by kernel_rfl)) rfl ?_
   exact ⟨rfl,HBZ.out⟩
  ·subst hj
   rw [hv] at HV;clear hv
   simp only at *
   go_enter Tryz.func23,Tryz.ntmps23
   go_wp2_with fail
   refine (HV.out _).mono ?_
   rintro e w1 ⟨rfl,hb1⟩
   have HY1:=Lib.hid (HY.out.sub hb1)
   have HB1:=Lib.hid (bel_sub HB.out hb1)
   obtain ⟨x1,x2,x3⟩:=Level3 (HX.out.sub hb1);clear hb1
   obtain ⟨y1,y2,f1,f2⟩:=blk2 HY1.out
   have HZ1:=Lib.hid ((HY1.out.set 0 (.int .i64 0)).set 1 (.int .i64 0))
   have HBZ:=Lib.hid (bel_set (g:=w.heap.size+1) (i:=1) (u:=.int .i64 0) (bel_set (g:=w.heap.size+1) (i:=0) (u:=.int .i64 0) HB1.out (by simp)) (by simp))
   go_wp2_with fail
   refine bodyPost_ret (results_ct0 rfl _ _ (w.heap.size+1) _ _ rfl HZ1.out Tryz.underlying45 rfl (by kernel_rfl)) rfl ?_
   exact ⟨rfl,HBZ.out⟩
 obtain ⟨hv,hj0⟩:=hok
 have hr:facR t j=ratOf (facN t j) (2*sq j):=by unfold facR;rw [if_pos ⟨hv,hj0⟩]
 have hb:=lvB_iff.1 hv
 have hb1:=tvB_iff.1 hb.1
 have hb2:=(triB_iff.1 hb.2).1
 rw [hr];rw [hv] at HV
 clear hr hv hb
 obtain ⟨s,l⟩:=t
 simp only at *
 have m1:=mul_bd (x:=j) (y:=j+2) (A:=24) (B:=26) (by omega) (by omega)
 have m2:=mul_bd (x:=s) (y:=s+2) (A:=8) (B:=10) (by omega) (by omega)
 have m3:=mul_bd (x:=2*l) (y:=2*l+2) (A:=16) (B:=18) (by omega) (by omega)
 have m4:0<j*(j+2):=Int.mul_pos (by omega) (by omega)
 have e0:(j==0)=false:=by simpa using hj0
 have HT:=Lib.hid (fun W=>l16Twice_any s l j W (by omega) (by omega) (by omega))
 have HQ:=Lib.hid (fun W=>l15Square_any j W (by omega) (by omega))
 have hn:-4000000000000000000≤facN (s,l) j∧facN (s,l) j≤4000000000000000000:=by unfold facN sq;simp only;omega
 have HR:=Lib.hid (fun W=>specRatOf_any (facN (s,l) j) (2*sq j) W (by unfold sq;omega) hn (by unfold sq;omega))
 obtain ⟨r,hr⟩:∃r,ratOf (facN (s,l) j) (2*sq j)=r:=⟨_,rfl⟩
 rw [hr] at HR ⊢
 rw [okV_form] at HR
 unfold sq at HR
 clear hr
 have u1:IntKind.i64.wrap (2*(j*(j+2)))=2*(j*(j+2)):=IntWalk.i64_in _ (by omega)
 generalize facN (s,l) j=N at *
 go_enter Tryz.func23,Tryz.ntmps23
 go_wp2_with fail
 refine (HV.out _).mono ?_
 rintro e w1 ⟨rfl,hc1⟩
 have HY1:=Lib.hid (HY.out.sub hc1)
 have HB1:=Lib.hid (bel_sub HB.out hc1)
 obtain ⟨x1,x2,x3⟩:=Level3 (HX.out.sub hc1)
 have k1:=After.cell x1
 have k2:=After.cell x2
 have k3:=After.cell x3
 clear hc1
 go_wp2_with fail
 obtain ⟨y1,y2,f1,f2⟩:=blk2 HY1.out
 have hlt:=HY1.out.lt
 go_region_held3 (fun w'=>w'.cell? ⟨w.heap.size,0,none⟩=some (.int .i64 s)∧w'.cell? ⟨w.heap.size,1,none⟩=some (.int .i64 l)∧w'.cell? ⟨w.heap.size,2,none⟩=some (.int .i64 j))
  (first | (refine ⟨?_,?_,?_⟩ <;> ((repeat (first | assumption | apply cell_past | rw [World.cell?_drew] | refine cell_sub hb9 ?_ | refine cell_sub hb8 ?_ | refine cell_far (by simp <;> omega) ?_));done)) | go_keep)
  (first | (go_at_call 61;refine (HT.out _).mono ?_;rintro e w8 ⟨rfl,hb8⟩) | (go_at_call 62;refine (HQ.out _).mono ?_;rintro e w' ⟨rfl,rfl⟩) | (go_at_call 60;refine (HR.out _).mono ?_;rintro e w9 ⟨rfl,hb9⟩;have hy9:=(HY1.out.drew.sub hb8).sub hb9;obtain ⟨y1,y2,f1,f2⟩:=blk2 hy9))
 all_goals
  have HZ:=Lib.hid ((hy9.set 0 (.int .i64 r.1.1)).set 1 (.int .i64 r.1.2))
  have HBZ:=Lib.hid (bel_set2 (g:=w.heap.size+1) (x:=.int .i64 r.1.1) (y:=.int .i64 r.1.2) (bel_sub (bel_sub (bel_drew HB1.out) hb8) hb9) (by simp))
  go_wp2_with fail
  refine bodyPost_ret (results_ct0 rfl _ _ (w.heap.size+1) _ _ rfl HZ.out Tryz.underlying45 rfl (by kernel_rfl)) rfl ?_
  exact ⟨rfl,HBZ.out⟩
end
section
open Go.RowKit
attribute [local go_sem ↓] Go.wp_at_zero Go.wp_at_succ
theorem itoaZ_any (n:Int) (w:World) (ht:Tab w) (h0:-1000000000≤n) (h1:n≤1000000000):Calls Tryz.prog 45 #[.int .i64 n] w fun e w'=>e=.returned (.string (bs (Lib.itoa n)))∧Below w.heap.size w w' :=
 (Tryz.strconv_Itoa n (by omega) (by omega) w ht.here).mono fun _ _ ⟨he,k,os,hw⟩=>⟨he,by rw [hw];exact below_grow' w k os⟩
theorem itoa_len {n:Int} (h0:-1000000000≤n) (h1:n≤1000000000):(Lib.itoa n).length≤11:=by
 unfold Lib.itoa
 split
 ·have:=dig_len 9 n.natAbs (by omega)
  simp only [List.length_cons];omega
 ·have:=dig_len 9 n.toNat (by omega)
  omega
def ratT (a:T2):List UInt8:=if rvB a=true then (if a.2=1 then Lib.itoa a.1 else Lib.itoa a.1++[47]++Lib.itoa a.2) else []
theorem ratT_len (a:T2):(ratT a).length≤23:=by
 unfold ratT
 split
 ·rename_i h
  have hb:=rvB_bd (a:=a.1) (b:=a.2) h
  have h1:=itoa_len (n:=a.1) (by omega) (by omega)
  have h2:=itoa_len (n:=a.2) (by omega) (by omega)
  split
  ·omega
  ·simp only [List.length_append,List.length_cons,List.length_nil];omega
 ·simp
theorem implRatText_any (a b:Int) (w:World) (ht:Tab w) :
 Calls Tryz.prog 24 #[.agg #[.int .i64 a,.int .i64 b]] w fun e w'=>e=.returned (.string (bs (ratT (a,b))))∧Below w.heap.size w w':=by
 have HV:=Lib.hid (fun W=>implRatValid_any a b W)
 have HB:=Lib.hid (bel_alloc (Below.refl w.heap.size w) (.cells #[.int .i64 a,.int .i64 b] 45))
 have HX:=Lib.hid (Blk.new w 45 #[.int .i64 a,.int .i64 b])
 have HT:=Lib.hid (fun W (hb:Below w.heap.size w W)=>ht.on hb);clear ht
 cases hv:rvB (a,b)
 ·have he:ratT (a,b)=[]:=by unfold ratT;rw [hv];simp
  rw [he,bs_nil];rw [hv] at HV;clear hv he
  go_enter Tryz.func24,Tryz.ntmps24
  go_wp2_with fail
  refine (HV.out _).mono ?_
  rintro e w1 ⟨rfl,hb1⟩
  have HB1:=Lib.hid (bel_sub HB.out hb1);clear hb1
  go_wp2_with fail
  go_ret
  exact ⟨rfl,HB1.out⟩
 have hbd:=rvB_bd hv
 rw [hv] at HV
 by_cases h1:b=1
 ·have he:ratT (a,b)=Lib.itoa a:=by unfold ratT;rw [hv,if_pos rfl,if_pos h1]
  rw [he];clear hv he
  subst h1
  have HI:=Lib.hid (fun W (hW:Tab W)=>itoaZ_any a W hW (by omega) (by omega))
  go_enter Tryz.func24,Tryz.ntmps24
  go_wp2_with fail
  refine (HV.out _).mono ?_
  rintro e w1 ⟨rfl,hb1⟩
  have HB1:=Lib.hid (bel_sub HB.out hb1)
  obtain ⟨x1,x2,_,_⟩:=blk2 (HX.out.sub hb1);clear hb1
  go_wp2_with fail
  refine (HI.out _ (HT.out _ HB1.out)).mono ?_
  rintro e w2 ⟨rfl,hb2⟩
  have HB2:=Lib.hid (bel_sub HB1.out hb2);clear hb2
  go_wp2_with fail
  go_ret
  exact ⟨rfl,HB2.out⟩
 ·have he:ratT (a,b)=Lib.itoa a++[47]++Lib.itoa b:=by unfold ratT;rw [hv,if_pos rfl,if_neg h1]
  rw [he,←bs_append,←bs_append];clear hv he
  have e1:(b==1)=false:=by simpa using h1
  have HI:=Lib.hid (fun n W (hW:Tab W) h0 h1=>itoaZ_any n W hW h0 h1)
  have hz1:(bs (Lib.itoa a)).size≤11:=by rw [bs_size];exact itoa_len (by omega) (by omega)
  have hz2:(bs (Lib.itoa b)).size≤11:=by rw [bs_size];exact itoa_len (by omega) (by omega)
  have hs47:bs [47]=⟨#[47]⟩:=rfl
  rw [hs47];clear hs47
  go_enter Tryz.func24,Tryz.ntmps24
  go_wp2_with fail
  refine (HV.out _).mono ?_
  rintro e w1 ⟨rfl,hb1⟩
  have HB1:=Lib.hid (bel_sub HB.out hb1)
  obtain ⟨x1,x2,_,_⟩:=blk2 (HX.out.sub hb1);clear hb1
  have k1:=After.cell x1
  have k2:=After.cell x2
  have HTA:=Lib.hid (fun p:After w1=>HT.out p.w' (bel_sub HB1.out p.below))
  go_wp2_with fail
  refine wp_region_after (by kernel_rfl) (by kernel_rfl) ?_
  repeat (go_big_quiet_step ((go_at_call 45;exact after_call _ (HI.out _ _ (HTA.out _) (by omega) (by omega)))))
  refine wpQuiet_nil ?_
  intro w9 hw'
  obtain ⟨⟨w9',hb9⟩,hw''⟩:=hw'
  subst hw''
  have HB9:=Lib.hid (bel_sub HB1.out hb9);clear hb9
  go_wp2_with fail
  go_ret
  exact ⟨rfl,HB9.out⟩
end
section
open Go.RowKit
attribute [local go_sem ↓] Go.wp_at_zero Go.wp_at_succ
def lvJ (t:T2) (r:List UInt8):Option Int:=(lvJs t).find? fun j=>decide (spT j=r)
def lvF (s:List UInt8):(T2 × Int) × Bool:=if 3≤s.length∧(tmF (s.take 2)).2=true then (match lvJ (tmF (s.take 2)).1 (s.drop 2) with
 | some j=>(((tmF (s.take 2)).1,j),true)
 | none=>(((0,0),0),false)) else (((0,0),0),false)
def lvV (r:(T2 × Int) × Bool):Value:=.tuple #[.agg #[.int .i64 r.1.1.1,.int .i64 r.1.1.2,.int .i64 r.1.2],.bool r.2]
theorem bs_extract (l:List UInt8) (a b:Nat):(bs l).extract a b=bs ((l.drop a).take (b-a)):=by
 apply ByteArray.ext
 simp [bs,ByteArray.data_extract]
theorem sl_head (s:List UInt8) (k:Nat) (hk:k≤s.length) (W:World):(Instr.slice 9 (.string (bs s)) none (some (.int .i64 (k:Int))) none).run Tryz.prog W=.ok (.string (bs (s.take k))) W:=by
 rw [run_slice_string_h (ht:=Tryz.underlying9) (h0:=by omega) (h2:=by rw [bs_size];omega),Int.toNat_natCast,bs_extract,List.drop_zero,Nat.sub_zero]
theorem sl_tail (s:List UInt8) (k:Nat) (hk:k≤s.length) (W:World):(Instr.slice 9 (.string (bs s)) (some (.int .i64 (k:Int))) none none).run Tryz.prog W=.ok (.string (bs (s.drop k))) W:=by
 rw [run_slice_string_l (ht:=Tryz.underlying9) (h0:=by omega) (h1:=by rw [bs_size];omega),Int.toNat_natCast,bs_extract,List.take_of_length_le (by rw [bs_size,List.length_drop];exact Nat.le_refl _)]
theorem results_ct3 {P:Program} {fn:Func} {p t1:Tmp} {ty:TypeId} {cs:Array Value} (h:fn.results=#[.cell p ty,.tmp t1]) (tmps:Array Value) (w:World) (g:Nat) (t:TypeId) (d:TypeDesc)
 (hp:tmps.getD p undef=.pointer (some ⟨g,0,none⟩)) (hg:Blk w g t cs)
 (hu:P.underlying ty=some d) (hd:(match d with | .struct _ | .array _ _=>true | _=>false)=true) (hi:(P.info? ty).map (·.size)=some cs.size) :
 (results fn tmps).run P w=.ok (.tuple #[.agg cs,tmps.getD t1 undef]) w:=results_ct0 h tmps w g t d hp hg hu hd hi
theorem find_take {js:List Int} {p:Int→Bool} {k:Nat} (h:∀j∈js.take k,p j=false) {j:Int} (hj:js[k]?=some j) (hp:p j=true):js.find? p=some j:=by
 induction js generalizing k with
 | nil=>simp at hj
 | cons x js ih =>
  cases k with
  | zero=>simp at hj;subst hj;simp [hp]
  | succ k =>
   have hx:=h x (by simp)
   rw [List.find?_cons,hx]
   exact ih (k:=k) (fun i hi=>h i (by rw [List.take_succ_cons];exact List.mem_cons_of_mem _ hi)) (by simpa using hj)
theorem LevelFrom_all (s:List UInt8) (w:World) (hl:s.length≤1000000) :
 Calls Tryz.prog 157 #[.string (bs s)] w fun e w'=>e=.returned (lvV (lvF s))∧Below w.heap.size w w':=by
 have HB0:=Lib.hid (bel_alloc (Below.refl w.heap.size w) (.cells #[.int .i64 0,.int .i64 0,.int .i64 0] 31))
 have HX0:=Lib.hid (Blk.new w 31 #[.int .i64 0,.int .i64 0,.int .i64 0])
 have hzs:(bs s).size≤1000000:=by rw [bs_size];exact hl
 by_cases hn:3≤s.length
 case neg =>
  have he:lvF s=(((0,0),0),false):=by unfold lvF;rw [if_neg (fun h=>hn h.1)]
  have hn2:(bs s).size<3:=by rw [bs_size];omega
  rw [he];clear he hn
  unfold lvV
  generalize bs s=X at *
  go_enter Tryz.func157,Tryz.ntmps157
  go_wp2_with fail
  refine bodyPost_ret (results_ct3 rfl _ _ w.heap.size _ _ rfl HX0.out Tryz.underlying31 rfl (by kernel_rfl)) rfl ?_
  exact ⟨rfl,HB0.out⟩
 have hn2:3≤(bs s).size:=by rw [bs_size];exact hn
 have HTF:=Lib.hid (fun W=>TermFrom_all (s.take 2) W (by rw [List.length_take];omega))
 have HS1:=Lib.hid (sl_head s 2 (by omega))
 have HS2:=Lib.hid (sl_tail s 2 (by omega))
 obtain ⟨r,hr⟩:∃r,tmF (s.take 2)=r:=⟨_,rfl⟩
 rw [hr] at HTF
 have HE0:Hid (lvF s=if r.2=true then (match lvJ r.1 (s.drop 2) with | some j=>((r.1,j),true) | none=>(((0,0),0),false)) else (((0,0),0),false)):=by
  unfold Hid lvF
  rw [hr]
  cases r.2
  ·rw [if_neg (by simp),if_neg (by simp)]
  ·rw [if_pos ⟨hn,rfl⟩,if_pos rfl]
 rw [HE0.out];clear HE0 hr hn hl
 obtain ⟨⟨a,b⟩,ok⟩:=r
 unfold tmV at HTF
 simp only at HTF
 cases ok
 ·rw [if_neg (by simp)]
  unfold lvV
  generalize bs s=X at *
  generalize bs (s.take 2)=Y at *
  have hs1:∀W:World,(Instr.slice 9 (.string X) none (some (.int .i64 2)) none).run Tryz.prog W=.ok (.string Y) W:=fun W=>HS1.out W
  go_enter Tryz.func157,Tryz.ntmps157
  go_wp2_with fail
  refine (HTF.out _).mono ?_
  rintro e w1 ⟨rfl,hb1⟩
  have HX1:=Lib.hid (HX0.out.sub hb1)
  have HB1:=Lib.hid (bel_sub HB0.out hb1)
  have hlt:=HX1.out.lt
  obtain ⟨x1,x2,x3,f1,f2,f3⟩:=blk3 HX1.out
  clear hb1
  have HZ:=Lib.hid ((((HX1.out.set 0 (.int .i64 0)).set 1 (.int .i64 0)).set 2 (.int .i64 0)).alloc (.cells #[.int .i64 a,.int .i64 b] 24))
  have HBZ:=Lib.hid (bel_alloc (bel_set (g:=w.heap.size) (i:=2) (u:=.int .i64 0) (bel_set2 (g:=w.heap.size) (x:=.int .i64 0) (y:=.int .i64 0) HB1.out (Nat.le_refl _)) (Nat.le_refl _)) (.cells #[.int .i64 a,.int .i64 b] 24))
  go_wp2_with fail
  refine bodyPost_ret (results_ct3 rfl _ _ w.heap.size _ _ rfl HZ.out Tryz.underlying31 rfl (by kernel_rfl)) rfl ?_
  exact ⟨rfl,HBZ.out⟩
 ·rw [if_pos rfl]
  have HLO:=Lib.hid (fun W=>implLevelsOf_any (a,b) W)
  have HSP:=Lib.hid (fun j W=>implSpinText_any j W)
  have HBE:=Lib.hid (fun j=>bs_eq (spT j) (s.drop 2))
  have hzz:∀j,(bs (spT j)).size≤9:=fun j=>by rw [bs_size];exact spT_len j
  have HZZ:=Lib.hid hzz;clear hzz
  unfold LevelsPost at HLO
  have hlv:lvJ (a,b) (s.drop 2)=(lvJs (a,b)).find? fun j=>decide (spT j=s.drop 2):=rfl
  rw [hlv];clear hlv
  have hlen:(lvJs (a,b)).length≤1000:=by
   cases hv:tvB (a,b)
   ·unfold lvJs;rw [hv];simp
   ·exact Nat.le_trans (lv_len hv).2 (by omega)
  obtain ⟨js,hjs⟩:∃js,lvJs (a,b)=js:=⟨_,rfl⟩
  obtain ⟨n,hnn⟩:∃n,js.length=n:=⟨_,rfl⟩
  rw [hjs] at HLO hlen ⊢
  rw [hnn] at HLO hlen
  have HN:=Lib.hid hnn;clear hjs hnn
  obtain ⟨R,hR⟩:∃R,s.drop 2=R:=⟨_,rfl⟩
  rw [hR] at HBE ⊢
  obtain ⟨rv,hrv⟩:∃rv:(T2 × Int) × Bool,(match js.find? fun j=>decide (spT j=R) with | some j=>(((a,b),j),true) | none=>(((0,0),0),false))=rv:=⟨_,rfl⟩
  have HRV:=Lib.hid hrv
  rw [hrv];clear hrv
  have hzr:(bs (s.drop 2)).size≤1000000:=by rw [bs_size,List.length_drop];rw [bs_size] at hzs;omega
  have HS3:Hid (∀W:World,(Instr.slice 9 (.string (bs s)) (some (.int .i64 2)) none none).run Tryz.prog W=.ok (.string (bs R)) W):=fun W=>by have:=HS2.out W;rw [hR] at this;exact this
  rw [hR] at hzr
  clear HS2 hR
  generalize bs s=X at *
  generalize bs (s.take 2)=Y at *
  have hs1:∀W:World,(Instr.slice 9 (.string X) none (some (.int .i64 2)) none).run Tryz.prog W=.ok (.string Y) W:=fun W=>HS1.out W
  go_enter Tryz.func157,Tryz.ntmps157
  go_wp2_with fail
  refine (HTF.out _).mono ?_
  rintro e w1 ⟨rfl,hb1⟩
  clear hs1 HS1
  have HX1:=Lib.hid ((HX0.out.sub hb1).alloc (.cells #[.int .i64 a,.int .i64 b] 24))
  have HB1:=Lib.hid (bel_alloc (bel_sub HB0.out hb1) (.cells #[.int .i64 a,.int .i64 b] 24))
  have HT1:=Lib.hid (Blk.new w1 24 #[.int .i64 a,.int .i64 b])
  clear hb1 HX0 HB0
  go_wp2_with fail
  refine (HLO.out _).mono ?_
  rintro e w2 ⟨⟨A,c,rfl,hr2⟩,hb2⟩
  have HX2:=Lib.hid (HX1.out.sub hb2)
  have HB2:=Lib.hid (bel_sub HB1.out hb2)
  have HR2:=Lib.hid (own_reads hr2)
  have hlt:=HX2.out.lt
  clear hb2 HX1 HB1 hr2 HT1 HLO HTF
  go_wp2_with fail
  go_loopw [24] (fun i wr=>∃(k:Nat),k≤n∧i=.int .i64 k∧Hid (Below w2.heap.size w2 wr)∧Hid (∀j∈js.take k,decide (spT j=R)=false)) (fun i _=>n-(RowKit.intOf i).toNat)
  case atStart=>exact ⟨0,Nat.zero_le _,rfl,Below.refl _ _,fun j hj=>by simp at hj⟩
  case round =>
   obtain ⟨k,hk,rfl,HB,HNO⟩:=hrel
   by_cases hlt':k<n
   ·obtain ⟨b',off,j,rfl,hb',r1,r2,r3,hg⟩:=(HR2.out.below HB.out).lev HN.out hlt'
    have HG:=Lib.hid hg;clear hg
    have i1:(k:Int)<(n:Int):=by omega
    have i0:(0:Int)≤(k:Int):=by omega
    have hz1:=HZZ.out j
    have hsp:=fun W=>HSP.out j W
    have HQ:=Lib.hid hsp;clear hsp
    obtain ⟨q,hq⟩:∃q:Bool,decide (spT j=R)=q:=⟨_,rfl⟩
    have hbe:=HBE.out j
    rw [hq] at hbe
    have HQE:=Lib.hid hq;clear hq
    generalize bs (spT j)=D at *
    have HBW:=Lib.hid (bel_sub HB2.out HB.out)
    have HXW:=Lib.hid (HX2.out.sub HB.out)
    have HB3:=Lib.hid (bel_alloc HBW.out (.cells #[.int .i64 a,.int .i64 b,.int .i64 j] 31))
    have HX3:=Lib.hid (HXW.out.alloc (.cells #[.int .i64 a,.int .i64 b,.int .i64 j] 31))
    have HBR:=Lib.hid (HB.out.alloc HB.out.size (.cells #[.int .i64 a,.int .i64 b,.int .i64 j] 31))
    obtain ⟨y1,y2,y3⟩:=Level3 (Blk.new wr 31 #[.int .i64 a,.int .i64 b,.int .i64 j])
    have k3:=After.cell y3
    have HY:=Lib.hid (Blk.new wr 31 #[.int .i64 a,.int .i64 b,.int .i64 j])
    have hs3:=HS3.out
    go_wp2_with fail
    refine wp_region_after (by kernel_rfl) (by kernel_rfl) ?_
    repeat (go_big_quiet_step ((go_at_call 40;exact after_same _ (HQ.out _))))
    refine wpQuiet_nil ?_
    intro w9 hw'
    obtain ⟨⟨w9',hb9⟩,hw''⟩:=hw'
    subst hw''
    have HX9:=Lib.hid (HX3.out.sub hb9)
    have HY9:=Lib.hid (HY.out.sub hb9)
    have HB9:=Lib.hid (bel_sub HB3.out hb9)
    have HBR9:=Lib.hid (bel_sub HBR.out hb9)
    clear hb9 y1 y2 y3 k3 hs3
    cases q
    ·have HNN:Hid (∀j∈js.take (k+1),decide (spT j=R)=false):=by
      intro i hi
      have hkl:k<js.length:=by rw [HN.out];exact hlt'
      rw [List.take_succ_eq_append_getElem hkl] at hi
      rcases List.mem_append.1 hi with hi | hi
      ·exact HNO.out i hi
      ·have:js[k]=j:=by have:=HG.out;rw [List.getElem?_eq_getElem hkl] at this;injection this
       simp only [List.mem_singleton] at hi
       rw [hi,this];exact HQE.out
     go_wp2_with fail
     go_roundw
     case rel=>exact ⟨k+1,by omega,by go_num,HBR9.out,HNN.out⟩
     case measure=>simp [RowKit.intOf];omega
    ·have HF:Hid (js.find? (fun j=>decide (spT j=R))=some j):=find_take (k:=k) HNO.out HG.out HQE.out
     obtain ⟨y1,y2,y3⟩:=Level3 HY9.out
     obtain ⟨x1,x2,x3,f1,f2,f3⟩:=blk3 HX9.out
     have HZ:=Lib.hid (((HX9.out.set 0 (.int .i64 a)).set 1 (.int .i64 b)).set 2 (.int .i64 j))
     have HBZ:=Lib.hid (bel_set (g:=w.heap.size) (i:=2) (u:=.int .i64 j) (bel_set2 (g:=w.heap.size) (x:=.int .i64 a) (y:=.int .i64 b) HB9.out (Nat.le_refl _)) (Nat.le_refl _))
     go_wp2_with fail
     refine bodyPost_ret (results_ct3 rfl _ _ w.heap.size _ _ rfl HZ.out Tryz.underlying31 rfl (by kernel_rfl)) rfl ?_
     exact ⟨by rw [←HRV.out,HF.out];rfl,HBZ.out⟩
   ·obtain rfl:k=n:=by omega
    have HF:Hid (js.find? (fun j=>decide (spT j=R))=none):=by
     refine List.find?_eq_none.2 fun j hj=>?_
     have:=HNO.out j (by rw [List.take_of_length_le (by rw [HN.out];exact Nat.le_refl _)];exact hj)
     rw [this];simp
    have HX9:=Lib.hid (HX2.out.sub HB.out)
    have HB9:=Lib.hid (bel_sub HB2.out HB.out)
    obtain ⟨x1,x2,x3,f1,f2,f3⟩:=blk3 HX9.out
    have HZ:=Lib.hid (((HX9.out.set 0 (.int .i64 0)).set 1 (.int .i64 0)).set 2 (.int .i64 0))
    have HBZ:=Lib.hid (bel_set (g:=w.heap.size) (i:=2) (u:=.int .i64 0) (bel_set2 (g:=w.heap.size) (x:=.int .i64 0) (y:=.int .i64 0) HB9.out (Nat.le_refl _)) (Nat.le_refl _))
    go_wp2_with fail
    refine bodyPost_ret (results_ct3 rfl _ _ w.heap.size _ _ rfl HZ.out Tryz.underlying31 rfl (by kernel_rfl)) rfl ?_
    exact ⟨by rw [←HRV.out,HF.out];rfl,HBZ.out⟩
end
end
end Go.Proofs.YtlgdndnaiogooaaGreatDoor
