/- Parts of the proof of : SpA. -/
import Derived.Test.YtlgdndnaiogooaaGreatDoorQ27
import Derived.Test.YtlgdndnaiogooaaGreatDoorQ35
set_option maxHeartbeats 20000000
set_option maxRecDepth 1000000
set_option linter.unusedSimpArgs false
set_option linter.unusedVariables false
namespace Go.Proofs.YtlgdndnaiogooaaGreatDoor
section
section
open Go.RowKit
attribute [local go_sem ↓] Go.wp_at_zero Go.wp_at_succ
def addB (a b:T2):T2 × Bool:=if (rvB a && rvB b)=true then ratOf (a.1*b.2+b.1*a.2) (a.2*b.2) else ((0,0),false)
def mulB (a b:T2):T2 × Bool:=if (rvB a && rvB b)=true then ratOf (a.1*b.1) (a.2*b.2) else ((0,0),false)
theorem implRatAdd_any (a b c d:Int) (w:World) :
 Calls Tryz.prog 143 #[.agg #[.int .i64 a,.int .i64 b],.agg #[.int .i64 c,.int .i64 d]] w fun e w'=>e=.returned (okV (addB (a,b) (c,d)))∧Below w.heap.size w w':=by
 obtain ⟨W,hW⟩:∃W,W=((w.alloc (.cells #[.int .i64 a,.int .i64 b] 45)).alloc (.cells #[.int .i64 c,.int .i64 d] 45)).alloc (.cells #[.int .i64 0,.int .i64 0] 45):=⟨_,rfl⟩
 have HB1:Hid (Below w.heap.size w W):=by rw [hW];exact (((Below.refl w.heap.size w).alloc (Nat.le_refl _) _).alloc (by simp) _).alloc (by simp;omega) _
 have HX:Hid (Blk W w.heap.size 45 #[.int .i64 a,.int .i64 b]):=by rw [hW];exact ((Blk.new w _ _).alloc _).alloc _
 have HY:Hid (Blk W (w.heap.size+1) 45 #[.int .i64 c,.int .i64 d]):=by rw [hW];have:=(Blk.new (w.alloc (.cells #[.int .i64 a,.int .i64 b] 45)) 45 #[.int .i64 c,.int .i64 d]).alloc (.cells #[.int .i64 0,.int .i64 0] 45);rwa [World.size_alloc] at this
 have HD:Hid (Blk W (w.heap.size+1+1) 45 #[.int .i64 0,.int .i64 0]):=by rw [hW];have:=Blk.new ((w.alloc (.cells #[.int .i64 a,.int .i64 b] 45)).alloc (.cells #[.int .i64 c,.int .i64 d] 45)) 45 #[.int .i64 0,.int .i64 0];rwa [World.size_alloc,World.size_alloc] at this
 have hsW:w.heap.size+1+1+1=W.heap.size:=by rw [hW];simp
 have HW:=Lib.hid hW;clear hW
 have H1:=Lib.hid (fun W=>implRatValid_any a b W)
 have H2:=Lib.hid (fun W=>implRatValid_any c d W)
 obtain ⟨r,hr⟩:∃r,addB (a,b) (c,d)=r:=⟨_,rfl⟩
 rw [hr]
 have HR:=Lib.hid hr;clear hr
 cases v1:rvB (a,b)
 ·have he:r=((0,0),false):=by rw [←HR.out];simp [addB,v1]
  have HE:=Lib.hid he;clear he HR
  rw [v1] at H1
  clear v1
  go_enter Tryz.func143,Tryz.ntmps143
  go_wp2_with fail
  rw [←HW.out]
  refine (H1.out _).mono ?_
  rintro e w1 ⟨rfl,hb1⟩
  have HB2:=Lib.hid (HB1.out.trans (hb1.mono HB1.out.size))
  have HD1:=Lib.hid (HD.out.sub hb1);clear hb1
  obtain ⟨y1,y2,y3,y4⟩:=blk2 HD1.out
  have HZ:=Lib.hid ((HD1.out.set 0 (.int .i64 0)).set 1 (.int .i64 0))
  have HB4:=Lib.hid ((HB2.out.setCell (p:=⟨w.heap.size+1+1,0,none⟩) (by simp;omega) (.int .i64 0)).setCell (p:=⟨w.heap.size+1+1,1,none⟩) (by simp;omega) (.int .i64 0))
  go_wp2_with fail
  refine bodyPost_ret (results_rat_tmp rfl _ _ (w.heap.size+1+1) _ _ rfl HZ.out Tryz.underlying45 rfl (by kernel_rfl)) rfl ?_
  exact ⟨by rw [HE.out];rfl,HB4.out⟩
 rw [v1] at H1
 cases v2:rvB (c,d)
 ·have he:r=((0,0),false):=by rw [←HR.out];simp [addB,v2]
  have HE:=Lib.hid he;clear he HR
  rw [v2] at H2
  clear v1 v2
  go_enter Tryz.func143,Tryz.ntmps143
  go_wp2_with fail
  rw [←HW.out]
  refine (H1.out _).mono ?_
  rintro e w1 ⟨rfl,hb1⟩
  have HB2:=Lib.hid (HB1.out.trans (hb1.mono HB1.out.size))
  have HD1:=Lib.hid (HD.out.sub hb1)
  obtain ⟨x1,x2,_,_⟩:=blk2 (HY.out.sub hb1)
  clear hb1
  go_wp2_with fail
  refine (H2.out _).mono ?_
  rintro e w2 ⟨rfl,hb2⟩
  have HB3:=Lib.hid (HB2.out.trans (hb2.mono HB2.out.size))
  have HD2:=Lib.hid (HD1.out.sub hb2)
  clear hb2 x1 x2
  obtain ⟨y1,y2,y3,y4⟩:=blk2 HD2.out
  have HZ:=Lib.hid ((HD2.out.set 0 (.int .i64 0)).set 1 (.int .i64 0))
  have HB4:=Lib.hid ((HB3.out.setCell (p:=⟨w.heap.size+1+1,0,none⟩) (by simp;omega) (.int .i64 0)).setCell (p:=⟨w.heap.size+1+1,1,none⟩) (by simp;omega) (.int .i64 0))
  go_wp2_with fail
  refine bodyPost_ret (results_rat_tmp rfl _ _ (w.heap.size+1+1) _ _ rfl HZ.out Tryz.underlying45 rfl (by kernel_rfl)) rfl ?_
  exact ⟨by rw [HE.out];rfl,HB4.out⟩
 rw [v2] at H2
 have e1:=rvB_bd v1
 have e2:=rvB_bd v2
 have he:r=ratOf (a*d+c*b) (b*d):=by rw [←HR.out];simp [addB,v1,v2]
 have HE:=Lib.hid he;clear he HR v1 v2
 have m1:=mul_bd (A:=1000000000) (B:=1000000000) (x:=a) (y:=d) (by omega) (by omega)
 have m2:=mul_bd (A:=1000000000) (B:=1000000000) (x:=c) (y:=b) (by omega) (by omega)
 have m3:=mul_bd (A:=1000000000) (B:=1000000000) (x:=b) (y:=d) (by omega) (by omega)
 have HRO:=Lib.hid (fun W=>implRatOf_any (a*d+c*b) (b*d) W)
 generalize hrr:ratOf (a*d+c*b) (b*d)=rr at *
 go_enter Tryz.func143,Tryz.ntmps143
 go_wp2_with fail
 rw [←HW.out]
 refine (H1.out _).mono ?_
 rintro e w1 ⟨rfl,hb1⟩
 have HB2:=Lib.hid (HB1.out.trans (hb1.mono HB1.out.size))
 have HX1:=Lib.hid (HX.out.sub hb1)
 have HY1:=Lib.hid (HY.out.sub hb1)
 have HD1:=Lib.hid (HD.out.sub hb1)
 clear hb1
 obtain ⟨x1,x2,_,_⟩:=blk2 HY1.out
 go_wp2_with fail
 refine (H2.out _).mono ?_
 rintro e w2 ⟨rfl,hb2⟩
 have HB3:=Lib.hid (HB2.out.trans (hb2.mono HB2.out.size))
 have HX2:=Lib.hid (HX1.out.sub hb2)
 have HY2:=Lib.hid (HY1.out.sub hb2)
 have HD2:=Lib.hid (HD1.out.sub hb2)
 clear hb2 x1 x2
 obtain ⟨x1,x2,_,_⟩:=blk2 HY2.out
 obtain ⟨z1,z2,_,_⟩:=blk2 HX2.out
 go_wp2_with fail
 refine (HRO.out _).mono ?_
 rintro e w3 ⟨rfl,hb3⟩
 rw [okV_form]
 have HB5:=Lib.hid (HB3.out.trans (hb3.mono HB3.out.size))
 have HD3:=Lib.hid (HD2.out.sub hb3)
 clear hb3 x1 x2 z1 z2
 obtain ⟨y1,y2,y3,y4⟩:=blk2 HD3.out
 have HZ:=Lib.hid ((HD3.out.set 0 (.int .i64 rr.1.1)).set 1 (.int .i64 rr.1.2))
 have HB4:=Lib.hid ((HB5.out.setCell (p:=⟨w.heap.size+1+1,0,none⟩) (by simp;omega) (.int .i64 rr.1.1)).setCell (p:=⟨w.heap.size+1+1,1,none⟩) (by simp;omega) (.int .i64 rr.1.2))
 go_wp2_with fail
 refine bodyPost_ret (results_rat_tmp rfl _ _ (w.heap.size+1+1) _ _ rfl HZ.out Tryz.underlying45 rfl (by kernel_rfl)) rfl ?_
 exact ⟨by rw [HE.out];rfl,HB4.out⟩
theorem implRatMul_any (a b c d:Int) (w:World) :
 Calls Tryz.prog 115 #[.agg #[.int .i64 a,.int .i64 b],.agg #[.int .i64 c,.int .i64 d]] w fun e w'=>e=.returned (okV (mulB (a,b) (c,d)))∧Below w.heap.size w w':=by
 obtain ⟨W,hW⟩:∃W,W=((w.alloc (.cells #[.int .i64 a,.int .i64 b] 45)).alloc (.cells #[.int .i64 c,.int .i64 d] 45)).alloc (.cells #[.int .i64 0,.int .i64 0] 45):=⟨_,rfl⟩
 have HB1:Hid (Below w.heap.size w W):=by rw [hW];exact (((Below.refl w.heap.size w).alloc (Nat.le_refl _) _).alloc (by simp) _).alloc (by simp;omega) _
 have HX:Hid (Blk W w.heap.size 45 #[.int .i64 a,.int .i64 b]):=by rw [hW];exact ((Blk.new w _ _).alloc _).alloc _
 have HY:Hid (Blk W (w.heap.size+1) 45 #[.int .i64 c,.int .i64 d]):=by rw [hW];have:=(Blk.new (w.alloc (.cells #[.int .i64 a,.int .i64 b] 45)) 45 #[.int .i64 c,.int .i64 d]).alloc (.cells #[.int .i64 0,.int .i64 0] 45);rwa [World.size_alloc] at this
 have HD:Hid (Blk W (w.heap.size+1+1) 45 #[.int .i64 0,.int .i64 0]):=by rw [hW];have:=Blk.new ((w.alloc (.cells #[.int .i64 a,.int .i64 b] 45)).alloc (.cells #[.int .i64 c,.int .i64 d] 45)) 45 #[.int .i64 0,.int .i64 0];rwa [World.size_alloc,World.size_alloc] at this
 have hsW:w.heap.size+1+1+1=W.heap.size:=by rw [hW];simp
 have HW:=Lib.hid hW;clear hW
 have H1:=Lib.hid (fun W=>implRatValid_any a b W)
 have H2:=Lib.hid (fun W=>implRatValid_any c d W)
 obtain ⟨r,hr⟩:∃r,mulB (a,b) (c,d)=r:=⟨_,rfl⟩
 rw [hr]
 have HR:=Lib.hid hr;clear hr
 cases v1:rvB (a,b)
 ·have he:r=((0,0),false):=by rw [←HR.out];simp [mulB,v1]
  have HE:=Lib.hid he;clear he HR
  rw [v1] at H1
  clear v1
  go_enter Tryz.func115,Tryz.ntmps115
  go_wp2_with fail
  rw [←HW.out]
  refine (H1.out _).mono ?_
  rintro e w1 ⟨rfl,hb1⟩
  have HB2:=Lib.hid (HB1.out.trans (hb1.mono HB1.out.size))
  have HD1:=Lib.hid (HD.out.sub hb1);clear hb1
  obtain ⟨y1,y2,y3,y4⟩:=blk2 HD1.out
  have HZ:=Lib.hid ((HD1.out.set 0 (.int .i64 0)).set 1 (.int .i64 0))
  have HB4:=Lib.hid ((HB2.out.setCell (p:=⟨w.heap.size+1+1,0,none⟩) (by simp;omega) (.int .i64 0)).setCell (p:=⟨w.heap.size+1+1,1,none⟩) (by simp;omega) (.int .i64 0))
  go_wp2_with fail
  refine bodyPost_ret (results_rat_tmp rfl _ _ (w.heap.size+1+1) _ _ rfl HZ.out Tryz.underlying45 rfl (by kernel_rfl)) rfl ?_
  exact ⟨by rw [HE.out];rfl,HB4.out⟩
 rw [v1] at H1
 cases v2:rvB (c,d)
 ·have he:r=((0,0),false):=by rw [←HR.out];simp [mulB,v2]
  have HE:=Lib.hid he;clear he HR
  rw [v2] at H2
  clear v1 v2
  go_enter Tryz.func115,Tryz.ntmps115
  go_wp2_with fail
  rw [←HW.out]
  refine (H1.out _).mono ?_
  rintro e w1 ⟨rfl,hb1⟩
  have HB2:=Lib.hid (HB1.out.trans (hb1.mono HB1.out.size))
  have HD1:=Lib.hid (HD.out.sub hb1)
  obtain ⟨x1,x2,_,_⟩:=blk2 (HY.out.sub hb1)
  clear hb1
  go_wp2_with fail
  refine (H2.out _).mono ?_
  rintro e w2 ⟨rfl,hb2⟩
  have HB3:=Lib.hid (HB2.out.trans (hb2.mono HB2.out.size))
  have HD2:=Lib.hid (HD1.out.sub hb2)
  clear hb2 x1 x2
  obtain ⟨y1,y2,y3,y4⟩:=blk2 HD2.out
  have HZ:=Lib.hid ((HD2.out.set 0 (.int .i64 0)).set 1 (.int .i64 0))
  have HB4:=Lib.hid ((HB3.out.setCell (p:=⟨w.heap.size+1+1,0,none⟩) (by simp;omega) (.int .i64 0)).setCell (p:=⟨w.heap.size+1+1,1,none⟩) (by simp;omega) (.int .i64 0))
  go_wp2_with fail
  refine bodyPost_ret (results_rat_tmp rfl _ _ (w.heap.size+1+1) _ _ rfl HZ.out Tryz.underlying45 rfl (by kernel_rfl)) rfl ?_
  exact ⟨by rw [HE.out];rfl,HB4.out⟩
 rw [v2] at H2
 have e1:=rvB_bd v1
 have e2:=rvB_bd v2
 have he:r=ratOf (a*c) (b*d):=by rw [←HR.out];simp [mulB,v1,v2]
 have HE:=Lib.hid he;clear he HR v1 v2
 have m1:=mul_bd (A:=1000000000) (B:=1000000000) (x:=a) (y:=c) (by omega) (by omega)
 have m2:=mul_bd (A:=1000000000) (B:=1000000000) (x:=b) (y:=d) (by omega) (by omega)
 have m3:=mul_bd (A:=1000000000) (B:=1000000000) (x:=b) (y:=d) (by omega) (by omega)
 have HRO:=Lib.hid (fun W=>implRatOf_any (a*c) (b*d) W)
 generalize hrr:ratOf (a*c) (b*d)=rr at *
 go_enter Tryz.func115,Tryz.ntmps115
 go_wp2_with fail
 rw [←HW.out]
 refine (H1.out _).mono ?_
 rintro e w1 ⟨rfl,hb1⟩
 have HB2:=Lib.hid (HB1.out.trans (hb1.mono HB1.out.size))
 have HX1:=Lib.hid (HX.out.sub hb1)
 have HY1:=Lib.hid (HY.out.sub hb1)
 have HD1:=Lib.hid (HD.out.sub hb1)
 clear hb1
 obtain ⟨x1,x2,_,_⟩:=blk2 HY1.out
 go_wp2_with fail
 refine (H2.out _).mono ?_
 rintro e w2 ⟨rfl,hb2⟩
 have HB3:=Lib.hid (HB2.out.trans (hb2.mono HB2.out.size))
 have HX2:=Lib.hid (HX1.out.sub hb2)
 have HY2:=Lib.hid (HY1.out.sub hb2)
 have HD2:=Lib.hid (HD1.out.sub hb2)
 clear hb2 x1 x2
 obtain ⟨x1,x2,_,_⟩:=blk2 HY2.out
 obtain ⟨z1,z2,_,_⟩:=blk2 HX2.out
 go_wp2_with fail
 refine (HRO.out _).mono ?_
 rintro e w3 ⟨rfl,hb3⟩
 rw [okV_form]
 have HB5:=Lib.hid (HB3.out.trans (hb3.mono HB3.out.size))
 have HD3:=Lib.hid (HD2.out.sub hb3)
 clear hb3 x1 x2 z1 z2
 obtain ⟨y1,y2,y3,y4⟩:=blk2 HD3.out
 have HZ:=Lib.hid ((HD3.out.set 0 (.int .i64 rr.1.1)).set 1 (.int .i64 rr.1.2))
 have HB4:=Lib.hid ((HB5.out.setCell (p:=⟨w.heap.size+1+1,0,none⟩) (by simp;omega) (.int .i64 rr.1.1)).setCell (p:=⟨w.heap.size+1+1,1,none⟩) (by simp;omega) (.int .i64 rr.1.2))
 go_wp2_with fail
 refine bodyPost_ret (results_rat_tmp rfl _ _ (w.heap.size+1+1) _ _ rfl HZ.out Tryz.underlying45 rfl (by kernel_rfl)) rfl ?_
 exact ⟨by rw [HE.out];rfl,HB4.out⟩
theorem negative_any (a b:Int) (w:World) (h:-9223372036854775807≤a∧a≤9223372036854775807) :
 Calls Tryz.prog 144 #[.agg #[.int .i64 a,.int .i64 b]] w fun e w'=>e=.returned (.agg #[.int .i64 (-a),.int .i64 b])∧Below w.heap.size w w':=by
 go_enter Tryz.func144,Tryz.ntmps144
 go_wp2_with fail
 refine bodyPost_ret (v:=.agg #[.int .i64 (-a),.int .i64 b]) (by simp [results,Tryz.results144,go_sem]) rfl ⟨rfl,?_⟩
 repeat (first | exact Below.refl _ _ | refine Below.alloc ?_ (by simp;try omega) _ | refine Below.setCell ?_ (by simp;try omega) _)
def subB (a b:T2):T2 × Bool:=addB a (-b.1,b.2)
theorem implRatSub_any (a b c d:Int) (w:World) (hc:-9223372036854775807≤c∧c≤9223372036854775807) :
 Calls Tryz.prog 117 #[.agg #[.int .i64 a,.int .i64 b],.agg #[.int .i64 c,.int .i64 d]] w fun e w'=>e=.returned (okV (subB (a,b) (c,d)))∧Below w.heap.size w w':=by
 obtain ⟨W,hW⟩:∃W,W=((w.alloc (.cells #[.int .i64 a,.int .i64 b] 45)).alloc (.cells #[.int .i64 c,.int .i64 d] 45)).alloc (.cells #[.int .i64 0,.int .i64 0] 45):=⟨_,rfl⟩
 have HB1:Hid (Below w.heap.size w W):=by rw [hW];exact (((Below.refl w.heap.size w).alloc (Nat.le_refl _) _).alloc (by simp) _).alloc (by simp;omega) _
 have HX:Hid (Blk W w.heap.size 45 #[.int .i64 a,.int .i64 b]):=by rw [hW];exact ((Blk.new w _ _).alloc _).alloc _
 have HY:Hid (Blk W (w.heap.size+1) 45 #[.int .i64 c,.int .i64 d]):=by rw [hW];have:=(Blk.new (w.alloc (.cells #[.int .i64 a,.int .i64 b] 45)) 45 #[.int .i64 c,.int .i64 d]).alloc (.cells #[.int .i64 0,.int .i64 0] 45);rwa [World.size_alloc] at this
 have HD:Hid (Blk W (w.heap.size+1+1) 45 #[.int .i64 0,.int .i64 0]):=by rw [hW];have:=Blk.new ((w.alloc (.cells #[.int .i64 a,.int .i64 b] 45)).alloc (.cells #[.int .i64 c,.int .i64 d] 45)) 45 #[.int .i64 0,.int .i64 0];rwa [World.size_alloc,World.size_alloc] at this
 have HW:=Lib.hid hW;clear hW
 have HN:=Lib.hid (fun V=>negative_any c d V hc)
 have HA:=Lib.hid (fun V=>implRatAdd_any a b (-c) d V)
 have hr:subB (a,b) (c,d)=addB (a,b) (-c,d):=rfl
 rw [hr];clear hr
 generalize addB (a,b) (-c,d)=r at *
 rw [okV_form] at HA
 go_enter Tryz.func117,Tryz.ntmps117
 go_wp2_with fail
 rw [←HW.out]
 obtain ⟨x1,x2,_,_⟩:=blk2 HX.out
 obtain ⟨y1,y2,_,_⟩:=blk2 HY.out
 go_region_with (first
  | (go_at_call 144;refine (HN.out _).mono ?_;rintro e w1 ⟨rfl,hb1⟩;have HX1:=Lib.hid ((HX.out.drew).sub hb1);have HD1:=Lib.hid ((HD.out.drew).sub hb1);have k12:=blk2 HX1.out;have k1:=k12.1;have k2:=k12.2.1)
  | (go_at_call 143;refine (HA.out _).mono ?_;rintro e w2 ⟨rfl,hb2⟩;have HD2:=Lib.hid (HD1.out.sub hb2);have l12:=blk2 HD2.out;have l1:=l12.1;have l2:=l12.2.1;have l3:=l12.2.2.1;have l4:=l12.2.2.2))
 all_goals
  have HB5:=Lib.hid ((HB1.out.drew.trans (hb1.mono HB1.out.size)).trans (hb2.mono (Nat.le_trans HB1.out.size hb1.size)))
  have HZ:=Lib.hid ((HD2.out.set 0 (.int .i64 r.1.1)).set 1 (.int .i64 r.1.2))
  have HB4:=Lib.hid ((HB5.out.setCell (p:=⟨w.heap.size+1+1,0,none⟩) (by simp;omega) (.int .i64 r.1.1)).setCell (p:=⟨w.heap.size+1+1,1,none⟩) (by simp;omega) (.int .i64 r.1.2))
  clear hb1 hb2
  go_wp2_with fail
  refine bodyPost_ret (results_rat_tmp rfl _ _ (w.heap.size+1+1) _ _ rfl HZ.out Tryz.underlying45 rfl (by kernel_rfl)) rfl ?_
  exact ⟨rfl,HB4.out⟩
end
section
open Go.RowKit
attribute [local go_sem ↓] Go.wp_at_zero Go.wp_at_succ
theorem l1Two_any (a b c d:Int) (w:World) :
 Calls Tryz.prog 146 #[.agg #[.int .i64 a,.int .i64 b],.agg #[.int .i64 c,.int .i64 d]] w fun e w'=>e=.returned (.bool (rvB (a,b) && rvB (c,d)))∧Below w.heap.size w w':=by
 have HB:=Lib.hid (bel_alloc (bel_alloc (Below.refl w.heap.size w) (.cells #[.int .i64 a,.int .i64 b] 45)) (.cells #[.int .i64 c,.int .i64 d] 45))
 have HY:=Lib.hid (Blk.new (w.alloc (.cells #[.int .i64 a,.int .i64 b] 45)) 45 #[.int .i64 c,.int .i64 d])
 have H1:=Lib.hid (fun W=>specRatValid_any a b W)
 have H2:=Lib.hid (fun W=>specRatValid_any c d W)
 generalize rvB (a,b)=v1 at *
 generalize rvB (c,d)=v2 at *
 cases v1
 ·go_enter Tryz.func146,Tryz.ntmps146
  go_wp2_with fail
  refine (H1.out _).mono ?_
  rintro e w1 ⟨rfl,hb1⟩
  have HB1:=Lib.hid (bel_sub HB.out hb1);clear hb1
  go_wp2_with fail
  go_ret
  exact ⟨ret_bool (by simp),HB1.out⟩
 ·go_enter Tryz.func146,Tryz.ntmps146
  go_wp2_with fail
  refine (H1.out _).mono ?_
  rintro e w1 ⟨rfl,hb1⟩
  have HB1:=Lib.hid (bel_sub HB.out hb1)
  obtain ⟨y1,y2,_,_⟩:=blk2 (HY.out.sub hb1)
  simp only [World.size_alloc] at y1 y2
  clear hb1
  go_wp2_with fail
  refine (H2.out _).mono ?_
  rintro e w2 ⟨rfl,hb2⟩
  have HB2:=Lib.hid (bel_sub HB1.out hb2);clear hb2
  go_wp2_with fail
  go_ret
  exact ⟨ret_bool (by simp),HB2.out⟩
theorem rvB_neg (a b:Int):rvB (-a,b)=rvB (a,b):=by
 have h:inB (-a) (-1000000000) 1000000000=inB a (-1000000000) 1000000000:=by simp only [inB];rw [Bool.eq_iff_iff];simp;omega
 simp only [rvB,Int.natAbs_neg,h]
theorem specRatMul_any (a b c d:Int) (w:World) :
 Calls Tryz.prog 145 #[.agg #[.int .i64 a,.int .i64 b],.agg #[.int .i64 c,.int .i64 d]] w fun e w'=>e=.returned (okV (mulB (a,b) (c,d)))∧Below w.heap.size w w':=by
 have HB:=Lib.hid (bel_alloc (bel_alloc (bel_alloc (Below.refl w.heap.size w) (.cells #[.int .i64 a,.int .i64 b] 45)) (.cells #[.int .i64 c,.int .i64 d] 45)) (.cells #[.int .i64 0,.int .i64 0] 45))
 have hx:=((Blk.new w 45 #[.int .i64 a,.int .i64 b]).alloc (.cells #[.int .i64 c,.int .i64 d] 45)).alloc (.cells #[.int .i64 0,.int .i64 0] 45)
 have hy:=(Blk.new (w.alloc (.cells #[.int .i64 a,.int .i64 b] 45)) 45 #[.int .i64 c,.int .i64 d]).alloc (.cells #[.int .i64 0,.int .i64 0] 45)
 have hz:=Blk.new ((w.alloc (.cells #[.int .i64 a,.int .i64 b] 45)).alloc (.cells #[.int .i64 c,.int .i64 d] 45)) 45 #[.int .i64 0,.int .i64 0]
 simp only [World.size_alloc] at hy hz
 have HX:=Lib.hid hx;have HY:=Lib.hid hy;have HZ:=Lib.hid hz;clear hx hy hz
 have H1:=Lib.hid (fun W=>l1Two_any a b c d W)
 by_cases hv:(rvB (a,b) && rvB (c,d))=true
 case neg =>
  have he:mulB (a,b) (c,d)=((0,0),false):=by
   unfold mulB;rw [if_neg hv]
  rw [he,okV_form]
  have hv':(rvB (a,b) && rvB (c,d))=false:=by simpa using hv
  rw [hv'] at H1
  clear hv hv' he
  go_enter Tryz.func145,Tryz.ntmps145
  go_wp2_with fail
  refine (H1.out _).mono ?_
  rintro e w1 ⟨rfl,hb1⟩
  have HZ1:=Lib.hid (HZ.out.sub hb1)
  have HB1:=Lib.hid (bel_sub HB.out hb1);clear hb1
  obtain ⟨y1,y2,f1,f2⟩:=blk2 HZ1.out
  have HZ2:=Lib.hid ((HZ1.out.set 0 (.int .i64 0)).set 1 (.int .i64 0))
  have HBZ:=Lib.hid (bel_set (g:=w.heap.size+1+1) (i:=1) (u:=.int .i64 0) (bel_set (g:=w.heap.size+1+1) (i:=0) (u:=.int .i64 0) HB1.out (by omega)) (by omega))
  go_wp2_with fail
  refine bodyPost_ret (results_ct0 rfl _ _ (w.heap.size+1+1) _ _ rfl HZ2.out Tryz.underlying45 rfl (by kernel_rfl)) rfl ?_
  exact ⟨rfl,HBZ.out⟩
 rw [hv] at H1
 have hv1:rvB (a,b)=true∧rvB (c,d)=true:=by simpa using hv
 have e1:=rvB_bd hv1.1
 have e2:=rvB_bd hv1.2
 have he:mulB (a,b) (c,d)=ratOf (a*c) (b*d):=by
  unfold mulB;rw [if_pos hv]
 rw [he]
 clear he hv hv1
 have m1:=mul_bd (A:=1000000000) (B:=1000000000) (x:=a) (y:=d) (by omega) (by omega)
 have m2:=mul_bd (A:=1000000000) (B:=1000000000) (x:=c) (y:=b) (by omega) (by omega)
 have m3:=mul_bd (A:=1000000000) (B:=1000000000) (x:=a) (y:=c) (by omega) (by omega)
 have m4:=mul_bd (A:=1000000000) (B:=1000000000) (x:=b) (y:=d) (by omega) (by omega)
 have m5:0<b*d:=Int.mul_pos (by omega) (by omega)
 have hm:ratOf (a*c) (b*d)=mkB (a*c) (b*d):=by
  unfold ratOf
  rw [if_neg]
  rintro (h | h | h)
  ·omega
  ·rw [inB_iff.2 (by omega)] at h;cases h
  ·rw [inB_iff.2 (by omega)] at h;cases h
 rw [hm]
 clear hm
 have HRO:=Lib.hid (fun W=>specMake_any (a*c) (b*d) W (by omega) (by omega) (by omega) (by omega) (by omega))
 obtain ⟨r,hr⟩:∃r,mkB (a*c) (b*d)=r:=⟨_,rfl⟩
 rw [hr] at HRO ⊢
 clear hr
 rw [okV_form] at HRO ⊢
 obtain ⟨⟨p,q⟩,ok⟩:=r
 simp only at HRO ⊢
 go_enter Tryz.func145,Tryz.ntmps145
 go_wp2_with fail
 refine (H1.out _).mono ?_
 rintro e w1 ⟨rfl,hb1⟩
 have HZ1:=Lib.hid (HZ.out.sub hb1)
 obtain ⟨x1,x2,_,_⟩:=blk2 (HX.out.sub hb1)
 obtain ⟨y1,y2,_,_⟩:=blk2 (HY.out.sub hb1)
 have HB1:=Lib.hid (bel_sub HB.out hb1);clear hb1
 go_wp2_with fail
 refine (HRO.out _).mono ?_
 rintro e w2 ⟨rfl,hb2⟩
 have HZ2:=Lib.hid (HZ1.out.sub hb2)
 have HB2:=Lib.hid (bel_sub HB1.out hb2);clear hb2 x1 x2 y1 y2
 obtain ⟨y1,y2,f1,f2⟩:=blk2 HZ2.out
 have HZ3:=Lib.hid ((HZ2.out.set 0 (.int .i64 p)).set 1 (.int .i64 q))
 have HBZ:=Lib.hid (bel_set (g:=w.heap.size+1+1) (i:=1) (u:=.int .i64 q) (bel_set (g:=w.heap.size+1+1) (i:=0) (u:=.int .i64 p) HB2.out (by omega)) (by omega))
 go_wp2_with fail
 refine bodyPost_ret (results_ct0 rfl _ _ (w.heap.size+1+1) _ _ rfl HZ3.out Tryz.underlying45 rfl (by kernel_rfl)) rfl ?_
 exact ⟨rfl,HBZ.out⟩
theorem specRatSub_any (a b c d:Int) (w:World) :
 Calls Tryz.prog 120 #[.agg #[.int .i64 a,.int .i64 b],.agg #[.int .i64 c,.int .i64 d]] w fun e w'=>e=.returned (okV (subB (a,b) (c,d)))∧Below w.heap.size w w':=by
 have HB:=Lib.hid (bel_alloc (bel_alloc (bel_alloc (Below.refl w.heap.size w) (.cells #[.int .i64 a,.int .i64 b] 45)) (.cells #[.int .i64 c,.int .i64 d] 45)) (.cells #[.int .i64 0,.int .i64 0] 45))
 have hx:=((Blk.new w 45 #[.int .i64 a,.int .i64 b]).alloc (.cells #[.int .i64 c,.int .i64 d] 45)).alloc (.cells #[.int .i64 0,.int .i64 0] 45)
 have hy:=(Blk.new (w.alloc (.cells #[.int .i64 a,.int .i64 b] 45)) 45 #[.int .i64 c,.int .i64 d]).alloc (.cells #[.int .i64 0,.int .i64 0] 45)
 have hz:=Blk.new ((w.alloc (.cells #[.int .i64 a,.int .i64 b] 45)).alloc (.cells #[.int .i64 c,.int .i64 d] 45)) 45 #[.int .i64 0,.int .i64 0]
 simp only [World.size_alloc] at hy hz
 have HX:=Lib.hid hx;have HY:=Lib.hid hy;have HZ:=Lib.hid hz;clear hx hy hz
 have H1:=Lib.hid (fun W=>l1Two_any a b c d W)
 by_cases hv:(rvB (a,b) && rvB (c,d))=true
 case neg =>
  have he:subB (a,b) (c,d)=((0,0),false):=by
   unfold subB addB;simp only [rvB_neg];rw [if_neg hv]
  rw [he,okV_form]
  have hv':(rvB (a,b) && rvB (c,d))=false:=by simpa using hv
  rw [hv'] at H1
  clear hv hv' he
  go_enter Tryz.func120,Tryz.ntmps120
  go_wp2_with fail
  refine (H1.out _).mono ?_
  rintro e w1 ⟨rfl,hb1⟩
  have HZ1:=Lib.hid (HZ.out.sub hb1)
  have HB1:=Lib.hid (bel_sub HB.out hb1);clear hb1
  obtain ⟨y1,y2,f1,f2⟩:=blk2 HZ1.out
  have HZ2:=Lib.hid ((HZ1.out.set 0 (.int .i64 0)).set 1 (.int .i64 0))
  have HBZ:=Lib.hid (bel_set (g:=w.heap.size+1+1) (i:=1) (u:=.int .i64 0) (bel_set (g:=w.heap.size+1+1) (i:=0) (u:=.int .i64 0) HB1.out (by omega)) (by omega))
  go_wp2_with fail
  refine bodyPost_ret (results_ct0 rfl _ _ (w.heap.size+1+1) _ _ rfl HZ2.out Tryz.underlying45 rfl (by kernel_rfl)) rfl ?_
  exact ⟨rfl,HBZ.out⟩
 rw [hv] at H1
 have hv1:rvB (a,b)=true∧rvB (c,d)=true:=by simpa using hv
 have e1:=rvB_bd hv1.1
 have e2:=rvB_bd hv1.2
 have he:subB (a,b) (c,d)=ratOf (a*d-c*b) (b*d):=by
  unfold subB addB;simp only [rvB_neg];rw [if_pos hv,Int.neg_mul,←Int.sub_eq_add_neg]
 rw [he]
 clear he hv hv1
 have m1:=mul_bd (A:=1000000000) (B:=1000000000) (x:=a) (y:=d) (by omega) (by omega)
 have m2:=mul_bd (A:=1000000000) (B:=1000000000) (x:=c) (y:=b) (by omega) (by omega)
 have m3:=mul_bd (A:=1000000000) (B:=1000000000) (x:=a) (y:=c) (by omega) (by omega)
 have m4:=mul_bd (A:=1000000000) (B:=1000000000) (x:=b) (y:=d) (by omega) (by omega)
 have m5:0<b*d:=Int.mul_pos (by omega) (by omega)
 have hm:ratOf (a*d-c*b) (b*d)=mkB (a*d-c*b) (b*d):=by
  unfold ratOf
  rw [if_neg]
  rintro (h | h | h)
  ·omega
  ·rw [inB_iff.2 (by omega)] at h;cases h
  ·rw [inB_iff.2 (by omega)] at h;cases h
 rw [hm]
 clear hm
 have HRO:=Lib.hid (fun W=>specMake_any (a*d-c*b) (b*d) W (by omega) (by omega) (by omega) (by omega) (by omega))
 obtain ⟨r,hr⟩:∃r,mkB (a*d-c*b) (b*d)=r:=⟨_,rfl⟩
 rw [hr] at HRO ⊢
 clear hr
 rw [okV_form] at HRO ⊢
 obtain ⟨⟨p,q⟩,ok⟩:=r
 simp only at HRO ⊢
 go_enter Tryz.func120,Tryz.ntmps120
 go_wp2_with fail
 refine (H1.out _).mono ?_
 rintro e w1 ⟨rfl,hb1⟩
 have HZ1:=Lib.hid (HZ.out.sub hb1)
 obtain ⟨x1,x2,_,_⟩:=blk2 (HX.out.sub hb1)
 obtain ⟨y1,y2,_,_⟩:=blk2 (HY.out.sub hb1)
 have HB1:=Lib.hid (bel_sub HB.out hb1);clear hb1
 go_wp2_with fail
 refine (HRO.out _).mono ?_
 rintro e w2 ⟨rfl,hb2⟩
 have HZ2:=Lib.hid (HZ1.out.sub hb2)
 have HB2:=Lib.hid (bel_sub HB1.out hb2);clear hb2 x1 x2 y1 y2
 obtain ⟨y1,y2,f1,f2⟩:=blk2 HZ2.out
 have HZ3:=Lib.hid ((HZ2.out.set 0 (.int .i64 p)).set 1 (.int .i64 q))
 have HBZ:=Lib.hid (bel_set (g:=w.heap.size+1+1) (i:=1) (u:=.int .i64 q) (bel_set (g:=w.heap.size+1+1) (i:=0) (u:=.int .i64 p) HB2.out (by omega)) (by omega))
 go_wp2_with fail
 refine bodyPost_ret (results_ct0 rfl _ _ (w.heap.size+1+1) _ _ rfl HZ3.out Tryz.underlying45 rfl (by kernel_rfl)) rfl ?_
 exact ⟨rfl,HBZ.out⟩
end
section
open Go.RowKit
attribute [local go_sem ↓] Go.wp_at_zero Go.wp_at_succ
def half (m:Int):T2:=(ratOf m 2).1
theorem halfOf_any (m:Int) (w:World) :
 Calls Tryz.prog 116 #[.int .i64 m] w fun e w'=>e=.returned (.agg #[.int .i64 (half m).1,.int .i64 (half m).2])∧Below w.heap.size w w':=by
 have HB:=Lib.hid (bel_alloc (Below.refl w.heap.size w) (.cells #[.int .i64 0,.int .i64 0] 45))
 have HX:=Lib.hid (Blk.new w 45 #[.int .i64 0,.int .i64 0])
 have HR:=Lib.hid (fun W=>implRatOf_any m 2 W)
 unfold half
 obtain ⟨r,hr⟩:∃r,ratOf m 2=r:=⟨_,rfl⟩
 rw [hr] at HR ⊢
 clear hr
 rw [okV_form] at HR
 obtain ⟨⟨p,q⟩,ok⟩:=r
 simp only at HR ⊢
 go_enter Tryz.func116,Tryz.ntmps116
 go_wp2_with fail
 refine (HR.out _).mono ?_
 rintro e w1 ⟨rfl,hb1⟩
 have HB1:=Lib.hid (bel_alloc (bel_sub HB.out hb1) (.cells #[.int .i64 p,.int .i64 q] 45))
 have HX1:=Lib.hid ((HX.out.sub hb1).alloc (.cells #[.int .i64 p,.int .i64 q] 45))
 have HY1:=Lib.hid (Blk.new w1 45 #[.int .i64 p,.int .i64 q])
 clear hb1
 obtain ⟨x1,x2,f1,f2⟩:=blk2 HX1.out
 obtain ⟨y1,y2,_,_⟩:=blk2 HY1.out
 have HZ:=Lib.hid ((HX1.out.set 0 (.int .i64 p)).set 1 (.int .i64 q))
 have HBZ:=Lib.hid (bel_set (g:=w.heap.size) (i:=1) (u:=.int .i64 q) (bel_set (g:=w.heap.size) (i:=0) (u:=.int .i64 p) HB1.out (by omega)) (by omega))
 go_wp2_with fail
 refine bodyPost_ret (results_lev1 rfl _ _ w.heap.size _ _ rfl HZ.out Tryz.underlying45 rfl (by kernel_rfl)) rfl ?_
 exact ⟨rfl,HBZ.out⟩
theorem l26Half_any (a b m:Int) (w:World) (hm:-1000≤m∧m≤1000) :
 Calls Tryz.prog 118 #[.agg #[.int .i64 a,.int .i64 b],.int .i64 m] w fun e w'=>e=.returned (okV (mulB (a,b) (half m)))∧Below w.heap.size w w':=by
 have HB:=Lib.hid (bel_alloc (bel_alloc (Below.refl w.heap.size w) (.cells #[.int .i64 a,.int .i64 b] 45)) (.cells #[.int .i64 0,.int .i64 0] 45))
 have HX:=Lib.hid ((Blk.new w 45 #[.int .i64 a,.int .i64 b]).alloc (.cells #[.int .i64 0,.int .i64 0] 45))
 have hz:=Blk.new (w.alloc (.cells #[.int .i64 a,.int .i64 b] 45)) 45 #[.int .i64 0,.int .i64 0]
 simp only [World.size_alloc] at hz
 have HZ:=Lib.hid hz;clear hz
 have HR:=Lib.hid (fun W=>specRatOf_any m 2 W (by omega) (by omega) (by omega))
 unfold half
 obtain ⟨r,hr⟩:∃r,ratOf m 2=r:=⟨_,rfl⟩
 rw [hr] at HR ⊢
 clear hr
 rw [okV_form] at HR
 obtain ⟨⟨p,q⟩,ok⟩:=r
 simp only at HR ⊢
 have HM:=Lib.hid (fun W=>specRatMul_any a b p q W)
 obtain ⟨r,hr⟩:∃r,mulB (a,b) (p,q)=r:=⟨_,rfl⟩
 rw [hr] at HM ⊢
 clear hr
 rw [okV_form] at HM ⊢
 obtain ⟨⟨x,y⟩,ok2⟩:=r
 simp only at HM ⊢
 go_enter Tryz.func118,Tryz.ntmps118
 go_wp2_with fail
 refine (HR.out _).mono ?_
 rintro e w1 ⟨rfl,hb1⟩
 have HB1:=Lib.hid (bel_alloc (bel_sub HB.out hb1) (.cells #[.int .i64 p,.int .i64 q] 45))
 have HX1:=Lib.hid ((HX.out.sub hb1).alloc (.cells #[.int .i64 p,.int .i64 q] 45))
 have HZ1:=Lib.hid ((HZ.out.sub hb1).alloc (.cells #[.int .i64 p,.int .i64 q] 45))
 have HY1:=Lib.hid (Blk.new w1 45 #[.int .i64 p,.int .i64 q])
 clear hb1
 obtain ⟨x1,x2,_,_⟩:=blk2 HX1.out
 obtain ⟨y1,y2,_,_⟩:=blk2 HY1.out
 go_wp2_with fail
 refine (HM.out _).mono ?_
 rintro e w2 ⟨rfl,hb2⟩
 have HB2:=Lib.hid (bel_sub HB1.out hb2)
 have HZ2:=Lib.hid (HZ1.out.sub hb2)
 clear hb2 x1 x2 y1 y2
 obtain ⟨x1,x2,f1,f2⟩:=blk2 HZ2.out
 have HZ3:=Lib.hid ((HZ2.out.set 0 (.int .i64 x)).set 1 (.int .i64 y))
 have HBZ:=Lib.hid (bel_set (g:=w.heap.size+1) (i:=1) (u:=.int .i64 y) (bel_set (g:=w.heap.size+1) (i:=0) (u:=.int .i64 x) HB2.out (by omega)) (by omega))
 go_wp2_with fail
 refine bodyPost_ret (results_ct0 rfl _ _ (w.heap.size+1) _ _ rfl HZ3.out Tryz.underlying45 rfl (by kernel_rfl)) rfl ?_
 exact ⟨rfl,HBZ.out⟩
def fz (t:T2) (j:Int):T2:=if (facR t j).2=true then (facR t j).1 else (0,1)
theorem factorOrZero_any (t:T2) (j:Int) (w:World) (hE:Ers w) :
 Calls Tryz.prog 79 #[.agg #[.int .i64 t.1,.int .i64 t.2,.int .i64 j]] w fun e w'=>e=.returned (.agg #[.int .i64 (fz t j).1,.int .i64 (fz t j).2])∧Below w.heap.size w w':=by
 have HEB:=Lib.hid (fun W (h:Below w.heap.size w W)=>hE.on h);clear hE
 have HB:=Lib.hid (bel_alloc (bel_alloc (Below.refl w.heap.size w) (.cells #[.int .i64 t.1,.int .i64 t.2,.int .i64 j] 31)) (.cells #[.int .i64 0,.int .i64 0] 45))
 have hz:=Blk.new (w.alloc (.cells #[.int .i64 t.1,.int .i64 t.2,.int .i64 j] 31)) 45 #[.int .i64 0,.int .i64 0]
 simp only [World.size_alloc] at hz
 have HZ:=Lib.hid hz;clear hz
 have HR:=Lib.hid (fun W (h:Ers W)=>FactorOf_any t j W h)
 unfold fz
 obtain ⟨r,hr⟩:∃r,facR t j=r:=⟨_,rfl⟩
 rw [hr] at HR ⊢
 clear hr
 rw [okV_form] at HR
 obtain ⟨⟨p,q⟩,ok⟩:=r
 obtain ⟨s,l⟩:=t
 simp only at *
 cases ok
 ·go_enter Tryz.func79,Tryz.ntmps79
  go_wp2_with fail
  refine (HR.out _ (HEB.out _ HB.out)).mono ?_
  rintro e w1 ⟨rfl,hb1⟩
  have HB1:=Lib.hid (bel_alloc (bel_sub HB.out hb1) (.cells #[.int .i64 p,.int .i64 q] 45))
  have HZ1:=Lib.hid ((HZ.out.sub hb1).alloc (.cells #[.int .i64 p,.int .i64 q] 45))
  have HY1:=Lib.hid (Blk.new w1 45 #[.int .i64 p,.int .i64 q])
  clear hb1
  obtain ⟨x1,x2,_,_⟩:=blk2 HY1.out
  clear x1 x2
  go_wp2_with fail
  refine (whole_any 0 _).mono ?_
  rintro e w2 ⟨rfl,hb2⟩
  replace HZ1:=Lib.hid (HZ1.out.sub hb2)
  replace HB1:=Lib.hid (bel_sub HB1.out hb2)
  clear hb2
  obtain ⟨y1,y2,f1,f2⟩:=blk2 HZ1.out
  have HZ3:=Lib.hid ((HZ1.out.set 0 (.int .i64 0)).set 1 (.int .i64 1))
  have HBZ:=Lib.hid (bel_set (g:=w.heap.size+1) (i:=1) (u:=.int .i64 1) (bel_set (g:=w.heap.size+1) (i:=0) (u:=.int .i64 0) HB1.out (by omega)) (by omega))
  go_wp2_with fail
  refine bodyPost_ret (results_lev1 rfl _ _ (w.heap.size+1) _ _ rfl HZ3.out Tryz.underlying45 rfl (by kernel_rfl)) rfl ?_
  exact ⟨rfl,HBZ.out⟩
 ·go_enter Tryz.func79,Tryz.ntmps79
  go_wp2_with fail
  refine (HR.out _ (HEB.out _ HB.out)).mono ?_
  rintro e w1 ⟨rfl,hb1⟩
  have HB1:=Lib.hid (bel_alloc (bel_sub HB.out hb1) (.cells #[.int .i64 p,.int .i64 q] 45))
  have HZ1:=Lib.hid ((HZ.out.sub hb1).alloc (.cells #[.int .i64 p,.int .i64 q] 45))
  have HY1:=Lib.hid (Blk.new w1 45 #[.int .i64 p,.int .i64 q])
  clear hb1
  obtain ⟨x1,x2,_,_⟩:=blk2 HY1.out
  obtain ⟨y1,y2,f1,f2⟩:=blk2 HZ1.out
  have HZ3:=Lib.hid ((HZ1.out.set 0 (.int .i64 p)).set 1 (.int .i64 q))
  have HBZ:=Lib.hid (bel_set (g:=w.heap.size+1) (i:=1) (u:=.int .i64 q) (bel_set (g:=w.heap.size+1) (i:=0) (u:=.int .i64 p) HB1.out (by omega)) (by omega))
  go_wp2_with fail
  refine bodyPost_ret (results_lev1 rfl _ _ (w.heap.size+1) _ _ rfl HZ3.out Tryz.underlying45 rfl (by kernel_rfl)) rfl ?_
  exact ⟨rfl,HBZ.out⟩
theorem l26Factor_any (t:T2) (j:Int) (w:World) :
 Calls Tryz.prog 119 #[.agg #[.int .i64 t.1,.int .i64 t.2,.int .i64 j]] w fun e w'=>e=.returned (.agg #[.int .i64 (fz t j).1,.int .i64 (fz t j).2])∧Below w.heap.size w w':=by
 have HB:=Lib.hid (bel_alloc (bel_alloc (Below.refl w.heap.size w) (.cells #[.int .i64 t.1,.int .i64 t.2,.int .i64 j] 31)) (.cells #[.int .i64 0,.int .i64 0] 45))
 have hz:=Blk.new (w.alloc (.cells #[.int .i64 t.1,.int .i64 t.2,.int .i64 j] 31)) 45 #[.int .i64 0,.int .i64 0]
 simp only [World.size_alloc] at hz
 have HZ:=Lib.hid hz;clear hz
 have HR:=Lib.hid (fun W=>specFactorOf_any t j W)
 unfold fz
 obtain ⟨r,hr⟩:∃r,facR t j=r:=⟨_,rfl⟩
 rw [hr] at HR ⊢
 clear hr
 rw [okV_form] at HR
 obtain ⟨⟨p,q⟩,ok⟩:=r
 obtain ⟨s,l⟩:=t
 simp only at *
 cases ok
 ·go_enter Tryz.func119,Tryz.ntmps119
  go_wp2_with fail
  refine (HR.out _).mono ?_
  rintro e w1 ⟨rfl,hb1⟩
  have HB1:=Lib.hid (bel_alloc (bel_sub HB.out hb1) (.cells #[.int .i64 p,.int .i64 q] 45))
  have HZ1:=Lib.hid ((HZ.out.sub hb1).alloc (.cells #[.int .i64 p,.int .i64 q] 45))
  have HY1:=Lib.hid (Blk.new w1 45 #[.int .i64 p,.int .i64 q])
  clear hb1
  obtain ⟨x1,x2,_,_⟩:=blk2 HY1.out
  obtain ⟨y1,y2,f1,f2⟩:=blk2 HZ1.out
  have HZ3:=Lib.hid ((HZ1.out.set 0 (.int .i64 0)).set 1 (.int .i64 1))
  have HBZ:=Lib.hid (bel_set (g:=w.heap.size+1) (i:=1) (u:=.int .i64 1) (bel_set (g:=w.heap.size+1) (i:=0) (u:=.int .i64 0) HB1.out (by omega)) (by omega))
  go_wp2_with fail
  refine bodyPost_ret (results_lev1 rfl _ _ (w.heap.size+1) _ _ rfl HZ3.out Tryz.underlying45 rfl (by kernel_rfl)) rfl ?_
  exact ⟨rfl,HBZ.out⟩
 ·go_enter Tryz.func119,Tryz.ntmps119
  go_wp2_with fail
  refine (HR.out _).mono ?_
  rintro e w1 ⟨rfl,hb1⟩
  have HB1:=Lib.hid (bel_alloc (bel_sub HB.out hb1) (.cells #[.int .i64 p,.int .i64 q] 45))
  have HZ1:=Lib.hid ((HZ.out.sub hb1).alloc (.cells #[.int .i64 p,.int .i64 q] 45))
  have HY1:=Lib.hid (Blk.new w1 45 #[.int .i64 p,.int .i64 q])
  clear hb1
  obtain ⟨x1,x2,_,_⟩:=blk2 HY1.out
  obtain ⟨y1,y2,f1,f2⟩:=blk2 HZ1.out
  have HZ3:=Lib.hid ((HZ1.out.set 0 (.int .i64 p)).set 1 (.int .i64 q))
  have HBZ:=Lib.hid (bel_set (g:=w.heap.size+1) (i:=1) (u:=.int .i64 q) (bel_set (g:=w.heap.size+1) (i:=0) (u:=.int .i64 p) HB1.out (by omega)) (by omega))
  go_wp2_with fail
  refine bodyPost_ret (results_lev1 rfl _ _ (w.heap.size+1) _ _ rfl HZ3.out Tryz.underlying45 rfl (by kernel_rfl)) rfl ?_
  exact ⟨rfl,HBZ.out⟩
def shR (gu:T2) (mu:Int) (gl:T2) (ml:Int):T2 × Bool:=((subB (mulB gu (half mu)).1 (mulB gl (half ml)).1).1,(mulB gu (half mu)).2 && (mulB gl (half ml)).2 && (subB (mulB gu (half mu)).1 (mulB gl (half ml)).1).2)
theorem ratOf_bd {n d x y:Int} {ok:Bool} (h:ratOf n d=((x,y),ok)):-1000000000≤x∧x≤1000000000:=by
 cases ok
 ·have:(x,y)=((0:Int),(0:Int)):=by
   unfold ratOf mkB at h
   split at h
   ·injection h with h1 _;exact h1.symm
   ·split at h
    ·injection h with _ h2;cases h2
    ·injection h with h1 _;exact h1.symm
  injection this with h1 _
  omega
 ·exact (ratOf_ok h rfl).2
theorem mulB_bd {a b:T2}:-1000000000≤(mulB a b).1.1∧(mulB a b).1.1≤1000000000:=by
 unfold mulB
 split
 ·exact ratOf_bd (x:=(ratOf (a.1*b.1) (a.2*b.2)).1.1) (y:=(ratOf (a.1*b.1) (a.2*b.2)).1.2) (ok:=(ratOf (a.1*b.1) (a.2*b.2)).2) rfl
 ·simp
theorem shiftOf_any (gu:T2) (mu:Int) (gl:T2) (ml:Int) (w:World) :
 Calls Tryz.prog 82 #[.agg #[.int .i64 gu.1,.int .i64 gu.2],.int .i64 mu,.agg #[.int .i64 gl.1,.int .i64 gl.2],.int .i64 ml] w fun e w'=>e=.returned (okV (shR gu mu gl ml))∧Below w.heap.size w w':=by
 have HB:=Lib.hid (bel_alloc (bel_alloc (bel_alloc (Below.refl w.heap.size w) (.cells #[.int .i64 gu.1,.int .i64 gu.2] 45)) (.cells #[.int .i64 gl.1,.int .i64 gl.2] 45)) (.cells #[.int .i64 0,.int .i64 0] 45))
 have hx:=((Blk.new w 45 #[.int .i64 gu.1,.int .i64 gu.2]).alloc (.cells #[.int .i64 gl.1,.int .i64 gl.2] 45)).alloc (.cells #[.int .i64 0,.int .i64 0] 45)
 have hy:=(Blk.new (w.alloc (.cells #[.int .i64 gu.1,.int .i64 gu.2] 45)) 45 #[.int .i64 gl.1,.int .i64 gl.2]).alloc (.cells #[.int .i64 0,.int .i64 0] 45)
 have hz:=Blk.new ((w.alloc (.cells #[.int .i64 gu.1,.int .i64 gu.2] 45)).alloc (.cells #[.int .i64 gl.1,.int .i64 gl.2] 45)) 45 #[.int .i64 0,.int .i64 0]
 simp only [World.size_alloc] at hy hz
 have HX:=Lib.hid hx;have HY:=Lib.hid hy;have HZ:=Lib.hid hz;clear hx hy hz
 obtain ⟨W0,hW0⟩:∃W0,((w.alloc (.cells #[.int .i64 gu.1,.int .i64 gu.2] 45)).alloc (.cells #[.int .i64 gl.1,.int .i64 gl.2] 45)).alloc (.cells #[.int .i64 0,.int .i64 0] 45)=W0:=⟨_,rfl⟩
 rw [hW0] at HB HX HY HZ
 have HW0:=Lib.hid hW0;clear hW0
 unfold shR
 have HH1:=Lib.hid (fun W=>halfOf_any mu W)
 have HH2:=Lib.hid (fun W=>halfOf_any ml W)
 have HM1:=Lib.hid (fun W=>implRatMul_any gu.1 gu.2 (half mu).1 (half mu).2 W)
 have HM2:=Lib.hid (fun W=>implRatMul_any gl.1 gl.2 (half ml).1 (half ml).2 W)
 have hbd:=mulB_bd (a:=gl) (b:=half ml)
 obtain ⟨u,hu⟩:∃u,mulB gu (half mu)=u:=⟨_,rfl⟩
 obtain ⟨v,hv⟩:∃v,mulB gl (half ml)=v:=⟨_,rfl⟩
 rw [show mulB (gu.1,gu.2) ((half mu).1,(half mu).2)=u from hu,okV_form] at HM1
 rw [show mulB (gl.1,gl.2) ((half ml).1,(half ml).2)=v from hv,okV_form] at HM2
 rw [hv] at hbd
 rw [hu,hv]
 clear hu hv
 obtain ⟨⟨ux,uy⟩,uo⟩:=u
 obtain ⟨⟨vx,vy⟩,vo⟩:=v
 simp only at HM1 HM2 hbd ⊢
 have HS:=Lib.hid (fun W=>implRatSub_any ux uy vx vy W (by omega))
 obtain ⟨r,hr⟩:∃r,subB (ux,uy) (vx,vy)=r:=⟨_,rfl⟩
 rw [hr,okV_form] at HS
 rw [hr]
 clear hr hbd
 obtain ⟨⟨x,y⟩,ok⟩:=r
 simp only at HS ⊢
 obtain ⟨a,b⟩:=gu
 obtain ⟨c,d⟩:=gl
 simp only at *
 generalize (half mu).1=p1 at *
 generalize (half mu).2=p2 at *
 generalize (half ml).1=q1 at *
 generalize (half ml).2=q2 at *
 rw [okV_form]
 simp only
 go_enter Tryz.func82,Tryz.ntmps82
 go_wp2_with fail
 rw [HW0.out]
 obtain ⟨x1,x2,_,_⟩:=blk2 HX.out
 refine Fr.region_free' [(45,10)] [(45,10,.tmp 21)] (fun _=>45) (fun _=>#[.int .i64 0,.int .i64 0]) (fun _=>#[.int .i64 ux,.int .i64 uy]) 44 (by kernel_rfl) rfl (by kernel_rfl) rfl rfl ?hxq ?hal ?h
 case hxq=>intro s hs e he;simp at hs;subst hs;simp at he;subst he;simp
 case hal=>intro x hx W;simp at hx;subst hx;simp [go_sem]
 case h =>
 apply Exists.intro
 refine ⟨?hW,?hst,?hQ⟩
 case hW =>
  intro A θ hne
  have k0:=fun p:Fr.AftB W0 (fun _=>45) A θ=>p.cell x1
  have k1:=fun p:Fr.AftB W0 (fun _=>45) A θ=>p.cell x2
  simp only [List.filter_cons,List.filter_nil,Fr.isQ,Fr.alOf,Fr.stOf,Option.isNone_none,Option.isNone_some,Bool.and_self,Bool.and_true,Bool.and_false,Bool.false_eq_true,↓reduceIte]
  repeat (go_big_quiet_step ((first | (go_at_call 116;exact Fr.aftB_call _ (HH1.out _)) | (go_at_call 115;exact Fr.aftB_call _ (HM1.out _)))))
  exact wpQuiet_nil rfl
 case hst =>
  intro s hs W g hB
  simp at hs
  subst hs
  exact st_2 (by kernel_rfl) W g _ _ (.int .i64 ux) (.int .i64 uy) rfl rfl hB
 case hQ =>
 intro A W1 hb hals hap
 obtain ⟨hA,hbl⟩:=hals (45,10) (by simp)
 simp only at hA hbl
 have HB1:=Lib.hid (bel_sub HB.out hb)
 have HY1:=Lib.hid (HY.out.sub hb)
 have HZ1:=Lib.hid (HZ.out.sub hb)
 have HU1:=Lib.hid hbl
 clear hals hap hb hbl x1 x2
 simp only [Fr.putAls,Act.put,List.setIfInBounds_toArray,List.set_cons_succ,List.set_cons_zero]
 generalize A 10=g at *
 obtain ⟨x1,x2,_,_⟩:=blk2 HY1.out
 go_wp2_with fail
 refine Fr.region_free' [(45,12)] [(45,12,.tmp 28)] (fun _=>45) (fun _=>#[.int .i64 0,.int .i64 0]) (fun _=>#[.int .i64 vx,.int .i64 vy]) 44 (by kernel_rfl) rfl (by kernel_rfl) rfl rfl ?hxq ?hal ?h
 case hxq=>intro s hs e he;simp at hs;subst hs;simp at he;subst he;simp
 case hal=>intro x hx W;simp at hx;subst hx;simp [go_sem]
 case h =>
 apply Exists.intro
 refine ⟨?hW,?hst,?hQ⟩
 case hW =>
  intro A θ hne
  have k0:=fun p:Fr.AftB W1 (fun _=>45) A θ=>p.cell x1
  have k1:=fun p:Fr.AftB W1 (fun _=>45) A θ=>p.cell x2
  simp only [List.filter_cons,List.filter_nil,Fr.isQ,Fr.alOf,Fr.stOf,Option.isNone_none,Option.isNone_some,Bool.and_self,Bool.and_true,Bool.and_false,Bool.false_eq_true,↓reduceIte]
  repeat (go_big_quiet_step ((first | (go_at_call 116;exact Fr.aftB_call _ (HH2.out _)) | (go_at_call 115;exact Fr.aftB_call _ (HM2.out _)))))
  exact wpQuiet_nil rfl
 case hst =>
  intro s hs W g hB
  simp at hs
  subst hs
  exact st_2 (by kernel_rfl) W g _ _ (.int .i64 vx) (.int .i64 vy) rfl rfl hB
 case hQ =>
 intro A W2 hb hals hap
 obtain ⟨hA,hbl⟩:=hals (45,12) (by simp)
 simp only at hA hbl
 have HB2:=Lib.hid (bel_sub HB1.out hb)
 have HZ2:=Lib.hid (HZ1.out.sub hb)
 have HU2:=Lib.hid (HU1.out.sub hb)
 have HV2:=Lib.hid hbl
 clear hals hap hb hbl x1 x2
 simp only [Fr.putAls,Act.put,List.setIfInBounds_toArray,List.set_cons_succ,List.set_cons_zero]
 generalize A 12=g2 at *
 obtain ⟨x1,x2,_,_⟩:=blk2 HU2.out
 obtain ⟨y1,y2,_,_⟩:=blk2 HV2.out
 go_wp2_with fail
 refine (HS.out _).mono ?_
 rintro e w3 ⟨rfl,hb3⟩
 have HB3:=Lib.hid (bel_alloc (bel_sub HB2.out hb3) (.cells #[.int .i64 x,.int .i64 y] 45))
 have HZ3:=Lib.hid ((HZ2.out.sub hb3).alloc (.cells #[.int .i64 x,.int .i64 y] 45))
 have HD3:=Lib.hid (Blk.new w3 45 #[.int .i64 x,.int .i64 y])
 clear hb3 x1 x2 y1 y2
 obtain ⟨x1,x2,f1,f2⟩:=blk2 HZ3.out
 obtain ⟨y1,y2,_,_⟩:=blk2 HD3.out
 have HZ4:=Lib.hid ((HZ3.out.set 0 (.int .i64 x)).set 1 (.int .i64 y))
 have HBZ:=Lib.hid (bel_set (g:=w.heap.size+1+1) (i:=1) (u:=.int .i64 y) (bel_set (g:=w.heap.size+1+1) (i:=0) (u:=.int .i64 x) HB3.out (by omega)) (by omega))
 cases uo
 ·go_wp2_with fail
  refine bodyPost_ret (results_ct0 rfl _ _ (w.heap.size+1+1) _ _ rfl HZ4.out Tryz.underlying45 rfl (by kernel_rfl)) rfl ?_
  exact ⟨rfl,HBZ.out⟩
 cases vo
 ·go_wp2_with fail
  refine bodyPost_ret (results_ct0 rfl _ _ (w.heap.size+1+1) _ _ rfl HZ4.out Tryz.underlying45 rfl (by kernel_rfl)) rfl ?_
  exact ⟨rfl,HBZ.out⟩
 cases ok
 ·go_wp2_with fail
  refine bodyPost_ret (results_ct0 rfl _ _ (w.heap.size+1+1) _ _ rfl HZ4.out Tryz.underlying45 rfl (by kernel_rfl)) rfl ?_
  exact ⟨rfl,HBZ.out⟩
 ·go_wp2_with fail
  refine bodyPost_ret (results_ct0 rfl _ _ (w.heap.size+1+1) _ _ rfl HZ4.out Tryz.underlying45 rfl (by kernel_rfl)) rfl ?_
  exact ⟨rfl,HBZ.out⟩
end
section
open Go.RowKit
def prj (j:Int) (k:Nat):List Int:=(List.range k).map fun (i:Nat)=>-j+2*(i:Int)
theorem prj_succ (j:Int) (k:Nat):prj j (k+1)=prj j k++[-j+2*(k:Int)]:=by simp [prj,List.range_succ]
theorem prj_len (j:Int) (k:Nat):(prj j k).length=k:=by simp [prj]
theorem specProjections_any (j:Nat) (w:World) (hj:j≤24) :
 Calls Tryz.prog 84 #[.int .i64 (j:Int)] w (IntsPost w (prj (j:Int) (j+1))):=by
 have ha:inB (j:Int) 0 24=true:=inB_iff.2 (by omega)
 have HO:=Lib.hid (own_empty w 3 1)
 have HB:=Lib.hid ((Below.refl w.heap.size w).alloc (Nat.le_refl _) (.cells #[] 3))
 go_enter Tryz.func84,Tryz.ntmps84
 go_wp2_with (go_at_call 88;refine (specSpinValid_any _ _).mono ?_;rintro e w' ⟨rfl,rfl⟩)
 go_loopw [3,4] (fun v i wr=>∃(k:Nat) (A:Option Addr) (c:Nat),k≤j+1∧i=.int .i64 (-(j:Int)+2*(k:Int))∧v=.slice A k c∧wr.ownsRow w.heap.size 3 1 (.slice A k c) k (icells (prj (j:Int) k))∧Below w.heap.size w wr) (fun _ i _=>((j:Int)+2-intOf i).toNat)
 case atStart=>exact ⟨0,_,_,by omega,by go_num,rfl,HO.out,HB.out⟩
 case round =>
  obtain ⟨k,A,c,hk,rfl,rfl,hown,hB⟩:=hrel
  have HW:=Lib.hid hown;clear hown
  have HB1:=Lib.hid hB;clear hB
  by_cases hlt:k≤j
  ·have g1:-(j:Int)+2*(k:Int)≤(j:Int):=by omega
   generalize hz:-(j:Int)+2*(k:Int)=z at *
   have HZ:=Lib.hid hz
   have z0:-24≤z:=by omega
   clear hz
   go_wp2_with (at_builtin;refine wpList_app1 _ rfl (.tmp 17) (.tmp 19) _ rfl w.heap.size 3 1 8 elInt A c k (icells (prj (j:Int) k)) rfl (HW.out.alloc _) wr.heap.size #[.int .i64 z] rfl (Blk.new wr _ _) rfl ?h1 (by omega) (by omega) (by have:=HB1.out.size;simp;omega) ?_)
   case h1=>rfl
   intro A' c' w3 hown3 hc3 hb3
   have HW3:=Lib.hid hown3;clear hown3
   have HB3:=Lib.hid ((HB1.out.alloc HB1.out.size _).trans hb3);clear hb3
   go_wp2_with fail
   go_roundw
   case rel =>
    refine ⟨k+1,A',c',by omega,by rw [←HZ.out];go_num,rfl,?_,HB3.out⟩
    rw [prj_succ,icells_snoc,HZ.out];exact HW3.out
   case measure=>simp [intOf];omega
  ·have g1:¬(-(j:Int)+2*(k:Int)≤(j:Int)):=by omega
   generalize -(j:Int)+2*(k:Int)=z at *
   go_wp2_with fail
   go_ret
   obtain rfl:k=j+1:=by omega
   have hr:=HW.out
   exact ⟨⟨A,c,by rw [prj_len];rfl,by rw [prj_len];exact hr⟩,HB1.out⟩
end
section
open Go.RowKit
attribute [local go_sem ↓] Go.wp_at_zero Go.wp_at_succ
def entC (gu:T2) (ju:Int) (gl:T2) (jl mu ml:Int):List Value:=[.int .i64 mu,.int .i64 ml,.int .i64 (shR gu mu gl ml).1.1,.int .i64 (shR gu mu gl ml).1.2,.int .i64 (clR jl 2 ju ml (mu-ml)).1.2.1,.int .i64 (clR jl 2 ju ml (mu-ml)).1.2.2]
theorem l26One_any (su lu ju sl ll jl mu ml:Int) (w:World) (hmu:-100≤mu∧mu≤100) (hml:-100≤ml∧ml≤100)
 (hS:(shR (fz (su,lu) ju) mu (fz (sl,ll) jl) ml).2=true) :
 Calls Tryz.prog 86 #[.agg #[.int .i64 su,.int .i64 lu,.int .i64 ju],.agg #[.int .i64 sl,.int .i64 ll,.int .i64 jl],.int .i64 mu,.int .i64 ml] w fun e w'=>e=.returned (.tuple #[.agg (entC (fz (su,lu) ju) ju (fz (sl,ll) jl) jl mu ml).toArray,.bool true])∧Below w.heap.size w w':=by
 have HB:=Lib.hid (bel_alloc (bel_alloc (bel_alloc (Below.refl w.heap.size w) (.cells #[.int .i64 su,.int .i64 lu,.int .i64 ju] 31)) (.cells #[.int .i64 sl,.int .i64 ll,.int .i64 jl] 31)) (.cells #[.int .i64 0,.int .i64 0,.int .i64 0,.int .i64 0,.int .i64 0,.int .i64 0] 64))
 have hx:=((Blk.new w 31 #[.int .i64 su,.int .i64 lu,.int .i64 ju]).alloc (.cells #[.int .i64 sl,.int .i64 ll,.int .i64 jl] 31)).alloc (.cells #[.int .i64 0,.int .i64 0,.int .i64 0,.int .i64 0,.int .i64 0,.int .i64 0] 64)
 have hy:=(Blk.new (w.alloc (.cells #[.int .i64 su,.int .i64 lu,.int .i64 ju] 31)) 31 #[.int .i64 sl,.int .i64 ll,.int .i64 jl]).alloc (.cells #[.int .i64 0,.int .i64 0,.int .i64 0,.int .i64 0,.int .i64 0,.int .i64 0] 64)
 have hz:=Blk.new ((w.alloc (.cells #[.int .i64 su,.int .i64 lu,.int .i64 ju] 31)).alloc (.cells #[.int .i64 sl,.int .i64 ll,.int .i64 jl] 31)) 64 #[.int .i64 0,.int .i64 0,.int .i64 0,.int .i64 0,.int .i64 0,.int .i64 0]
 simp only [World.size_alloc] at hy hz
 have HX:=Lib.hid hx;have HY:=Lib.hid hy;have HZ:=Lib.hid hz;clear hx hy hz
 unfold shR at hS
 unfold entC shR
 have HF1:=Lib.hid (fun W=>l26Factor_any (su,lu) ju W)
 have HF2:=Lib.hid (fun W=>l26Factor_any (sl,ll) jl W)
 simp only at HF1 HF2
 generalize fz (su,lu) ju=gu at *
 generalize fz (sl,ll) jl=gl at *
 have HM1:=Lib.hid (fun W=>l26Half_any gu.1 gu.2 mu W (by omega))
 have HM2:=Lib.hid (fun W=>l26Half_any gl.1 gl.2 ml W (by omega))
 have HC:=Lib.hid (fun W=>specClebsch_any jl 2 ju ml (mu-ml) W)
 obtain ⟨u,hu⟩:∃u,mulB gu (half mu)=u:=⟨_,rfl⟩
 obtain ⟨v,hv⟩:∃v,mulB gl (half ml)=v:=⟨_,rfl⟩
 rw [show mulB (gu.1,gu.2) (half mu)=u from hu,okV_form] at HM1
 rw [show mulB (gl.1,gl.2) (half ml)=v from hv,okV_form] at HM2
 rw [hu,hv] at hS ⊢
 clear hu hv
 obtain ⟨⟨ux,uy⟩,uo⟩:=u
 obtain ⟨⟨vx,vy⟩,vo⟩:=v
 simp only at HM1 HM2 hS ⊢
 have HS:=Lib.hid (fun W=>specRatSub_any ux uy vx vy W)
 obtain ⟨r,hr⟩:∃r,subB (ux,uy) (vx,vy)=r:=⟨_,rfl⟩
 rw [hr,okV_form] at HS
 rw [hr] at hS ⊢
 clear hr
 obtain ⟨⟨x,y⟩,ok⟩:=r
 obtain ⟨c,hc⟩:∃c,clR jl 2 ju ml (mu-ml)=c:=⟨_,rfl⟩
 rw [hc] at HC ⊢
 clear hc
 obtain ⟨⟨sg,cx,cy⟩,cok⟩:=c
 unfold rtO rtV at HC
 simp only at HS HC hS ⊢
 simp only [Bool.and_eq_true] at hS
 obtain ⟨⟨rfl,rfl⟩,rfl⟩:=hS
 obtain ⟨a,b⟩:=gu
 obtain ⟨d,e⟩:=gl
 simp only at *
 obtain ⟨x1,x2,x3,_,_,_⟩:=blk3 HX.out
 go_enter Tryz.func86,Tryz.ntmps86
 go_wp2_with fail
 refine (HF1.out _).mono ?_
 rintro e1 w1 ⟨rfl,hb1⟩
 have HB1:=Lib.hid (bel_sub HB.out hb1)
 have HX1:=Lib.hid (HX.out.sub hb1)
 have HY1:=Lib.hid (HY.out.sub hb1)
 have HZ1:=Lib.hid (HZ.out.sub hb1)
 clear hb1 x1 x2 x3 HX HY HZ HB
 go_wp2_with fail
 refine (HM1.out _).mono ?_
 rintro e1 w2 ⟨rfl,hb2⟩
 have HB2:=Lib.hid (bel_alloc (bel_sub HB1.out hb2) (.cells #[.int .i64 ux,.int .i64 uy] 45))
 have HX2:=Lib.hid ((HX1.out.sub hb2).alloc (.cells #[.int .i64 ux,.int .i64 uy] 45))
 have HY2:=Lib.hid ((HY1.out.sub hb2).alloc (.cells #[.int .i64 ux,.int .i64 uy] 45))
 have HZ2:=Lib.hid ((HZ1.out.sub hb2).alloc (.cells #[.int .i64 ux,.int .i64 uy] 45))
 have HU2:=Lib.hid (Blk.new w2 45 #[.int .i64 ux,.int .i64 uy])
 clear hb2 HX1 HY1 HZ1 HB1
 obtain ⟨x1,x2,x3,_,_,_⟩:=blk3 HY2.out
 go_wp2_with fail
 refine (HF2.out _).mono ?_
 rintro e1 w3 ⟨rfl,hb3⟩
 have HB3:=Lib.hid (bel_sub HB2.out hb3)
 have HX3:=Lib.hid (HX2.out.sub hb3)
 have HY3:=Lib.hid (HY2.out.sub hb3)
 have HZ3:=Lib.hid (HZ2.out.sub hb3)
 have HU3:=Lib.hid (HU2.out.sub hb3)
 clear hb3 x1 x2 x3 HX2 HY2 HZ2 HB2 HU2
 go_wp2_with fail
 refine (HM2.out _).mono ?_
 rintro e1 w4 ⟨rfl,hb4⟩
 have HB4:=Lib.hid (bel_alloc (bel_sub HB3.out hb4) (.cells #[.int .i64 vx,.int .i64 vy] 45))
 have HX4:=Lib.hid ((HX3.out.sub hb4).alloc (.cells #[.int .i64 vx,.int .i64 vy] 45))
 have HY4:=Lib.hid ((HY3.out.sub hb4).alloc (.cells #[.int .i64 vx,.int .i64 vy] 45))
 have HZ4:=Lib.hid ((HZ3.out.sub hb4).alloc (.cells #[.int .i64 vx,.int .i64 vy] 45))
 have HU4:=Lib.hid ((HU3.out.sub hb4).alloc (.cells #[.int .i64 vx,.int .i64 vy] 45))
 have HV4:=Lib.hid (Blk.new w4 45 #[.int .i64 vx,.int .i64 vy])
 clear hb4 HX3 HY3 HZ3 HB3 HU3
 obtain ⟨x1,x2,_,_⟩:=blk2 HU4.out
 obtain ⟨y1,y2,_,_⟩:=blk2 HV4.out
 go_wp2_with fail
 refine (HS.out _).mono ?_
 rintro e1 w5 ⟨rfl,hb5⟩
 have HB5:=Lib.hid (bel_alloc (bel_sub HB4.out hb5) (.cells #[.int .i64 x,.int .i64 y] 45))
 have HX5:=Lib.hid ((HX4.out.sub hb5).alloc (.cells #[.int .i64 x,.int .i64 y] 45))
 have HY5:=Lib.hid ((HY4.out.sub hb5).alloc (.cells #[.int .i64 x,.int .i64 y] 45))
 have HZ5:=Lib.hid ((HZ4.out.sub hb5).alloc (.cells #[.int .i64 x,.int .i64 y] 45))
 have HD5:=Lib.hid (Blk.new w5 45 #[.int .i64 x,.int .i64 y])
 clear hb5 x1 x2 y1 y2 HX4 HY4 HZ4 HB4 HU4 HV4
 obtain ⟨x1,x2,x3,_,_,_⟩:=blk3 HX5.out
 obtain ⟨y1,y2,y3,_,_,_⟩:=blk3 HY5.out
 have u1:IntKind.i64.wrap (mu-ml)=mu-ml:=IntWalk.i64_in _ (by omega)
 go_wp2_with fail
 refine (HC.out _).mono ?_
 rintro e1 w6 ⟨rfl,hb6⟩
 have HB6:=Lib.hid (bel_alloc (bel_sub HB5.out hb6) (.cells #[.int .i64 sg,.int .i64 cx,.int .i64 cy] 52))
 have HZ6:=Lib.hid ((HZ5.out.sub hb6).alloc (.cells #[.int .i64 sg,.int .i64 cx,.int .i64 cy] 52))
 have HD6:=Lib.hid ((HD5.out.sub hb6).alloc (.cells #[.int .i64 sg,.int .i64 cx,.int .i64 cy] 52))
 have HC6:=Lib.hid (Blk.new w6 52 #[.int .i64 sg,.int .i64 cx,.int .i64 cy])
 clear hb6 x1 x2 x3 y1 y2 y3 HX5 HY5 HZ5 HB5 HD5 HF1 HF2 HM1 HM2 HS HC u1
 obtain ⟨x1,x2,_,_⟩:=blk2 HD6.out
 obtain ⟨y1,y2,y3,_,_,_⟩:=blk3 HC6.out
 have z0:=HZ6.out.cell 0;have z1:=HZ6.out.cell 1;have z2:=HZ6.out.cell 2;have z3:=HZ6.out.cell 3;have z4:=HZ6.out.cell 4;have z5:=HZ6.out.cell 5
 have f0:=HZ6.out.frozen 0;have f1:=HZ6.out.frozen 1;have f2:=HZ6.out.frozen 2;have f3:=HZ6.out.frozen 3;have f4:=HZ6.out.frozen 4;have f5:=HZ6.out.frozen 5
 simp only [List.getElem?_toArray,List.getElem?_cons_zero,List.getElem?_cons_succ] at z0 z1 z2 z3 z4 z5
 have HZ7:=Lib.hid ((((((HZ6.out.set 0 (.int .i64 mu)).set 1 (.int .i64 ml)).set 2 (.int .i64 x)).set 3 (.int .i64 y)).set 4 (.int .i64 cx)).set 5 (.int .i64 cy))
 have HBZ:=Lib.hid (bel_set (g:=w.heap.size+1+1) (i:=5) (u:=.int .i64 cy) (bel_set (g:=w.heap.size+1+1) (i:=4) (u:=.int .i64 cx) (bel_set (g:=w.heap.size+1+1) (i:=3) (u:=.int .i64 y) (bel_set (g:=w.heap.size+1+1) (i:=2) (u:=.int .i64 x) (bel_set (g:=w.heap.size+1+1) (i:=1) (u:=.int .i64 ml) (bel_set (g:=w.heap.size+1+1) (i:=0) (u:=.int .i64 mu) HB6.out (by omega)) (by omega)) (by omega)) (by omega)) (by omega)) (by omega))
 go_wp2_with fail
 refine bodyPost_ret (results_ct0 rfl _ _ (w.heap.size+1+1) _ _ rfl HZ7.out Tryz.underlying64 rfl (by kernel_rfl)) rfl ?_
 exact ⟨rfl,HBZ.out⟩
end
section
open Go.RowKit
theorem ratOf_small {n d:Int} (hn:-1000000000≤n∧n≤1000000000) (h0:0<d) (h1:d≤1000000000) :
 (ratOf n d).2=true∧rvB (ratOf n d).1=true∧(1≤(ratOf n d).1.2∧(ratOf n d).1.2≤d)∧(ratOf n d).1.1.natAbs≤n.natAbs:=by
 have hr:ratOf n d=mkB n d:=by
  unfold ratOf
  rw [if_neg]
  rintro (h | h | h)
  ·omega
  ·rw [inB_iff.2 (by omega)] at h;cases h
  ·rw [inB_iff.2 (by omega)] at h;cases h
 have hg:0<Nat.gcd n.natAbs d.natAbs:=Nat.gcd_pos_of_pos_right _ (by omega)
 have hs:sg n d=((Nat.gcd n.natAbs d.natAbs:Nat):Int):=by unfold sg;rw [if_neg (by omega)]
 have hc:=Nat.coprime_div_gcd_div_gcd hg
 have hdl:d.natAbs / Nat.gcd n.natAbs d.natAbs≤d.natAbs:=Nat.div_le_self _ _
 have hnl:n.natAbs / Nat.gcd n.natAbs d.natAbs≤n.natAbs:=Nat.div_le_self _ _
 have hdp:0<d.natAbs / Nat.gcd n.natAbs d.natAbs:=Nat.div_pos (Nat.le_of_dvd (by omega) (Nat.gcd_dvd_right _ _)) hg
 obtain ⟨D,rfl⟩:=Int.eq_ofNat_of_zero_le (Int.le_of_lt h0)
 simp only [Int.natAbs_natCast] at *
 generalize Nat.gcd n.natAbs D=g at *
 have e1:(n.tdiv (g:Int)).natAbs=n.natAbs / g:=by rw [Int.natAbs_tdiv,Int.natAbs_natCast];rfl
 have e2:(D:Int).tdiv (g:Int)=((D / g:Nat):Int):=by rw [Int.tdiv_eq_ediv_of_nonneg (by omega)];rfl
 have hv:rvB (mk0 n (D:Int))=true:=by
  unfold mk0 rvB
  rw [hs]
  simp only [e2,Bool.and_eq_true,inB_iff,decide_eq_true_eq,Int.natAbs_natCast,e1]
  refine ⟨⟨⟨by omega,by omega⟩,by omega⟩,hc⟩
 have hk:mkB n (D:Int)=(mk0 n (D:Int),true):=by unfold mkB;rw [if_pos hv]
 rw [hr,hk]
 refine ⟨rfl,hv,?_,?_⟩
 ·show 1≤(mk0 n (D:Int)).2∧(mk0 n (D:Int)).2≤(D:Int)
  unfold mk0;rw [hs];simp only [e2];omega
 ·show (mk0 n (D:Int)).1.natAbs≤_
  unfold mk0;rw [hs];simp only [e1];exact hnl
theorem fz_small {t:T2} {j:Int} (h:lvB t j=true) (h6:j≤6):rvB (fz t j)=true∧(fz t j).1.natAbs≤1000∧(fz t j).2≤1000:=by
 have hl:=lvB_iff.1 h
 have hb:=tvB_iff.1 hl.1
 have hj:=(triB_iff.1 hl.2).1.2.2
 have hd:∀s l:Fin 9,∀j:Fin 7,lvB ((s.1:Int),(l.1:Int)) (j.1:Int)=true→rvB (fz ((s.1:Int),(l.1:Int)) (j.1:Int))=true∧(fz ((s.1:Int),(l.1:Int)) (j.1:Int)).1.natAbs≤1000∧(fz ((s.1:Int),(l.1:Int)) (j.1:Int)).2≤1000:=by decide +kernel
 obtain ⟨s,l⟩:=t
 obtain ⟨s,rfl⟩:=Int.eq_ofNat_of_zero_le hb.1.1
 obtain ⟨l,rfl⟩:=Int.eq_ofNat_of_zero_le hb.2.1
 obtain ⟨j,rfl⟩:=Int.eq_ofNat_of_zero_le hj.1
 have h8:=hb.1.2;have h9:=hb.2.2;simp at h8 h9
 exact hd ⟨s,by omega⟩ ⟨l,by omega⟩ ⟨j,by omega⟩ h
theorem half_small {m:Int} (h:-6≤m∧m≤6):rvB (half m)=true∧(half m).1.natAbs≤6∧(half m).2≤2:=by
 have:=ratOf_small (n:=m) (d:=2) (by omega) (by omega) (by omega)
 unfold half
 exact ⟨this.2.1,by omega,this.2.2.1.2⟩
theorem mulB_small {a b:T2} (ha:rvB a=true) (hb:rvB b=true) (a1:a.1.natAbs≤1000) (a2:a.2≤1000) (b1:b.1.natAbs≤6) (b2:b.2≤2) :
 (mulB a b).2=true∧rvB (mulB a b).1=true∧(mulB a b).1.1.natAbs≤6000∧(mulB a b).1.2≤2000:=by
 have g1:=rvB_bd (a:=a.1) (b:=a.2) ha
 have g2:=rvB_bd (a:=b.1) (b:=b.2) hb
 have m1:(a.1*b.1).natAbs≤6000:=by rw [Int.natAbs_mul];exact Nat.mul_le_mul a1 b1
 have m2:a.2*b.2≤1000*2:=Int.mul_le_mul a2 b2 (by omega) (by omega)
 have m3:0<a.2*b.2:=Int.mul_pos (by omega) (by omega)
 have:=ratOf_small (n:=a.1*b.1) (d:=a.2*b.2) (by omega) m3 (by omega)
 unfold mulB
 rw [if_pos (by simp [ha,hb])]
 exact ⟨this.1,this.2.1,by omega,by omega⟩
theorem subB_small {a b:T2} (ha:rvB a=true) (hb:rvB b=true) (a1:a.1.natAbs≤6000) (a2:a.2≤2000) (b1:b.1.natAbs≤6000) (b2:b.2≤2000):(subB a b).2=true:=by
 have g1:=rvB_bd (a:=a.1) (b:=a.2) ha
 have g2:=rvB_bd (a:=b.1) (b:=b.2) hb
 have m1:(a.1*b.2).natAbs≤6000*2000:=by rw [Int.natAbs_mul];exact Nat.mul_le_mul a1 (by omega)
 have m4:(-b.1*a.2).natAbs≤6000*2000:=by rw [Int.natAbs_mul,Int.natAbs_neg];exact Nat.mul_le_mul b1 (by omega)
 have m2:a.2*b.2≤2000*2000:=Int.mul_le_mul a2 b2 (by omega) (by omega)
 have m3:0<a.2*b.2:=Int.mul_pos (by omega) (by omega)
 unfold subB addB
 simp only [rvB_neg]
 rw [if_pos (by simp [ha,hb])]
 exact (ratOf_small (by omega) m3 (by omega)).1
theorem shR_ok {tu tl:T2} {ju jl mu ml:Int} (hu:lvB tu ju=true) (hl:lvB tl jl=true) (u6:ju≤6) (l6:jl≤6) (hm:-6≤mu∧mu≤6) (hn:-6≤ml∧ml≤6):(shR (fz tu ju) mu (fz tl jl) ml).2=true:=by
 obtain ⟨a1,a2,a3⟩:=fz_small hu u6
 obtain ⟨b1,b2,b3⟩:=fz_small hl l6
 obtain ⟨c1,c2,c3⟩:=half_small hm
 obtain ⟨d1,d2,d3⟩:=half_small hn
 obtain ⟨e1,e2,e3,e4⟩:=mulB_small a1 c1 a2 a3 c2 c3
 obtain ⟨f1,f2,f3,f4⟩:=mulB_small b1 d1 b2 b3 d2 d3
 unfold shR
 simp only [e1,f1,Bool.true_and]
 exact subB_small e2 f2 e3 e4 f3 f4
theorem clR_all {jl ju ml mu:Int} (hl:0≤jl∧jl≤6) (hu:0≤ju∧ju≤6) (ht:triB jl 2 ju=true) (hm:-ju≤mu∧mu≤ju) (hn:-jl≤ml∧ml≤jl) (pm:(ju+mu) % 2=0) (pn:(jl+ml) % 2=0) (hd:(mu-ml).natAbs≤2):(clR jl 2 ju ml (mu-ml)).2=true:=by
 have h:∀jl ju:Fin 7,∀mu ml:Fin 13,(triB (jl.1:Int) 2 (ju.1:Int) && (decide (-(ju.1:Int)≤(mu.1:Int)-6∧(mu.1:Int)-6≤(ju.1:Int)) && (decide (-(jl.1:Int)≤(ml.1:Int)-6∧(ml.1:Int)-6≤(jl.1:Int)) && (decide (((ju.1:Int)+((mu.1:Int)-6)) % 2=0) && (decide (((jl.1:Int)+((ml.1:Int)-6)) % 2=0) && decide ((((mu.1:Int)-6)-((ml.1:Int)-6)).natAbs≤2))))))=true→(clR (jl.1:Int) 2 (ju.1:Int) ((ml.1:Int)-6) (((mu.1:Int)-6)-((ml.1:Int)-6))).2=true:=by decide +kernel
 obtain ⟨jl,rfl⟩:=Int.eq_ofNat_of_zero_le hl.1
 obtain ⟨ju,rfl⟩:=Int.eq_ofNat_of_zero_le hu.1
 have e1:(((mu+6).toNat:Nat):Int)-6=mu:=by omega
 have e2:(((ml+6).toNat:Nat):Int)-6=ml:=by omega
 have h2:=h ⟨jl,by omega⟩ ⟨ju,by omega⟩ ⟨(mu+6).toNat,by omega⟩ ⟨(ml+6).toNat,by omega⟩
 simp only [e1,e2] at h2
 exact h2 (by simp only [Bool.and_eq_true,decide_eq_true_eq];exact ⟨ht,hm,hn,pm,pn,hd⟩)
end
section
open Go.RowKit
attribute [local go_sem ↓] Go.wp_at_zero Go.wp_at_succ
def sprow (jl mu:Int) (k:Nat):List (Int × Int):=((prj jl k).filter fun ml=>decide ((mu-ml).natAbs≤2)).map fun ml=>(mu,ml)
def sprows (ju jl:Int) (r:Nat):List (Int × Int):=(prj ju r).flatMap fun mu=>sprow jl mu (jl.toNat+1)
def spPs (ju jl:Int):List (Int × Int):=sprows ju jl (ju.toNat+1)
def spcells (gu:T2) (ju:Int) (gl:T2) (jl:Int) (ps:List (Int × Int)):List Value:=ps.flatMap fun p=>entC gu ju gl jl p.1 p.2
def spOk (tu:T2) (ju:Int) (tl:T2) (jl:Int):Bool:=lvB tu ju && (lvB tl jl && (decide (ju≤6) && (decide (jl≤6) && triB jl 2 ju)))
def spL (tu:T2) (ju:Int) (tl:T2) (jl:Int):List (Int × Int):=if spOk tu ju tl jl=true then spPs ju jl else []
def SplitsPost (w:World) (tu:T2) (ju:Int) (tl:T2) (jl:Int) (e:Ending) (w':World):Prop :=
 (∃A c,e=.returned (.tuple #[.slice A (spL tu ju tl jl).length c,.bool (spOk tu ju tl jl)])∧w'.ownsRow w.heap.size 64 6 (.slice A (spL tu ju tl jl).length c) (spL tu ju tl jl).length (spcells (fz tu ju) ju (fz tl jl) jl (spL tu ju tl jl)))∧Below w.heap.size w w'
theorem spOk_iff {tu tl:T2} {ju jl:Int}:spOk tu ju tl jl=true↔lvB tu ju=true∧lvB tl jl=true∧ju≤6∧jl≤6∧triB jl 2 ju=true:=by
 simp only [spOk,Bool.and_eq_true,decide_eq_true_eq]
theorem prj_at {j:Int} {k n:Nat} (h:k<n):(prj j n)[k]?=some (-j+2*(k:Int)):=by simp [prj,h]
theorem sprows_succ (ju jl r:Nat):sprows ju jl (r+1)=sprows ju jl r++sprow jl (-(ju:Int)+2*(r:Int)) (jl+1):=by simp [sprows,prj_succ,Int.toNat_natCast]
theorem sprow_len (jl:Nat) (mu:Int) (k:Nat):(sprow jl mu k).length≤k:=by
 unfold sprow
 rw [List.length_map]
 exact Nat.le_trans (List.length_filter_le _ _) (Nat.le_of_eq (prj_len _ _))
theorem sprows_len (ju jl:Nat):∀r:Nat,(sprows ju jl r).length≤r*(jl+1)
 | 0=>by simp [sprows,prj]
 | r+1=>by
  have h1:=sprows_len ju jl r
  have h2:=sprow_len jl (-(ju:Int)+2*(r:Int)) (jl+1)
  rw [sprows_succ,List.length_append,Nat.add_mul]
  omega
theorem st_6 {T:TypeId} (hi:(Tryz.prog.info? T).map (·.size)=some 6) (W:World) (g:Nat) (z0 z1 z2 z3 z4 z5 a b c d e f:Value) (ha:a.oneCell'=true) (hb:b.oneCell'=true) (hc:c.oneCell'=true) (hd:d.oneCell'=true) (he:e.oneCell'=true) (hf:f.oneCell'=true) (h:Blk W g T #[z0,z1,z2,z3,z4,z5]) :
 ∃W',(Instr.storeAt T (.pointer (some ⟨g,0,none⟩)) (.agg #[a,b,c,d,e,f])).run Tryz.prog W=.ok () W'∧Fr.Wrote W W' g∧Blk W' g T #[a,b,c,d,e,f]:=by
 refine ⟨(((((W.setCell ⟨g,0,none⟩ a).setCell ⟨g,1,none⟩ b).setCell ⟨g,2,none⟩ c).setCell ⟨g,3,none⟩ d).setCell ⟨g,4,none⟩ e).setCell ⟨g,5,none⟩ f,?_,(((((Fr.wrote_set W g 0 a).trans (Fr.wrote_set _ g 1 b)).trans (Fr.wrote_set _ g 2 c)).trans (Fr.wrote_set _ g 3 d)).trans (Fr.wrote_set _ g 4 e)).trans (Fr.wrote_set _ g 5 f),(((((h.set 0 a).set 1 b).set 2 c).set 3 d).set 4 e).set 5 f⟩
 refine run_storeAt_mid W g 0 T #[a,b,c,d,e,f] (fun j hj=>?_) hi (by simp [ha,hb,hc,hd,he,hf])
 have hj:j=0∨j=1∨j=2∨j=3∨j=4∨j=5:=by simp at hj;omega
 refine ⟨?_,h.frozen _⟩
 rw [Nat.zero_add,h.cell]
 rcases hj with rfl | rfl | rfl | rfl | rfl | rfl <;> rfl
theorem sprow_zero (jl:Nat) (mu:Int):sprow (jl:Int) mu 0=[]:=rfl
theorem sprow_no {jl:Nat} {mu ml:Int} {k:Nat} (h:ml=-(jl:Int)+2*(k:Int)) (hn:¬(mu-ml).natAbs≤2):sprow jl mu (k+1)=sprow jl mu k:=by
 subst h
 unfold sprow
 rw [prj_succ,List.filter_append,List.map_append]
 simp [hn]
theorem sprow_yes {jl:Nat} {mu ml:Int} {k:Nat} (h:ml=-(jl:Int)+2*(k:Int)) (hn:(mu-ml).natAbs≤2):sprow jl mu (k+1)=sprow jl mu k++[(mu,ml)]:=by
 subst h
 unfold sprow
 rw [prj_succ,List.filter_append,List.map_append]
 simp [hn]
theorem spcells_snoc (gu:T2) (ju:Int) (gl:T2) (jl:Int) (ps:List (Int × Int)) (a b:Int):spcells gu ju gl jl (ps++[(a,b)])=spcells gu ju gl jl ps++entC gu ju gl jl a b:=by simp [spcells]
theorem elSplit:ElemOk Tryz.prog 59 64 6 48:=elemOk Tryz.underlying59 (z:=.agg #[.int .i64 0,.int .i64 0,.int .i64 0,.int .i64 0,.int .i64 0,.int .i64 0]) (by kernel_rfl) rfl (by omega)
theorem specSplitOf_any (su lu ju sl ll jl:Int) (w:World) :
 Calls Tryz.prog 31 #[.agg #[.int .i64 su,.int .i64 lu,.int .i64 ju],.agg #[.int .i64 sl,.int .i64 ll,.int .i64 jl]] w (SplitsPost w (su,lu) ju (sl,ll) jl):=by
 have HB:=Lib.hid (bel_alloc (bel_alloc (bel_alloc (Below.refl w.heap.size w) (.cells #[.int .i64 su,.int .i64 lu,.int .i64 ju] 31)) (.cells #[.int .i64 sl,.int .i64 ll,.int .i64 jl] 31)) (.cells #[] 64))
 have hx:=((Blk.new w 31 #[.int .i64 su,.int .i64 lu,.int .i64 ju]).alloc (.cells #[.int .i64 sl,.int .i64 ll,.int .i64 jl] 31)).alloc (.cells #[] 64)
 have hy:=(Blk.new (w.alloc (.cells #[.int .i64 su,.int .i64 lu,.int .i64 ju] 31)) 31 #[.int .i64 sl,.int .i64 ll,.int .i64 jl]).alloc (.cells #[] 64)
 have hz:=own_empty ((w.alloc (.cells #[.int .i64 su,.int .i64 lu,.int .i64 ju] 31)).alloc (.cells #[.int .i64 sl,.int .i64 ll,.int .i64 jl] 31)) 64 6
 simp only [World.size_alloc] at hy hz
 have HX:=Lib.hid hx;have HY:=Lib.hid hy;have HO:=Lib.hid hz;clear hx hy hz
 have HV1:=Lib.hid (fun W=>specLevelValid_all (su,lu) ju W)
 have HV2:=Lib.hid (fun W=>specLevelValid_all (sl,ll) jl W)
 have HTR:=Lib.hid (fun W=>specTriangle_all jl 2 ju W)
 simp only at HV1 HV2
 obtain ⟨x1,x2,x3,_,_,_⟩:=blk3 HX.out
 cases v1:lvB (su,lu) ju
 ·have hk:spOk (su,lu) ju (sl,ll) jl=false:=by unfold spOk;rw [v1];rfl
  rw [v1] at HV1;clear v1
  have HF:=Lib.hid (show spL (su,lu) ju (sl,ll) jl=[] by unfold spL;rw [hk];rfl)
  have HK:=Lib.hid hk
  clear hk
  go_enter Tryz.func31,Tryz.ntmps31
  go_wp2_with fail
  refine (HV1.out _).mono ?_
  rintro e1 w1 ⟨rfl,hb1⟩
  have HB1:=Lib.hid (bel_sub HB.out hb1);have HX1:=Lib.hid (HX.out.sub hb1);have HY1:=Lib.hid (HY.out.sub hb1);have HO1:=Lib.hid (own_below HO.out hb1);clear hb1 x1 x2 x3 HX HY HO HB
  go_wp2_with fail
  go_ret2
  exact ⟨⟨_,_,by rw [HF.out,HK.out];rfl,by rw [HF.out];exact own_mono HO1.out (Nat.le_trans (Nat.le_succ _) (Nat.le_succ _))⟩,HB1.out⟩
 cases v2:lvB (sl,ll) jl
 ·have hk:spOk (su,lu) ju (sl,ll) jl=false:=by unfold spOk;rw [v1,v2];rfl
  rw [v1] at HV1;rw [v2] at HV2;clear v1 v2
  have HF:=Lib.hid (show spL (su,lu) ju (sl,ll) jl=[] by unfold spL;rw [hk];rfl)
  have HK:=Lib.hid hk
  clear hk
  go_enter Tryz.func31,Tryz.ntmps31
  go_wp2_with fail
  refine (HV1.out _).mono ?_
  rintro e1 w1 ⟨rfl,hb1⟩
  have HB1:=Lib.hid (bel_sub HB.out hb1);have HX1:=Lib.hid (HX.out.sub hb1);have HY1:=Lib.hid (HY.out.sub hb1);have HO1:=Lib.hid (own_below HO.out hb1);clear hb1 x1 x2 x3 HX HY HO HB
  obtain ⟨x1,x2,x3,_,_,_⟩:=blk3 HY1.out
  go_wp2_with fail
  refine (HV2.out _).mono ?_
  rintro e1 w2 ⟨rfl,hb2⟩
  have HB2:=Lib.hid (bel_sub HB1.out hb2);have HX2:=Lib.hid (HX1.out.sub hb2);have HY2:=Lib.hid (HY1.out.sub hb2);have HO2:=Lib.hid (own_below HO1.out hb2);clear hb2 x1 x2 x3 HX1 HY1 HO1 HB1
  obtain ⟨x1,x2,x3,_,_,_⟩:=blk3 HX2.out
  obtain ⟨y1,y2,y3,_,_,_⟩:=blk3 HY2.out
  go_wp2_with fail
  go_ret2
  exact ⟨⟨_,_,by rw [HF.out,HK.out];rfl,by rw [HF.out];exact own_mono HO2.out (Nat.le_trans (Nat.le_succ _) (Nat.le_succ _))⟩,HB2.out⟩
 by_cases c1:ju≤6
 case neg =>
  have hk:spOk (su,lu) ju (sl,ll) jl=false:=by unfold spOk;rw [decide_eq_false c1];simp
  rw [v1] at HV1;rw [v2] at HV2;clear v1 v2
  have HF:=Lib.hid (show spL (su,lu) ju (sl,ll) jl=[] by unfold spL;rw [hk];rfl)
  have HK:=Lib.hid hk
  clear hk
  go_enter Tryz.func31,Tryz.ntmps31
  go_wp2_with fail
  refine (HV1.out _).mono ?_
  rintro e1 w1 ⟨rfl,hb1⟩
  have HB1:=Lib.hid (bel_sub HB.out hb1);have HX1:=Lib.hid (HX.out.sub hb1);have HY1:=Lib.hid (HY.out.sub hb1);have HO1:=Lib.hid (own_below HO.out hb1);clear hb1 x1 x2 x3 HX HY HO HB
  obtain ⟨x1,x2,x3,_,_,_⟩:=blk3 HY1.out
  go_wp2_with fail
  refine (HV2.out _).mono ?_
  rintro e1 w2 ⟨rfl,hb2⟩
  have HB2:=Lib.hid (bel_sub HB1.out hb2);have HX2:=Lib.hid (HX1.out.sub hb2);have HY2:=Lib.hid (HY1.out.sub hb2);have HO2:=Lib.hid (own_below HO1.out hb2);clear hb2 x1 x2 x3 HX1 HY1 HO1 HB1
  obtain ⟨x1,x2,x3,_,_,_⟩:=blk3 HX2.out
  obtain ⟨y1,y2,y3,_,_,_⟩:=blk3 HY2.out
  go_wp2_with fail
  go_ret2
  exact ⟨⟨_,_,by rw [HF.out,HK.out];rfl,by rw [HF.out];exact own_mono HO2.out (Nat.le_trans (Nat.le_succ _) (Nat.le_succ _))⟩,HB2.out⟩
 by_cases c2:jl≤6
 case neg =>
  have hk:spOk (su,lu) ju (sl,ll) jl=false:=by unfold spOk;rw [decide_eq_false c2];simp
  rw [v1] at HV1;rw [v2] at HV2;clear v1 v2
  have HF:=Lib.hid (show spL (su,lu) ju (sl,ll) jl=[] by unfold spL;rw [hk];rfl)
  have HK:=Lib.hid hk
  clear hk
  go_enter Tryz.func31,Tryz.ntmps31
  go_wp2_with fail
  refine (HV1.out _).mono ?_
  rintro e1 w1 ⟨rfl,hb1⟩
  have HB1:=Lib.hid (bel_sub HB.out hb1);have HX1:=Lib.hid (HX.out.sub hb1);have HY1:=Lib.hid (HY.out.sub hb1);have HO1:=Lib.hid (own_below HO.out hb1);clear hb1 x1 x2 x3 HX HY HO HB
  obtain ⟨x1,x2,x3,_,_,_⟩:=blk3 HY1.out
  go_wp2_with fail
  refine (HV2.out _).mono ?_
  rintro e1 w2 ⟨rfl,hb2⟩
  have HB2:=Lib.hid (bel_sub HB1.out hb2);have HX2:=Lib.hid (HX1.out.sub hb2);have HY2:=Lib.hid (HY1.out.sub hb2);have HO2:=Lib.hid (own_below HO1.out hb2);clear hb2 x1 x2 x3 HX1 HY1 HO1 HB1
  obtain ⟨x1,x2,x3,_,_,_⟩:=blk3 HX2.out
  obtain ⟨y1,y2,y3,_,_,_⟩:=blk3 HY2.out
  go_wp2_with fail
  go_ret2
  exact ⟨⟨_,_,by rw [HF.out,HK.out];rfl,by rw [HF.out];exact own_mono HO2.out (Nat.le_trans (Nat.le_succ _) (Nat.le_succ _))⟩,HB2.out⟩
 cases v3:triB jl 2 ju
 ·have hk:spOk (su,lu) ju (sl,ll) jl=false:=by unfold spOk;rw [v3];simp
  rw [v1] at HV1;rw [v2] at HV2;rw [v3] at HTR;clear v1 v2 v3
  have HF:=Lib.hid (show spL (su,lu) ju (sl,ll) jl=[] by unfold spL;rw [hk];rfl)
  have HK:=Lib.hid hk
  clear hk
  go_enter Tryz.func31,Tryz.ntmps31
  go_wp2_with fail
  refine (HV1.out _).mono ?_
  rintro e1 w1 ⟨rfl,hb1⟩
  have HB1:=Lib.hid (bel_sub HB.out hb1);have HX1:=Lib.hid (HX.out.sub hb1);have HY1:=Lib.hid (HY.out.sub hb1);have HO1:=Lib.hid (own_below HO.out hb1);clear hb1 x1 x2 x3 HX HY HO HB
  obtain ⟨x1,x2,x3,_,_,_⟩:=blk3 HY1.out
  go_wp2_with fail
  refine (HV2.out _).mono ?_
  rintro e1 w2 ⟨rfl,hb2⟩
  have HB2:=Lib.hid (bel_sub HB1.out hb2);have HX2:=Lib.hid (HX1.out.sub hb2);have HY2:=Lib.hid (HY1.out.sub hb2);have HO2:=Lib.hid (own_below HO1.out hb2);clear hb2 x1 x2 x3 HX1 HY1 HO1 HB1
  obtain ⟨x1,x2,x3,_,_,_⟩:=blk3 HX2.out
  obtain ⟨y1,y2,y3,_,_,_⟩:=blk3 HY2.out
  go_wp2_with fail
  refine (HTR.out _).mono ?_
  rintro e1 w3 ⟨rfl,rfl⟩
  go_wp2_with fail
  go_ret2
  exact ⟨⟨_,_,by rw [HF.out,HK.out];rfl,by rw [HF.out];exact own_mono HO2.out (Nat.le_trans (Nat.le_succ _) (Nat.le_succ _))⟩,HB2.out⟩
 have hk:spOk (su,lu) ju (sl,ll) jl=true:=spOk_iff.2 ⟨v1,v2,c1,c2,v3⟩
 have hju:=(triB_iff.1 v3).1.2.2
 have hjl:=(triB_iff.1 v3).1.1
 obtain ⟨ju,rfl⟩:=Int.eq_ofNat_of_zero_le hju.1
 obtain ⟨jl,rfl⟩:=Int.eq_ofNat_of_zero_le hjl.1
 clear hju hjl
 have HP1:=Lib.hid (fun W=>specProjections_any ju W (by omega))
 have HP2:=Lib.hid (fun W=>specProjections_any jl W (by omega))
 unfold IntsPost at HP1 HP2
 rw [prj_len] at HP1 HP2
 have HSH:=Lib.hid (fun mu ml (h:(-6≤mu∧mu≤6)∧(-6≤ml∧ml≤6))=>shR_ok v1 v2 c1 c2 h.1 h.2)
 rw [v1] at HV1;rw [v2] at HV2;rw [v3] at HTR
 have HF:=Lib.hid (show spL (su,lu) ju (sl,ll) jl=spPs ju jl by unfold spL;rw [hk];rfl)
 have HK:=Lib.hid hk
 clear hk
 go_enter Tryz.func31,Tryz.ntmps31
 go_wp2_with fail
 refine (HV1.out _).mono ?_
 rintro e1 w1 ⟨rfl,hb1⟩
 have HB1:=Lib.hid (bel_sub HB.out hb1);have HX1:=Lib.hid (HX.out.sub hb1);have HY1:=Lib.hid (HY.out.sub hb1);have HO1:=Lib.hid (own_below HO.out hb1);clear hb1 x1 x2 x3 HX HY HO HB
 obtain ⟨x1,x2,x3,_,_,_⟩:=blk3 HY1.out
 go_wp2_with fail
 refine (HV2.out _).mono ?_
 rintro e1 w2 ⟨rfl,hb2⟩
 have HB2:=Lib.hid (bel_sub HB1.out hb2);have HX2:=Lib.hid (HX1.out.sub hb2);have HY2:=Lib.hid (HY1.out.sub hb2);have HO2:=Lib.hid (own_below HO1.out hb2);clear hb2 x1 x2 x3 HX1 HY1 HO1 HB1
 obtain ⟨x1,x2,x3,_,_,_⟩:=blk3 HX2.out
 obtain ⟨y1,y2,y3,_,_,_⟩:=blk3 HY2.out
 go_wp2_with fail
 refine (HTR.out _).mono ?_
 rintro e1 w3 ⟨rfl,rfl⟩
 go_wp2_with fail
 refine (HP1.out _).mono ?_
 rintro e1 w3 ⟨⟨A1,c1',rfl,hr3⟩,hb3⟩
 have HB3:=Lib.hid (bel_sub HB2.out hb3);have HX3:=Lib.hid (HX2.out.sub hb3);have HY3:=Lib.hid (HY2.out.sub hb3);have HO3:=Lib.hid (own_below HO2.out hb3)
 have HR3:=Lib.hid hr3;clear hb3 hr3 x1 x2 x3 y1 y2 y3 HX2 HY2 HO2 HB2 HV1 HV2 HTR
 obtain ⟨x1,x2,x3,_,_,_⟩:=blk3 HY3.out
 go_wp2_with fail
 refine (HP2.out _).mono ?_
 rintro e1 w4 ⟨⟨A2,c2',rfl,hr4⟩,hb4⟩
 have HB4:=Lib.hid (bel_sub HB3.out hb4);have HX4:=Lib.hid (HX3.out.sub hb4);have HY4:=Lib.hid (HY3.out.sub hb4);have HO4:=Lib.hid (own_below HO3.out hb4)
 have HR4:=Lib.hid (own_below HR3.out hb4);have HQ4:=Lib.hid hr4;clear hb4 hr4 x1 x2 x3 HX3 HY3 HO3 HB3 HR3
 have hs4:w.heap.size+1<w4.heap.size:=HY4.out.lt
 go_wp2_with fail
 go_loopw [6,9] (fun v i wr=>∃(r:Nat) (A:Option Addr) (c:Nat),r≤ju+1∧i=.int .i64 r∧v=.slice A (sprows ju jl r).length c∧Hid (wr.ownsRow (w.heap.size+1+1) 64 6 (.slice A (sprows ju jl r).length c) (sprows ju jl r).length (spcells (fz (su,lu) ju) ju (fz (sl,ll) jl) jl (sprows ju jl r)))∧Hid (wr.ownsRow w2.heap.size 3 1 (.slice A1 (ju+1) c1') (ju+1) (icells (prj (ju:Int) (ju+1))))∧Hid (wr.ownsRow w3.heap.size 3 1 (.slice A2 (jl+1) c2') (jl+1) (icells (prj (jl:Int) (jl+1))))∧Hid (Below (w.heap.size+1+1) w4 wr)) (fun _ i _=>ju+1-(RowKit.intOf i).toNat)
 case atStart=>exact ⟨0,_,_,Nat.zero_le _,rfl,rfl,HO4.out,HR4.out,HQ4.out,Below.refl _ _⟩
 case round =>
  obtain ⟨r,A,c,hr,rfl,rfl,HO,HR,HQ,HB⟩:=hrel
  by_cases hlt:r<ju+1
  ·obtain ⟨b,off,mu,rfl,hb,r1,HM,_⟩:=(own_reads HR.out).int hlt
   have hmu:=prj_at (j:=(ju:Int)) hlt
   rw [HM.out] at hmu
   have hmu:mu=-(ju:Int)+2*(r:Int):=by simpa using hmu
   have i0:(0:Int)≤(r:Int):=by omega
   have i1:(r:Int)<(ju:Int)+1:=by omega
   have hmb:-6≤mu∧mu≤6:=by omega
   have HMU:=Lib.hid hmu
   obtain ⟨b2,off2,_,rfl,_,_,_,_⟩:=(own_reads HQ.out).int (show 0<jl+1 by omega)
   have HSR:=Lib.hid (sprows_succ ju jl r)
   rw [←hmu] at HSR
   have hrl:=sprows_len ju jl r
   have hr7:r*(jl+1)≤6*7:=Nat.mul_le_mul (by omega) (by omega)
   clear hmu HM r1
   go_wp2_with fail
   go_loopw [6,10] (fun v i wx=>∃(k:Nat) (A:Option Addr) (c:Nat),k≤jl+1∧i=.int .i64 k∧v=.slice A (sprows ju jl r++sprow jl mu k).length c∧Hid (wx.ownsRow (w.heap.size+1+1) 64 6 (.slice A (sprows ju jl r++sprow jl mu k).length c) (sprows ju jl r++sprow jl mu k).length (spcells (fz (su,lu) ju) ju (fz (sl,ll) jl) jl (sprows ju jl r++sprow jl mu k)))∧Hid (wx.ownsRow w2.heap.size 3 1 (.slice (some ⟨b,off,none⟩) (ju+1) c1') (ju+1) (icells (prj (ju:Int) (ju+1))))∧Hid (wx.ownsRow w3.heap.size 3 1 (.slice (some ⟨b2,off2,none⟩) (jl+1) c2') (jl+1) (icells (prj (jl:Int) (jl+1))))∧Hid (Below (w.heap.size+1+1) w4 wx)) (fun _ i _=>jl+1-(RowKit.intOf i).toNat)
   case atStart=>exact ⟨0,A,c,Nat.zero_le _,rfl,by rw [sprow_zero,List.append_nil],by rw [sprow_zero,List.append_nil];exact HO.out,HR.out,HQ.out,HB.out⟩
   case round =>
    clear HO HR HQ HB hb
    obtain ⟨k,A',c',hk,rfl,rfl,HO,HR,HQ,HB⟩:=hrel
    have hsw:w4.heap.size≤wr.heap.size:=HB.out.size
    by_cases hlk:k<jl+1
    ·obtain ⟨_,_,mu',e,hb,r1,HM,_⟩:=(own_reads HR.out).int hlt
     injection e with e;injection e with e1 e2;subst e1;subst e2
     have hmu:mu'=mu:=by
      have h1:=HM.out;rw [prj_at hlt] at h1
      have h2:=HMU.out
      injection h1 with h1
      omega
     subst hmu
     obtain ⟨_,_,ml,e,hb2,r2,HM2,_⟩:=(own_reads HQ.out).int hlk
     injection e with e;injection e with e1 e2;subst e1;subst e2
     have hml:ml=-(jl:Int)+2*(k:Int):=by have h:=prj_at (j:=(jl:Int)) hlk;rw [HM2.out] at h;simpa using h
     have HML:=Lib.hid hml
     have hmlb:-6≤ml∧ml≤6:=by omega
     have i2:(0:Int)≤(k:Int):=by omega
     have i3:(k:Int)<(jl:Int)+1:=by omega
     have u1:IntKind.i64.wrap (mu'-ml)=mu'-ml:=IntWalk.i64_in _ (by omega)
     have HABS:=Lib.hid (fun W=>l1Abs_any (mu'-ml) W (by omega) (by omega))
     have hrl2:=sprow_len jl mu' k
     have hlen:(sprows ju jl r++sprow jl mu' k).length≤1000:=by rw [List.length_append];omega
     have k1:=After.cell r1
     have k2:=After.cell r2
     clear hml HM HM2
     by_cases hd:(mu'-ml).natAbs≤2
     ·have hgt:¬(((mu'-ml).natAbs:Nat):Int) > 2:=by omega
      have HSN:=Lib.hid (sprow_yes HML.out hd)
      have HSH1:=Lib.hid (HSH.out mu' ml ⟨hmb,hmlb⟩)
      obtain ⟨ab,hab⟩:∃ab:Nat,(mu'-ml).natAbs=ab:=⟨_,rfl⟩
      rw [hab] at HABS hgt
      clear hab hd
      obtain ⟨len,hln⟩:∃len,(sprows ju jl r++sprow jl mu' k).length=len:=⟨_,rfl⟩
      rw [hln] at hlen HO
      rw [hln]
      have HLN:=Lib.hid hln;clear hln
      go_wp2_with fail
      refine wp_region_after (by kernel_rfl) (by kernel_rfl) ?_
      repeat (go_big_quiet_step ((go_at_call 85;exact after_same _ (HABS.out _))))
      refine wpQuiet_nil ?_
      intro w9 hw'
      obtain ⟨⟨w9q,hb9⟩,hw''⟩:=hw'
      subst hw''
      have HB9:=Lib.hid (HB.out.trans (hb9.mono (by omega)))
      have HX9:=Lib.hid (HX4.out.below HB9.out (by omega))
      have HY9:=Lib.hid (HY4.out.below HB9.out (by omega))
      have HO9:=Lib.hid (own_below HO.out hb9)
      have HR9:=Lib.hid (own_below HR.out hb9)
      have HQ9:=Lib.hid (own_below HQ.out hb9)
      have r3:=cell_sub hb9 r1
      have r4:=cell_sub hb9 r2
      have hs9:=HB9.out.size
      obtain ⟨x1,x2,x3,_,_,_⟩:=blk3 HX9.out
      obtain ⟨y1,y2,y3,_,_,_⟩:=blk3 HY9.out
      have HONE:=Lib.hid (fun W=>l26One_any su lu ju sl ll jl mu' ml W (by omega) (by omega) HSH1.out)
      obtain ⟨n1,hn1⟩:∃n1,(shR (fz (su,lu) ju) mu' (fz (sl,ll) jl) ml).1.1=n1:=⟨_,rfl⟩
      obtain ⟨n2,hn2⟩:∃n2,(shR (fz (su,lu) ju) mu' (fz (sl,ll) jl) ml).1.2=n2:=⟨_,rfl⟩
      obtain ⟨n3,hn3⟩:∃n3,(clR jl 2 ju ml (mu'-ml)).1.2.1=n3:=⟨_,rfl⟩
      obtain ⟨n4,hn4⟩:∃n4,(clR jl 2 ju ml (mu'-ml)).1.2.2=n4:=⟨_,rfl⟩
      have HE:Hid (entC (fz (su,lu) ju) ju (fz (sl,ll) jl) jl mu' ml=[.int .i64 mu',.int .i64 ml,.int .i64 n1,.int .i64 n2,.int .i64 n3,.int .i64 n4]):=by unfold Hid entC;rw [hn1,hn2,hn3,hn4]
      rw [HE.out] at HONE
      clear hb9 r1 r2 k1 k2 HO HR HQ HB hn1 hn2 hn3 hn4 HABS HSH1
      go_wp2_with fail
      refine Fr.region_free' [(64,11)] [(64,11,.tmp 82)] (fun _=>64) (fun _=>#[.int .i64 0,.int .i64 0,.int .i64 0,.int .i64 0,.int .i64 0,.int .i64 0]) (fun _=>#[.int .i64 mu',.int .i64 ml,.int .i64 n1,.int .i64 n2,.int .i64 n3,.int .i64 n4]) 92 (by kernel_rfl) rfl (by kernel_rfl) rfl rfl ?hxq ?hal ?h
      case hxq=>intro s hs e he;simp at hs;subst hs;simp at he;subst he;simp
      case hal=>intro x hx W;simp at hx;subst hx;simp [go_sem]
      case h =>
      apply Exists.intro
      refine ⟨?hW,?hst,?hQ⟩
      case hW =>
       intro A θ hne
       have j1:=fun p:Fr.AftB w9 (fun _=>64) A θ=>p.cell x1
       have j2:=fun p:Fr.AftB w9 (fun _=>64) A θ=>p.cell x2
       have j3:=fun p:Fr.AftB w9 (fun _=>64) A θ=>p.cell x3
       have j4:=fun p:Fr.AftB w9 (fun _=>64) A θ=>p.cell y1
       have j5:=fun p:Fr.AftB w9 (fun _=>64) A θ=>p.cell y2
       have j6:=fun p:Fr.AftB w9 (fun _=>64) A θ=>p.cell y3
       have j7:=fun p:Fr.AftB w9 (fun _=>64) A θ=>p.cell r3
       have j8:=fun p:Fr.AftB w9 (fun _=>64) A θ=>p.cell r4
       simp only [List.filter_cons,List.filter_nil,Fr.isQ,Fr.alOf,Fr.stOf,Option.isNone_none,Option.isNone_some,Bool.and_self,Bool.and_true,Bool.and_false,Bool.false_eq_true,↓reduceIte]
       repeat (go_big_quiet_step ((go_at_call 86;exact Fr.aftB_call _ (HONE.out _))))
       exact wpQuiet_nil rfl
      case hst =>
       intro s hs W g hB
       simp at hs
       subst hs
       exact st_6 (by kernel_rfl) W g _ _ _ _ _ _ (.int .i64 mu') (.int .i64 ml) (.int .i64 n1) (.int .i64 n2) (.int .i64 n3) (.int .i64 n4) rfl rfl rfl rfl rfl rfl hB
      case hQ =>
      intro A w10 hb hals hap
      obtain ⟨hA,hbl⟩:=hals (64,11) (by simp)
      simp only at hA hbl
      have HB10:=Lib.hid (HB9.out.trans (hb.mono (by omega)))
      have HO10:=Lib.hid (own_below HO9.out hb)
      have HR10:=Lib.hid (own_below HR9.out hb)
      have HQ10:=Lib.hid (own_below HQ9.out hb)
      have hs10:=hb.size
      have HG:=Lib.hid hbl
      have g0:=hbl.cell 0;have g1:=hbl.cell 1;have g2:=hbl.cell 2;have g3:=hbl.cell 3;have g4:=hbl.cell 4;have g5:=hbl.cell 5
      simp only [List.getElem?_toArray,List.getElem?_cons_zero,List.getElem?_cons_succ] at g0 g1 g2 g3 g4 g5
      clear hals hap hb hbl x1 x2 x3 y1 y2 y3 r3 r4 HX9 HY9 HO9 HR9 HQ9 HB9 HONE
      simp only [Fr.putAls,Act.put,List.setIfInBounds_toArray,List.set_cons_succ,List.set_cons_zero]
      generalize A 11=g at *
      go_wp2_with (at_builtin;refine wpList_app1K _ rfl (.tmp 87) (.tmp 89) _ rfl (w.heap.size+1+1) 64 6 48 elSplit A' c' len (spcells (fz (su,lu) ju) ju (fz (sl,ll) jl) jl (sprows ju jl r++sprow jl mu' k)) rfl (HO10.out.alloc _) w10.heap.size #[.int .i64 mu',.int .i64 ml,.int .i64 n1,.int .i64 n2,.int .i64 n3,.int .i64 n4] rfl (Blk.new w10 _ _) rfl ?h1 (by omega) (by omega) (by simp;omega) ?_)
      case h1=>exact ⟨rfl,rfl,rfl,rfl,rfl,rfl⟩
      intro A2 cc2 w11 hown hc hb hk
      have HB11:=Lib.hid (((HB10.out.alloc (by omega) _).trans hb))
      have HO11:Hid (w11.ownsRow (w.heap.size+1+1) 64 6 (.slice A2 (len+1) cc2) (len+1) (spcells (fz (su,lu) ju) ju (fz (sl,ll) jl) jl (sprows ju jl r++sprow jl mu' (k+1)))):=by
       unfold Hid;rw [HSN.out,←List.append_assoc,spcells_snoc,HE.out];exact hown
      have HR11:=Lib.hid (own_keepT (HR10.out.alloc _) hk (by decide))
      have HQ11:=Lib.hid (own_keepT (HQ10.out.alloc _) hk (by decide))
      have HL11:Hid ((sprows ju jl r++sprow jl mu' (k+1)).length=len+1):=by unfold Hid;rw [HSN.out,←List.append_assoc,List.length_append,HLN.out];rfl
      clear hown hb hk HB10 HO10 HR10 HQ10 g0 g1 g2 g3 g4 g5 HG
      go_wp2_with fail
      go_roundw
      case rel=>exact ⟨k+1,A2,cc2,by omega,by go_num,by rw [HL11.out],by rw [HL11.out];exact HO11.out,HR11.out,HQ11.out,HB11.out⟩
      case measure=>simp [RowKit.intOf];omega
     ·have hgt:(((mu'-ml).natAbs:Nat):Int) > 2:=by omega
      have HSN:=Lib.hid (sprow_no HML.out hd)
      obtain ⟨ab,hab⟩:∃ab:Nat,(mu'-ml).natAbs=ab:=⟨_,rfl⟩
      rw [hab] at HABS hgt
      clear hab hd
      obtain ⟨len,hln⟩:∃len,(sprows ju jl r++sprow jl mu' k).length=len:=⟨_,rfl⟩
      rw [hln] at hlen HO
      rw [hln]
      have HLN:=Lib.hid hln;clear hln
      go_wp2_with fail
      refine wp_region_after (by kernel_rfl) (by kernel_rfl) ?_
      repeat (go_big_quiet_step ((go_at_call 85;exact after_same _ (HABS.out _))))
      refine wpQuiet_nil ?_
      intro w9 hw'
      obtain ⟨⟨w9q,hb9⟩,hw''⟩:=hw'
      subst hw''
      have HB9:=Lib.hid (HB.out.trans (hb9.mono (by omega)))
      have HO9:=Lib.hid (own_below HO.out hb9)
      have HR9:=Lib.hid (own_below HR.out hb9)
      have HQ9:=Lib.hid (own_below HQ.out hb9)
      clear hb9 r1 r2 k1 k2 HO HR HQ HB HABS
      go_wp2_with fail
      go_roundw
      case rel=>exact ⟨k+1,A',c',by omega,by go_num,by rw [HSN.out,HLN.out],by rw [HSN.out,HLN.out];exact HO9.out,HR9.out,HQ9.out,HB9.out⟩
      case measure=>simp [RowKit.intOf];omega
    ·obtain rfl:k=jl+1:=by omega
     have HO2:=Lib.hid HO.out
     rw [←HSR.out] at HO2
     have HLL:Hid ((sprows ju jl r++sprow jl mu (jl+1)).length=(sprows ju jl (r+1)).length):=by unfold Hid;rw [HSR.out]
     rw [HLL.out]
     clear HO
     go_wp2_with fail
     go_roundw
     case rel=>exact ⟨r+1,A',c',by omega,by go_num,rfl,HO2.out,HR.out,HQ.out,HB.out⟩
     case measure=>simp [RowKit.intOf];omega
  ·obtain rfl:r=ju+1:=by omega
   have HFF:Hid (sprows ju jl (ju+1)=spL (su,lu) ju (sl,ll) jl):=by unfold Hid;rw [HF.out];rfl
   rw [HFF.out] at HO ⊢
   go_wp2_with fail
   go_ret2
   exact ⟨⟨_,_,by rw [HK.out];rfl,own_mono HO.out (Nat.le_trans (Nat.le_succ _) (Nat.le_succ _))⟩,HB4.out.trans (HB.out.mono (by omega))⟩
end
end
end Go.Proofs.YtlgdndnaiogooaaGreatDoor
