/- Parts of the proof of : Rat3. -/
import Derived.Test.YtlgdndnaiogooaaGreatDoorQ22
set_option maxHeartbeats 20000000
set_option maxRecDepth 1000000
set_option linter.unusedSimpArgs false
set_option linter.unusedVariables false
namespace Go.Proofs.YtlgdndnaiogooaaGreatDoor
section
open Go.RowKit
attribute [local go_sem ↓] Go.wp_at_zero Go.wp_at_succ
theorem specMake_any (num den:Int) (w:World) (n0:den≠0) (n1:-4000000000000000000≤num) (n2:num≤4000000000000000000) (n3:-4000000000000000000≤den) (n4:den≤4000000000000000000) :
 Calls Tryz.prog 105 #[.int .i64 num,.int .i64 den] w fun e w'=>e=.returned (okV (mkB num den))∧Below w.heap.size w w':=by
 obtain ⟨r,hr⟩:∃r,mkB num den=r:=⟨_,rfl⟩
 rw [hr]
 have HE:=Lib.hid hr.symm;clear hr
 have HD:=Lib.hid (Blk.new w 45 #[.int .i64 0,.int .i64 0])
 have HB1:=Lib.hid ((Below.refl w.heap.size w).alloc (Nat.le_refl _) (.cells #[.int .i64 0,.int .i64 0] 45))
 have hgp:0<Nat.gcd num.natAbs den.natAbs:=Nat.gcd_pos_of_pos_right _ (by omega)
 have hgl:Nat.gcd num.natAbs den.natAbs≤den.natAbs:=Nat.le_of_dvd (by omega) (Nat.gcd_dvd_right _ _)
 have HA1:=Lib.hid (fun W=>specAbs_any num W (by omega) (by omega))
 have HA2:=Lib.hid (fun W=>specAbs_any den W (by omega) (by omega))
 have HGC:=Lib.hid (fun W=>specGcd_any num.natAbs den.natAbs W (by omega) (by omega))
 have hgb:((Nat.gcd num.natAbs den.natAbs:Nat):Int)≤4000000000000000000:=by omega
 generalize hgg:Nat.gcd num.natAbs den.natAbs=g at *
 have dz:(den==0)=false:=by simpa using n0
 by_cases hd:den<0
 ·have hs:sg num den=-(g:Int):=by unfold sg;rw [if_pos hd,hgg]
  have q1b:=tdiv_small (x:=num) (g:=(g:Int)) (b:=4000000000000000000) (by omega)
  have q2b:=tdiv_small (x:=den) (g:=(g:Int)) (b:=4000000000000000000) (by omega)
  have hmk:mk0 num den=(-num.tdiv (g:Int),-den.tdiv (g:Int)):=by unfold mk0;rw [hs,Int.tdiv_neg,Int.tdiv_neg]
  have u7:¬((g:Int)=0):=by omega
  have u1:IntKind.i64.wrap (-num.tdiv (g:Int))=-num.tdiv (g:Int):=IntWalk.i64_in _ (by omega)
  have u2:IntKind.i64.wrap (-den.tdiv (g:Int))=-den.tdiv (g:Int):=IntWalk.i64_in _ (by omega)
  have HMK:=Lib.hid hmk
  clear hs hmk
  go_enter Tryz.func105,Tryz.ntmps105
  go_wp2_with fail
  refine (HA1.out _).mono ?_
  rintro e w1 ⟨rfl,rfl⟩
  go_wp2_with fail
  refine (HA2.out _).mono ?_
  rintro e w1 ⟨rfl,rfl⟩
  go_wp2_with fail
  refine (HGC.out _).mono ?_
  rintro e w1 ⟨rfl,rfl⟩
  go_wp2_with fail
  have HW:Hid (Blk (w.alloc (.cells #[.int .i64 0,.int .i64 0] 45)) w.heap.size 45 #[.int .i64 0,.int .i64 0]):=HD.out
  have HBW:Hid (Below w.heap.size w (w.alloc (.cells #[.int .i64 0,.int .i64 0] 45))):=HB1.out
  have hsz:(w.alloc (.cells #[.int .i64 0,.int .i64 0] 45)).heap.size=w.heap.size+1:=by simp
  generalize w.alloc (.cells #[.int .i64 0,.int .i64 0] 45)=W at *
  go_region
  clear u1 u2
  generalize -num.tdiv (g:Int)=q1 at *
  generalize -den.tdiv (g:Int)=q2 at *
  have HX:Hid (Blk (W.alloc (.cells #[.int .i64 q1,.int .i64 q2] 45)).drew (w.heap.size+1) 45 #[.int .i64 q1,.int .i64 q2]):=by
   have:=Blk.new W 45 #[.int .i64 q1,.int .i64 q2]
   rw [hsz] at this;exact this
  have HW2:Hid (Blk (W.alloc (.cells #[.int .i64 q1,.int .i64 q2] 45)).drew w.heap.size 45 #[.int .i64 0,.int .i64 0]):=HW.out.alloc _
  have HBW2:=Lib.hid ((HBW.out.alloc HBW.out.size (.cells #[.int .i64 q1,.int .i64 q2] 45)).drew)
  generalize (W.alloc (.cells #[.int .i64 q1,.int .i64 q2] 45)).drew=W2 at *
  obtain ⟨x1,x2,_,_⟩:=blk2 HX.out
  have HE2:Hid (r=if rvB (q1,q2) then ((q1,q2),true) else ((0,0),false)):=by unfold Hid;rw [HE.out];unfold mkB;rw [HMK.out]
  clear HE HMK HW HBW hsz
  go_wp2_with fail
  refine (specRatValid_any q1 q2 _).mono ?_
  rintro e w3 ⟨rfl,hb3⟩
  have HX3:=Lib.hid (HX.out.sub hb3)
  have HW3:=Lib.hid (HW2.out.sub hb3)
  have HB3:=Lib.hid (HBW2.out.trans (hb3.mono HBW2.out.size))
  clear hb3 x1 x2 HX HW2 HBW2
  obtain ⟨x1,x2,_,_⟩:=blk2 HX3.out
  obtain ⟨y1,y2,y3,y4⟩:=blk2 HW3.out
  cases hv:rvB (q1,q2)
  ·rw [hv] at HE2
   have HZ:=Lib.hid ((HW3.out.set 0 (.int .i64 0)).set 1 (.int .i64 0))
   have HB4:=Lib.hid ((HB3.out.setCell (p:=⟨w.heap.size,0,none⟩) (Nat.le_refl _) (.int .i64 0)).setCell (p:=⟨w.heap.size,1,none⟩) (Nat.le_refl _) (.int .i64 0))
   clear hv
   go_wp2_with fail
   refine bodyPost_ret (results_rat_tmp rfl _ _ w.heap.size _ _ rfl HZ.out Tryz.underlying45 rfl (by kernel_rfl)) rfl ?_
   exact ⟨by rw [HE2.out];rfl,HB4.out⟩
  ·rw [hv] at HE2
   have HZ:=Lib.hid ((HW3.out.set 0 (.int .i64 q1)).set 1 (.int .i64 q2))
   have HB4:=Lib.hid ((HB3.out.setCell (p:=⟨w.heap.size,0,none⟩) (Nat.le_refl _) (.int .i64 q1)).setCell (p:=⟨w.heap.size,1,none⟩) (Nat.le_refl _) (.int .i64 q2))
   clear hv
   go_wp2_with fail
   refine bodyPost_ret (results_rat_tmp rfl _ _ w.heap.size _ _ rfl HZ.out Tryz.underlying45 rfl (by kernel_rfl)) rfl ?_
   exact ⟨by rw [HE2.out];rfl,HB4.out⟩
 ·have hs:sg num den=(g:Int):=by unfold sg;rw [if_neg hd,hgg]
  have q1b:=tdiv_small (x:=num) (g:=(g:Int)) (b:=4000000000000000000) (by omega)
  have q2b:=tdiv_small (x:=den) (g:=(g:Int)) (b:=4000000000000000000) (by omega)
  have hmk:mk0 num den=(num.tdiv ((g:Int)),den.tdiv ((g:Int))):=by unfold mk0;rw [hs]
  have u7:¬((g:Int)=0):=by omega
  have u1:IntKind.i64.wrap (num.tdiv ((g:Int)))=num.tdiv ((g:Int)):=IntWalk.i64_in _ (by omega)
  have u2:IntKind.i64.wrap (den.tdiv ((g:Int)))=den.tdiv ((g:Int)):=IntWalk.i64_in _ (by omega)
  have HMK:=Lib.hid hmk
  clear hs hmk
  go_enter Tryz.func105,Tryz.ntmps105
  go_wp2_with fail
  refine (HA1.out _).mono ?_
  rintro e w1 ⟨rfl,rfl⟩
  go_wp2_with fail
  refine (HA2.out _).mono ?_
  rintro e w1 ⟨rfl,rfl⟩
  go_wp2_with fail
  refine (HGC.out _).mono ?_
  rintro e w1 ⟨rfl,rfl⟩
  go_wp2_with fail
  have HW:Hid (Blk (w.alloc (.cells #[.int .i64 0,.int .i64 0] 45)) w.heap.size 45 #[.int .i64 0,.int .i64 0]):=HD.out
  have HBW:Hid (Below w.heap.size w (w.alloc (.cells #[.int .i64 0,.int .i64 0] 45))):=HB1.out
  have hsz:(w.alloc (.cells #[.int .i64 0,.int .i64 0] 45)).heap.size=w.heap.size+1:=by simp
  generalize w.alloc (.cells #[.int .i64 0,.int .i64 0] 45)=W at *
  go_region
  clear u1 u2
  generalize num.tdiv ((g:Int))=q1 at *
  generalize den.tdiv ((g:Int))=q2 at *
  have HX:Hid (Blk (W.alloc (.cells #[.int .i64 q1,.int .i64 q2] 45)).drew (w.heap.size+1) 45 #[.int .i64 q1,.int .i64 q2]):=by
   have:=Blk.new W 45 #[.int .i64 q1,.int .i64 q2]
   rw [hsz] at this;exact this
  have HW2:Hid (Blk (W.alloc (.cells #[.int .i64 q1,.int .i64 q2] 45)).drew w.heap.size 45 #[.int .i64 0,.int .i64 0]):=HW.out.alloc _
  have HBW2:=Lib.hid ((HBW.out.alloc HBW.out.size (.cells #[.int .i64 q1,.int .i64 q2] 45)).drew)
  generalize (W.alloc (.cells #[.int .i64 q1,.int .i64 q2] 45)).drew=W2 at *
  obtain ⟨x1,x2,_,_⟩:=blk2 HX.out
  have HE2:Hid (r=if rvB (q1,q2) then ((q1,q2),true) else ((0,0),false)):=by unfold Hid;rw [HE.out];unfold mkB;rw [HMK.out]
  clear HE HMK HW HBW hsz
  go_wp2_with fail
  refine (specRatValid_any q1 q2 _).mono ?_
  rintro e w3 ⟨rfl,hb3⟩
  have HX3:=Lib.hid (HX.out.sub hb3)
  have HW3:=Lib.hid (HW2.out.sub hb3)
  have HB3:=Lib.hid (HBW2.out.trans (hb3.mono HBW2.out.size))
  clear hb3 x1 x2 HX HW2 HBW2
  obtain ⟨x1,x2,_,_⟩:=blk2 HX3.out
  obtain ⟨y1,y2,y3,y4⟩:=blk2 HW3.out
  cases hv:rvB (q1,q2)
  ·rw [hv] at HE2
   have HZ:=Lib.hid ((HW3.out.set 0 (.int .i64 0)).set 1 (.int .i64 0))
   have HB4:=Lib.hid ((HB3.out.setCell (p:=⟨w.heap.size,0,none⟩) (Nat.le_refl _) (.int .i64 0)).setCell (p:=⟨w.heap.size,1,none⟩) (Nat.le_refl _) (.int .i64 0))
   clear hv
   go_wp2_with fail
   refine bodyPost_ret (results_rat_tmp rfl _ _ w.heap.size _ _ rfl HZ.out Tryz.underlying45 rfl (by kernel_rfl)) rfl ?_
   exact ⟨by rw [HE2.out];rfl,HB4.out⟩
  ·rw [hv] at HE2
   have HZ:=Lib.hid ((HW3.out.set 0 (.int .i64 q1)).set 1 (.int .i64 q2))
   have HB4:=Lib.hid ((HB3.out.setCell (p:=⟨w.heap.size,0,none⟩) (Nat.le_refl _) (.int .i64 q1)).setCell (p:=⟨w.heap.size,1,none⟩) (Nat.le_refl _) (.int .i64 q2))
   clear hv
   go_wp2_with fail
   refine bodyPost_ret (results_rat_tmp rfl _ _ w.heap.size _ _ rfl HZ.out Tryz.underlying45 rfl (by kernel_rfl)) rfl ?_
   exact ⟨by rw [HE2.out];rfl,HB4.out⟩
end
end Go.Proofs.YtlgdndnaiogooaaGreatDoor
