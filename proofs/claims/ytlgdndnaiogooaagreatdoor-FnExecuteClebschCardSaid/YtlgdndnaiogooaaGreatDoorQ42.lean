/- Parts of the proof of : Dcl. -/
import Derived.Test.YtlgdndnaiogooaaGreatDoorQ27
set_option maxHeartbeats 20000000
set_option maxRecDepth 1000000
set_option linter.unusedSimpArgs false
set_option linter.unusedVariables false
namespace Go.Proofs.YtlgdndnaiogooaaGreatDoor
section
open Go.RowKit
attribute [local go_sem ↓] Go.wp_at_zero Go.wp_at_succ
theorem results_tmp5 {fn:Func} {t u v x y:Tmp} (h:fn.results=#[.tmp t,.tmp u,.tmp v,.tmp x,.tmp y]) (tmps:Array Value) (P:Program) (w:World) :
 (results fn tmps).run P w=.ok (.tuple #[tmps.getD t undef,tmps.getD u undef,tmps.getD v undef,tmps.getD x undef,tmps.getD y undef]) w:=by
 simp [results,h]
theorem l91Three_any (m:Int) (B R N:Nat) (w:World) (hm0:0≤m) (hm1:m≤1000) (hN:N≤800000) (hR:Rd 124 w B R N) :
 Calls Tryz.prog 107 #[.pointer (some ⟨R,0,none⟩),.int .i64 m] w fun e w'=>∃a b c:Int,e=.returned (.tuple #[.int .i64 a,.int .i64 b,.int .i64 c])∧((0≤a∧a≤m)∧(0≤b∧b≤m)∧(0≤c∧c≤3*m+3))∧Rd 124 w' B R (N+5)∧w.grownBy w' (some R):=by
 have ltw:=hR.lt
 have lew:=hR.le
 have HR0:=Lib.hid hR;clear hR
 have HG0:=Lib.hid (gb_refl w (some R))
 go_enter Tryz.func107,Tryz.ntmps107
 go_wp2_with fail
 refine (pick_any B R _ (m+1) _ (by omega) (by omega) (by omega) HR0.out).mono ?_
 rintro e w1 ⟨v1,rfl,hv1,hR1,hg1⟩
 have b1:=hv1.lt (by omega)
 have HR1:=Lib.hid hR1;clear hR1
 have HG1:=Lib.hid (gb_trans HG0.out hg1);clear hg1
 clear HR0 HG0
 have lt1:=HR1.out.lt
 have le1:=HG1.out.size
 clear hv1
 go_wp2_with fail
 refine (pick_any B R _ (m+1) _ (by omega) (by omega) (by omega) HR1.out).mono ?_
 rintro e w2 ⟨v2,rfl,hv2,hR2,hg2⟩
 have b2:=hv2.lt (by omega)
 have HR2:=Lib.hid hR2;clear hR2
 have HG2:=Lib.hid (gb_trans HG1.out hg2);clear hg2
 clear HR1 HG1
 have lt2:=HR2.out.lt
 have le2:=HG2.out.size
 clear hv2
 go_wp2_with fail
 refine (l1Abs_any (v1-v2) _ (by omega) (by omega)).mono ?_
 rintro e w9 ⟨rfl,rfl⟩
 by_cases hmn:v1≤v2
 ·have emn:min v1 v2=v1:=by omega
  go_wp2_with fail
  refine (pick_any B R _ (v1+1) _ (by omega) (by omega) (by omega) HR2.out).mono ?_
  rintro e w3 ⟨v3,rfl,hv3,hR3,hg3⟩
  have b3:=hv3.lt (by omega)
  have HR3:=Lib.hid hR3;clear hR3
  have HG3:=Lib.hid (gb_trans HG2.out hg3);clear hg3
  clear HR2 HG2
  have lt3:=HR3.out.lt
  have le3:=HG3.out.size
  clear hv3
  go_wp2_with fail
  refine (pick_any B R _ 16 _ (by omega) (by omega) (by omega) HR3.out).mono ?_
  rintro e w4 ⟨v4,rfl,hv4,hR4,hg4⟩
  have b4:=hv4.lt (by omega)
  have HR4:=Lib.hid hR4;clear hR4
  have HG4:=Lib.hid (gb_trans HG3.out hg4);clear hg4
  clear HR3 HG3
  have lt4:=HR4.out.lt
  have le4:=HG4.out.size
  clear hv4
  by_cases hz:v4=0
  ·subst hz
   go_wp2_with fail
   refine (pick_any B R _ (m+3) _ (by omega) (by omega) (by omega) HR4.out).mono ?_
   rintro e w5 ⟨v5,rfl,hv5,hR5,hg5⟩
   have b5:=hv5.lt (by omega)
   have HR5:=Lib.hid hR5;clear hR5
   have HG5:=Lib.hid (gb_trans HG4.out hg5);clear hg5
   clear HR4 HG4
   have lt5:=HR5.out.lt
   have le5:=HG5.out.size
   clear hv5
   go_wp2_with fail
   go_ret3
   exact ⟨v1,v2,v5,rfl,by omega,HR5.out.more (by omega),HG5.out⟩
  have ez:(v4==0)=false:=by simpa using hz
  clear hz
  go_wp2_with fail
  go_ret3
  exact ⟨v1,v2,(((v1-v2).natAbs:Int)+2*v3),rfl,by omega,HR4.out.more (by omega),HG4.out⟩
 have emn:min v1 v2=v2:=by omega
 go_wp2_with fail
 refine (pick_any B R _ (v2+1) _ (by omega) (by omega) (by omega) HR2.out).mono ?_
 rintro e w3 ⟨v3,rfl,hv3,hR3,hg3⟩
 have b3:=hv3.lt (by omega)
 have HR3:=Lib.hid hR3;clear hR3
 have HG3:=Lib.hid (gb_trans HG2.out hg3);clear hg3
 clear HR2 HG2
 have lt3:=HR3.out.lt
 have le3:=HG3.out.size
 clear hv3
 go_wp2_with fail
 refine (pick_any B R _ 16 _ (by omega) (by omega) (by omega) HR3.out).mono ?_
 rintro e w4 ⟨v4,rfl,hv4,hR4,hg4⟩
 have b4:=hv4.lt (by omega)
 have HR4:=Lib.hid hR4;clear hR4
 have HG4:=Lib.hid (gb_trans HG3.out hg4);clear hg4
 clear HR3 HG3
 have lt4:=HR4.out.lt
 have le4:=HG4.out.size
 clear hv4
 by_cases hz:v4=0
 ·subst hz
  go_wp2_with fail
  refine (pick_any B R _ (m+3) _ (by omega) (by omega) (by omega) HR4.out).mono ?_
  rintro e w5 ⟨v5,rfl,hv5,hR5,hg5⟩
  have b5:=hv5.lt (by omega)
  have HR5:=Lib.hid hR5;clear hR5
  have HG5:=Lib.hid (gb_trans HG4.out hg5);clear hg5
  clear HR4 HG4
  have lt5:=HR5.out.lt
  have le5:=HG5.out.size
  clear hv5
  go_wp2_with fail
  go_ret3
  exact ⟨v1,v2,v5,rfl,by omega,HR5.out.more (by omega),HG5.out⟩
 have ez:(v4==0)=false:=by simpa using hz
 clear hz
 go_wp2_with fail
 go_ret3
 exact ⟨v1,v2,(((v1-v2).natAbs:Int)+2*v3),rfl,by omega,HR4.out.more (by omega),HG4.out⟩
theorem l92Pair_any (a b:Int) (B R N:Nat) (w:World) (ha0:0≤a) (ha1:a≤1000) (hb0:0≤b) (hb1:b≤1000) (hN:N≤800000) (hR:Rd 124 w B R N) :
 Calls Tryz.prog 108 #[.pointer (some ⟨R,0,none⟩),.int .i64 a,.int .i64 b] w fun e w'=>∃m n:Int,e=.returned (.tuple #[.int .i64 m,.int .i64 n])∧((-a≤m∧m≤a+1)∧(-b≤n∧n≤b+2))∧Rd 124 w' B R (N+3)∧w.grownBy w' (some R):=by
 have ltw:=hR.lt
 have lew:=hR.le
 have HR0:=Lib.hid hR;clear hR
 have HG0:=Lib.hid (gb_refl w (some R))
 go_enter Tryz.func108,Tryz.ntmps108
 go_wp2_with fail
 refine (pick_any B R _ (a+1) _ (by omega) (by omega) (by omega) HR0.out).mono ?_
 rintro e w1 ⟨v1,rfl,hv1,hR1,hg1⟩
 have b1:=hv1.lt (by omega)
 have HR1:=Lib.hid hR1;clear hR1
 have HG1:=Lib.hid (gb_trans HG0.out hg1);clear hg1
 clear HR0 HG0
 have lt1:=HR1.out.lt
 have le1:=HG1.out.size
 clear hv1
 go_wp2_with fail
 refine (pick_any B R _ (b+1) _ (by omega) (by omega) (by omega) HR1.out).mono ?_
 rintro e w2 ⟨v2,rfl,hv2,hR2,hg2⟩
 have b2:=hv2.lt (by omega)
 have HR2:=Lib.hid hR2;clear hR2
 have HG2:=Lib.hid (gb_trans HG1.out hg2);clear hg2
 clear HR1 HG1
 have lt2:=HR2.out.lt
 have le2:=HG2.out.size
 clear hv2
 go_wp2_with fail
 refine (pick_any B R _ 30 _ (by omega) (by omega) (by omega) HR2.out).mono ?_
 rintro e w3 ⟨v3,rfl,hv3,hR3,hg3⟩
 have b3:=hv3.lt (by omega)
 have HR3:=Lib.hid hR3;clear hR3
 have HG3:=Lib.hid (gb_trans HG2.out hg3);clear hg3
 clear HR2 HG2
 have lt3:=HR3.out.lt
 have le3:=HG3.out.size
 clear hv3
 by_cases h0:v3=0
 ·subst h0
  go_wp2_with fail
  go_ret2
  exact ⟨2*v1-a+1,2*v2-b,rfl,by omega,HR3.out.more (by omega),HG3.out⟩
 have e0:(v3==0)=false:=by simpa using h0
 by_cases h1:v3=1
 ·subst h1;clear h0
  go_wp2_with fail
  go_ret2
  exact ⟨2*v1-a,b+2,rfl,by omega,HR3.out.more (by omega),HG3.out⟩
 have e1:(v3==1)=false:=by simpa using h1
 clear h0 h1
 go_wp2_with fail
 go_ret2
 exact ⟨2*v1-a,2*v2-b,rfl,by omega,HR3.out.more (by omega),HG3.out⟩
theorem DrawCoupleSum_any (A:Option Addr) (n c:Nat) (w:World) (hm:n≤140737488355328) (hc:n≤c) (hb:Bytes w w.heap.size A n) :
 Calls Tryz.prog 64 #[.slice A n c] w fun e w'=>∃x0 x1 x2 x3 x4:Int,e=.returned (.tuple #[.int .i64 x0,.int .i64 x1,.int .i64 x2,.int .i64 x3,.int .i64 x4])∧Below w.heap.size w w':=by
 have HB:=Lib.hid hb;clear hb
 go_enter Tryz.func64,Tryz.ntmps64
 go_wp2_with fail
 refine (l6Open_any A n c w hm hc HB.out).mono ?_
 rintro e w1 ⟨rfl,hR1,hb1⟩
 have HR1:=Lib.hid hR1
 have HG1:=Lib.hid hb1
 have ltw:=hR1.lt
 have lew:=hb1.size
 clear hR1 hb1 HB
 go_wp2_with fail
 refine (l91Three_any 4 w.heap.size w.heap.size 0 _ (by omega) (by omega) (by omega) HR1.out).mono ?_
 rintro e w2 ⟨a,b,c,rfl,hx,hR2,hg2⟩
 have HR2:=Lib.hid hR2;clear hR2
 have HG2:=Lib.hid (below_of_gb HG1.out hg2 HG1.out.size (by omega));clear hg2
 clear HR1 HG1
 have lt2:=HR2.out.lt
 have le2:=HG2.out.size
 go_wp2_with fail
 refine (l92Pair_any a b w.heap.size w.heap.size _ _ (by omega) (by omega) (by omega) (by omega) (by omega) HR2.out).mono ?_
 rintro e w3 ⟨m,n,rfl,hy,hR3,hg3⟩
 have HR3:=Lib.hid hR3;clear hR3
 have HG3:=Lib.hid (below_of_gb HG2.out hg3 HG2.out.size (by omega));clear hg3
 clear HR2 HG2
 have lt3:=HR3.out.lt
 have le3:=HG3.out.size
 go_wp2_with fail
 refine (l1Abs_any (m+n) _ (by omega) (by omega)).mono ?_
 rintro e w9 ⟨rfl,rfl⟩
 by_cases hgt:c<(((m+n).natAbs:Nat):Int)
 ·go_wp2_with fail
  refine (pick_any w.heap.size w.heap.size _ 4 _ (by omega) (by omega) (by omega) HR3.out).mono ?_
  rintro e w4 ⟨v4,rfl,hv4,hR4,hg4⟩
  have b4:=hv4.lt (by omega)
  have HR4:=Lib.hid hR4;clear hR4
  have HG4:=Lib.hid (below_of_gb HG3.out hg4 HG3.out.size (by omega));clear hg4
  clear HR3 HG3
  have lt4:=HR4.out.lt
  have le4:=HG4.out.size
  clear hv4
  by_cases h0:v4=0
  ·subst h0
   go_wp2_with fail
   try simp only [Exit.inBlock,Exit.then]
   refine bodyPost_ret (results_tmp5 rfl _ _ _) rfl ?_
   exact ⟨a,b,c,m,n,rfl,HG4.out⟩
  have e0:decide (0<v4)=true:=by simp;omega
  go_wp2_with fail
  try simp only [Exit.inBlock,Exit.then]
  refine bodyPost_ret (results_tmp5 rfl _ _ _) rfl ?_
  exact ⟨a,b,a+b,m,n,rfl,HG4.out⟩
 have eg:decide (c<(((m+n).natAbs:Nat):Int))=false:=by simpa using hgt
 clear hgt
 go_wp2_with fail
 try simp only [Exit.inBlock,Exit.then]
 refine bodyPost_ret (results_tmp5 rfl _ _ _) rfl ?_
 exact ⟨a,b,c,m,n,rfl,HG3.out⟩
theorem DrawClebsch_any (A:Option Addr) (n c:Nat) (w:World) (hm:n≤140737488355328) (hc:n≤c) (hb:Bytes w w.heap.size A n) :
 Calls Tryz.prog 25 #[.slice A n c] w fun e w'=>∃x0 x1 x2 x3 x4:Int,e=.returned (.tuple #[.int .i64 x0,.int .i64 x1,.int .i64 x2,.int .i64 x3,.int .i64 x4])∧Below w.heap.size w w':=by
 have HB:=Lib.hid hb;clear hb
 go_enter Tryz.func25,Tryz.ntmps25
 go_wp2_with fail
 refine (DrawCoupleSum_any A n c w hm hc HB.out).mono ?_
 rintro e w1 ⟨a,b,cc,m,n,rfl,hb1⟩
 go_wp2_with fail
 try simp only [Exit.inBlock,Exit.then]
 refine bodyPost_ret (results_tmp5 rfl _ _ _) rfl ?_
 exact ⟨_,_,_,_,_,rfl,hb1⟩
end
end Go.Proofs.YtlgdndnaiogooaaGreatDoor
