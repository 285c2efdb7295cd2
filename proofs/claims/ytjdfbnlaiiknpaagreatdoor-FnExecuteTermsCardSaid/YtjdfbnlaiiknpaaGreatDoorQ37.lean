/- Parts of the proof of : TxR Sx9. -/
import Derived.Test.YtjdfbnlaiiknpaaGreatDoorQ36
set_option maxHeartbeats 20000000
set_option maxRecDepth 1000000
set_option linter.unusedSimpArgs false
set_option linter.unusedVariables false
namespace Go.Proofs.YtjdfbnlaiiknpaaGreatDoor
section
open Go.RowKit
attribute [local go_sem ↓] Go.wp_at_zero Go.wp_at_succ
theorem l6Dec_big (n:Nat):n≤1000000000→∀w:World,Calls Tryz.prog 34 #[.int .i64 n] w fun e w'=>e=.returned (.string (bs (Lib.decDigits n)))∧Below w.heap.size w w':=by
 induction n using Nat.strongRecOn with
 | ind n ih =>
  intro hn w
  have d0:decide ((n:Int) < -9223372036854775807)=false:=decide_eq_false (by omega)
  have d1:decide ((n:Int)<0)=false:=decide_eq_false (by omega)
  have HB1:=Lib.hid (fun o=>(Below.refl w.heap.size w).alloc (Nat.le_refl _) o)
  by_cases h:n<10
  ·have hcv:=fun W=>conv_new W (48+(n:Int)) (by omega) (by omega)
   have HE:Hid (Lib.decDigits n=[UInt8.ofNat (48+(n:Int)).toNat]):=by unfold Hid;rw [Lib.decDigits_one h,show (48+(n:Int)).toNat=48+n by omega]
   generalize Lib.decDigits n=D at *
   clear ih
   generalize [UInt8.ofNat (48+(n:Int)).toNat]=V at *
   go_enter Tryz.func34,Tryz.ntmps34
   go_wp2_with fail
   clear hcv
   go_ret
   exact ⟨ret_str (by rw [HE.out]),HB1.out _⟩
  ·have hc:=ih (n / 10) (by omega) (by omega)
   rw [show (((n / 10:Nat):Int))=(n:Int) / 10 by omega] at hc
   have HC:=Lib.hid hc;clear hc ih
   have hl:=dig_len 9 (n / 10) (by omega)
   obtain ⟨m,hm9,hm⟩:∃m:Nat,m≤9∧n % 10=m:=⟨n % 10,by omega,rfl⟩
   have HE:Hid (Lib.decDigits n=Lib.decDigits (n / 10)++[UInt8.ofNat (48+(m:Int)).toNat]):=by
    unfold Hid;rw [dig_step (by omega),show (48+(m:Int)).toNat=48+n % 10 by omega]
   have hz:(bs (Lib.decDigits (n / 10))).size≤10:=by rw [bs_size];exact hl
   have hv1:(bs [UInt8.ofNat (48+(m:Int)).toNat]).size≤1:=Nat.le_of_eq (bs_size _)
   have HCV:=Lib.hid (fun W=>conv_new W (48+(m:Int)) (by omega) (by omega))
   have HCW:=Lib.hid (fun W g=>conv_at W g (48+(m:Int)) (by omega) (by omega))
   generalize Lib.decDigits n=D at *
   generalize Lib.decDigits (n / 10)=D1 at *
   generalize [UInt8.ofNat (48+(m:Int)).toNat]=V at *
   clear hl
   have u1:IntKind.i64.wrap ((n:Int) / 10)=(n:Int) / 10:=IntWalk.i64_in _ (by omega)
   have u2:(n:Int).tmod 10=(m:Int):=by rw [Int.tmod_eq_emod_of_nonneg (by omega)];omega
   have u3:IntKind.i64.wrap (48+(m:Int))=48+(m:Int):=IntWalk.i64_in _ (by omega)
   have u4:IntKind.u8.wrap (48+(m:Int))=48+(m:Int):=IntWalk.u8_in _ (by omega)
   have HU:=Lib.hid (And.intro u1 (And.intro u2 (And.intro u3 u4)))
   clear u1 u2 u3 u4 hm
   go_enter Tryz.func34,Tryz.ntmps34
   go_wp2_with fail
   obtain ⟨u1,u2,u3,u4⟩:=HU.out
   have k1:=HCV.out
   have k2:=fun W:World=>HCW.out (W.alloc (.cells #[.int .u8 (48+(m:Int))] 5)).drew W.heap.size (Blk.new _ _ _)
   go_region_with (go_at_call 34;refine (HC.out _).mono ?_;rintro e w1 ⟨rfl,hb1⟩;try (have k3:=HCW.out w1 w.heap.size ((Blk.drew (Blk.new w _ _)).sub hb1)))
   all_goals
    clear k1 k2
    have hbe:bs D1++bs V=bs D:=by rw [HE.out,bs_append]
    have HBE:=Lib.hid hbe;clear hbe
    have HB9:=Lib.hid hb1;clear hb1
    go_wp2_with fail
    go_ret
    refine ⟨ret_str HBE.out,?_⟩
    first
     | exact (((Below.refl w.heap.size w).drew).trans (HB9.out.mono (Nat.le_refl _))).alloc HB9.out.size _
     | exact ((HB1.out _).drew).trans (HB9.out.mono (by simp))
theorem l6DecZ_any (n:Int) (h0:-1000000000≤n) (h1:n≤1000000000) (w:World):Calls Tryz.prog 34 #[.int .i64 n] w fun e w'=>e=.returned (.string (bs (Lib.itoa n)))∧Below w.heap.size w w':=by
 by_cases hn:n<0
 ·have HI:=Lib.hid (fun W=>l6Dec_big n.natAbs (by omega) W)
  have he:Lib.itoa n=45 :: Lib.decDigits n.natAbs:=by unfold Lib.itoa;rw [if_pos hn]
  have hz:(bs (Lib.decDigits n.natAbs)).size≤10:=by rw [bs_size];exact dig_len 9 _ (by omega)
  have HE:Hid (bs (Lib.itoa n)=(⟨#[45]⟩:ByteArray)++bs (Lib.decDigits n.natAbs)):=by unfold Hid;rw [he];exact (bs_append [45] _).symm
  have d0:decide (n < -9223372036854775807)=false:=decide_eq_false (by omega)
  have hna:((n.natAbs:Nat):Int)=-n:=by omega
  rw [hna] at HI
  clear he hna
  generalize bs (Lib.decDigits n.natAbs)=D at *
  go_enter Tryz.func34,Tryz.ntmps34
  go_wp2_with fail
  refine (HI.out _).mono ?_
  rintro e w1 ⟨rfl,hb1⟩
  have HB:=Lib.hid hb1;clear hb1
  go_wp2_with fail
  go_ret
  exact ⟨ret_str HE.out.symm,HB.out⟩
 ·have he:Lib.itoa n=Lib.decDigits n.toNat:=by unfold Lib.itoa;rw [if_neg hn]
  rw [he]
  have:=l6Dec_big n.toNat (by omega) w
  rwa [show ((n.toNat:Nat):Int)=n by omega] at this
theorem specRatText_any (a b:Int) (w:World) :
 Calls Tryz.prog 107 #[.agg #[.int .i64 a,.int .i64 b]] w fun e w'=>e=.returned (.string (bs (ratT (a,b))))∧Below w.heap.size w w':=by
 have HV:=Lib.hid (fun W=>specRatValid_any a b W)
 have HB:=Lib.hid (bel_alloc (Below.refl w.heap.size w) (.cells #[.int .i64 a,.int .i64 b] 97))
 have HX:=Lib.hid (Blk.new w 97 #[.int .i64 a,.int .i64 b])
 cases hv:rvB (a,b)
 ·have he:ratT (a,b)=[]:=by unfold ratT;rw [hv];simp
  rw [he,bs_nil];rw [hv] at HV;clear hv he
  go_enter Tryz.func107,Tryz.ntmps107
  go_wp2_with fail
  refine (HV.out _).mono ?_
  rintro e w1 ⟨rfl,hb1⟩
  have HB1:=Lib.hid (bel_sub HB.out hb1);clear hb1
  go_wp2_with fail
  go_ret
  exact ⟨rfl,HB1.out⟩
 have hbd:=rvB_bd hv
 rw [hv] at HV
 by_cases h1:b=1
 ·have he:ratT (a,b)=Lib.itoa a:=by unfold ratT;rw [hv,if_pos rfl,if_pos h1]
  rw [he];clear hv he
  subst h1
  have HI:=Lib.hid (fun W=>l6DecZ_any a (by omega) (by omega) W)
  go_enter Tryz.func107,Tryz.ntmps107
  go_wp2_with fail
  refine (HV.out _).mono ?_
  rintro e w1 ⟨rfl,hb1⟩
  have HB1:=Lib.hid (bel_sub HB.out hb1)
  obtain ⟨x1,x2,_,_⟩:=blk2 (HX.out.sub hb1);clear hb1
  go_wp2_with fail
  refine (HI.out _).mono ?_
  rintro e w2 ⟨rfl,hb2⟩
  have HB2:=Lib.hid (bel_sub HB1.out hb2);clear hb2
  go_wp2_with fail
  go_ret
  exact ⟨rfl,HB2.out⟩
 ·have he:ratT (a,b)=Lib.itoa a++[47]++Lib.itoa b:=by unfold ratT;rw [hv,if_pos rfl,if_neg h1]
  rw [he,←bs_append,←bs_append];clear hv he
  have e1:(b==1)=false:=by simpa using h1
  have HI:=Lib.hid (fun n h0 h1 W=>l6DecZ_any n h0 h1 W)
  have hz1:(bs (Lib.itoa a)).size≤11:=by rw [bs_size];exact itoa_len (by omega) (by omega)
  have hz2:(bs (Lib.itoa b)).size≤11:=by rw [bs_size];exact itoa_len (by omega) (by omega)
  have hs47:bs [47]=⟨#[47]⟩:=rfl
  rw [hs47];clear hs47
  go_enter Tryz.func107,Tryz.ntmps107
  go_wp2_with fail
  refine (HV.out _).mono ?_
  rintro e w1 ⟨rfl,hb1⟩
  have HB1:=Lib.hid (bel_sub HB.out hb1)
  obtain ⟨x1,x2,_,_⟩:=blk2 (HX.out.sub hb1);clear hb1
  have k1:=After.cell x1
  have k2:=After.cell x2
  go_wp2_with fail
  refine wp_region_after (by kernel_rfl) (by kernel_rfl) ?_
  repeat (go_big_quiet_step ((go_at_call 34;exact after_call _ (HI.out _ (by omega) (by omega) _))))
  refine wpQuiet_nil ?_
  intro w9 hw'
  obtain ⟨⟨w9',hb9⟩,hw''⟩:=hw'
  subst hw''
  have HB9:=Lib.hid (bel_sub HB1.out hb9);clear hb9
  go_wp2_with fail
  go_ret
  exact ⟨rfl,HB9.out⟩
end
section
open Go.RowKit
attribute [local go_sem ↓] Go.wp_at_zero Go.wp_at_succ
theorem specSixJ_any (a b c d e f:Int) (w:World) :
 Calls Tryz.prog 67 #[.int .i64 a,.int .i64 b,.int .i64 c,.int .i64 d,.int .i64 e,.int .i64 f] w fun en w'=>en=.returned (rtO (sxJ a b c d e f))∧Below w.heap.size w w':=by
 have HOK:=Lib.hid (fun W=>l23Ok_any a b c d e f W)
 have HB0:=Lib.hid (bel_alloc (Below.refl w.heap.size w) (.cells #[.int .i64 0,.int .i64 0,.int .i64 0] 99))
 have HX0:=Lib.hid (Blk.new w 99 #[.int .i64 0,.int .i64 0,.int .i64 0])
 cases hv:sxB a b c d e f
 ·have he:sxJ a b c d e f=((0,(0,0)),false):=by unfold sxJ;rw [hv];simp
  rw [he];rw [hv] at HOK;clear he hv
  unfold rtO rtV
  go_enter Tryz.func67,Tryz.ntmps67
  go_wp2_with fail
  refine (HOK.out _).mono ?_
  rintro en w1 ⟨rfl,hb1⟩
  have HB1:=Lib.hid (bel_sub HB0.out hb1)
  have HX1:=Lib.hid (HX0.out.sub hb1);clear hb1
  obtain ⟨x1,x2,x3,f1,f2,f3⟩:=blk3 HX1.out
  have HZ:=Lib.hid (((HX1.out.set 0 (.int .i64 0)).set 1 (.int .i64 0)).set 2 (.int .i64 0))
  have HBZ:=Lib.hid (bel_set (g:=w.heap.size) (i:=2) (u:=.int .i64 0) (bel_set2 (g:=w.heap.size) (x:=.int .i64 0) (y:=.int .i64 0) HB1.out (Nat.le_refl _)) (Nat.le_refl _))
  go_wp2_with fail
  refine bodyPost_ret (results_rt rfl _ _ w.heap.size _ _ rfl HZ.out Tryz.underlying99 rfl (by kernel_rfl)) rfl ?_
  exact ⟨rfl,HBZ.out⟩
 have he:sxJ a b c d e f=sxN6 a.toNat b.toNat c.toNat d.toNat e.toNat f.toNat:=by unfold sxJ;rw [hv,if_pos rfl]
 rw [he];rw [hv] at HOK;clear he
 have hv0:=hv
 obtain ⟨a,b,c,d,e,f,⟨rfl,rfl,rfl,rfl,rfl,rfl⟩,hE,t1,t2,t3,t4⟩:=sxB_nat hv
 simp only [Int.toNat_natCast]
 clear hv
 have HSUM:=Lib.hid (fun W=>specSixSum_any a b c d e f W hE hv0)
 have hdn:=denK_bd hE t1 t2 t3 t4
 have HRO:=Lib.hid (fun W=>specRootOf_any (sxSum a b c d e f 13) 1 ((denK a b c d e f 4:Nat):Int) W)
 obtain ⟨⟨⟨ha,hb,hc⟩,hd,he,hf⟩,_⟩:=hE
 have HD0:=Lib.hid (fun W=>specDelta_any a b c W ha hb hc t1)
 have HD1:=Lib.hid (fun W=>specDelta_any a e f W ha he hf t2)
 have HD2:=Lib.hid (fun W=>specDelta_any d b f W hd hb hf t3)
 have HD3:=Lib.hid (fun W=>specDelta_any d e c W hd he hc t4)
 have hk2:denK a b c d e f 2=dlt a b c*dlt a e f:=by show 1*dlt a b c*dlt a e f=_;rw [Nat.one_mul]
 have hk3:denK a b c d e f 3=dlt a b c*dlt a e f*dlt d b f:=by show 1*dlt a b c*dlt a e f*dlt d b f=_;rw [Nat.one_mul]
 have hk4:denK a b c d e f 4=dlt a b c*dlt a e f*dlt d b f*dlt d e c:=by show 1*dlt a b c*dlt a e f*dlt d b f*dlt d e c=_;rw [Nat.one_mul]
 obtain ⟨-,-,n2,n3,n4⟩:=hdn
 clear ha hb hc hd he hf t1 t2 t3 t4 hv0
 unfold sxN6
 obtain ⟨⟨⟨sg,⟨x,y⟩⟩,ok⟩,hr⟩:∃r,rootOf (sxSum a b c d e f 13) 1 ((denK a b c d e f 4:Nat):Int)=r:=⟨_,rfl⟩
 rw [hr] at HRO ⊢
 clear hr
 unfold rtO rtV at HRO ⊢
 simp only at HRO ⊢
 rw [hk2] at n2
 rw [hk3] at n3
 rw [hk4] at HRO n4
 clear hk2 hk3 hk4
 obtain ⟨D0,h0⟩:∃D,dlt a b c=D:=⟨_,rfl⟩
 obtain ⟨D1,h1⟩:∃D,dlt a e f=D:=⟨_,rfl⟩
 obtain ⟨D2,h2⟩:∃D,dlt d b f=D:=⟨_,rfl⟩
 obtain ⟨D3,h3⟩:∃D,dlt d e c=D:=⟨_,rfl⟩
 rw [h0] at HD0 HRO n2 n3 n4
 rw [h1] at HD1 HRO n2 n3 n4
 rw [h2] at HD2 HRO n3 n4
 rw [h3] at HD3 HRO n4
 clear h0 h1 h2 h3
 obtain ⟨E1,h4⟩:∃E,D0*D1=E:=⟨_,rfl⟩
 rw [h4] at HRO n2 n3 n4
 obtain ⟨E2,h5⟩:∃E,E1*D2=E:=⟨_,rfl⟩
 rw [h5] at HRO n3 n4
 obtain ⟨E3,h6⟩:∃E,E2*D3=E:=⟨_,rfl⟩
 rw [h6] at HRO n4
 have w1:IntKind.i64.wrap ((D0:Int)*(D1:Int))=(E1:Int):=by rw [←Int.natCast_mul,h4];exact IntWalk.i64_in _ (by omega)
 have w2:IntKind.i64.wrap ((E1:Int)*(D2:Int))=(E2:Int):=by rw [←Int.natCast_mul,h5];exact IntWalk.i64_in _ (by omega)
 have w3:IntKind.i64.wrap ((E2:Int)*(D3:Int))=(E3:Int):=by rw [←Int.natCast_mul,h6];exact IntWalk.i64_in _ (by omega)
 clear h4 h5 h6
 go_enter Tryz.func67,Tryz.ntmps67
 go_wp2_with fail
 refine (HOK.out _).mono ?_
 rintro en w1 ⟨rfl,hb1⟩
 have HB1:=Lib.hid (bel_sub HB0.out hb1)
 have HX1:=Lib.hid (HX0.out.sub hb1);clear hb1 HB0 HX0
 go_wp2_with fail
 refine (HD0.out _).mono ?_
 rintro en w2 ⟨rfl,hb2⟩
 have HB2:=Lib.hid (bel_sub HB1.out hb2)
 have HX2:=Lib.hid (HX1.out.sub hb2);clear hb2 HB1 HX1
 go_wp2_with fail
 refine (HD1.out _).mono ?_
 rintro en w3 ⟨rfl,hb3⟩
 have HB3:=Lib.hid (bel_sub HB2.out hb3)
 have HX3:=Lib.hid (HX2.out.sub hb3);clear hb3 HB2 HX2
 go_wp2_with fail
 refine (HD2.out _).mono ?_
 rintro en w4 ⟨rfl,hb4⟩
 have HB4:=Lib.hid (bel_sub HB3.out hb4)
 have HX4:=Lib.hid (HX3.out.sub hb4);clear hb4 HB3 HX3
 go_wp2_with fail
 refine (HD3.out _).mono ?_
 rintro en w5 ⟨rfl,hb5⟩
 have HB5:=Lib.hid (bel_sub HB4.out hb5)
 have HX5:=Lib.hid (HX4.out.sub hb5);clear hb5 HB4 HX4
 go_wp2_with fail
 refine (HSUM.out _).mono ?_
 rintro en w6 ⟨rfl,hb6⟩
 have HB6:=Lib.hid (bel_sub HB5.out hb6)
 have HX6:=Lib.hid (HX5.out.sub hb6);clear hb6 HB5 HX5
 go_wp2_with fail
 refine (HRO.out _).mono ?_
 rintro en w7 ⟨rfl,hb7⟩
 have HB7:=Lib.hid (bel_sub HB6.out hb7)
 have HX7:=Lib.hid (HX6.out.sub hb7);clear hb7 HB6 HX6
 obtain ⟨x1,x2,x3,f1,f2,f3⟩:=blk3 HX7.out
 have HZ:=Lib.hid (((HX7.out.set 0 (.int .i64 sg)).set 1 (.int .i64 x)).set 2 (.int .i64 y))
 have HBZ:=Lib.hid (bel_set (g:=w.heap.size) (i:=2) (u:=.int .i64 y) (bel_set2 (g:=w.heap.size) (x:=.int .i64 sg) (y:=.int .i64 x) HB7.out (Nat.le_refl _)) (Nat.le_refl _))
 go_wp2_with fail
 refine bodyPost_ret (results_rt rfl _ _ w.heap.size _ _ rfl HZ.out Tryz.underlying99 rfl (by kernel_rfl)) rfl ?_
 exact ⟨rfl,HBZ.out⟩
theorem specRootValid_any (s x y:Int) (w:World) :
 Calls Tryz.prog 168 #[.agg #[.int .i64 s,.int .i64 x,.int .i64 y]] w fun e w'=>e=.returned (.bool (rtB (s,(x,y))))∧Below w.heap.size w w':=by
 have HI:=Lib.hid (fun W=>l6In_any s (-1) 1 W)
 have HV:=Lib.hid (fun W=>specRatValid_any x y W)
 have HB0:=Lib.hid (bel_alloc (Below.refl w.heap.size w) (.cells #[.int .i64 s,.int .i64 x,.int .i64 y] 99))
 have HX0:=Lib.hid (Blk.new w 99 #[.int .i64 s,.int .i64 x,.int .i64 y])
 have HR:Hid (rtB (s,(x,y))=(((inB s (-1) 1 && rvB (x,y)) && decide (0≤x)) && (decide (x=0)==decide (s=0)))):=rfl
 cases h1:inB s (-1) 1
 ·rw [h1] at HI
  have HE:Hid (rtB (s,(x,y))=false):=by unfold Hid;rw [HR.out,h1];simp
  clear h1
  go_enter Tryz.func168,Tryz.ntmps168
  go_wp2_with fail
  refine (HI.out _).mono ?_
  rintro e w' ⟨rfl,rfl⟩
  go_wp2_with fail
  go_ret
  exact ⟨ret_bool HE.out.symm,HB0.out⟩
 rw [h1] at HI
 cases h2:rvB (x,y)
 ·rw [h2] at HV
  have HE:Hid (rtB (s,(x,y))=false):=by unfold Hid;rw [HR.out,h1,h2];simp
  clear h1 h2
  go_enter Tryz.func168,Tryz.ntmps168
  go_wp2_with fail
  refine (HI.out _).mono ?_
  rintro e w' ⟨rfl,rfl⟩
  go_wp2_with fail
  refine (HV.out _).mono ?_
  rintro e w2 ⟨rfl,hb2⟩
  have HB2:=Lib.hid (bel_sub HB0.out hb2);clear hb2
  go_wp2_with fail
  go_ret
  exact ⟨ret_bool HE.out.symm,HB2.out⟩
 rw [h2] at HV
 have HE:Hid (rtB (s,(x,y))=(decide (0≤x) && (decide (x=0)==decide (s=0)))):=by unfold Hid;rw [HR.out,h1,h2];simp
 clear h1 h2
 go_enter Tryz.func168,Tryz.ntmps168
 go_wp2_with fail
 refine (HI.out _).mono ?_
 rintro e w' ⟨rfl,rfl⟩
 go_wp2_with fail
 refine (HV.out _).mono ?_
 rintro e w2 ⟨rfl,hb2⟩
 have HB2:=Lib.hid (bel_sub HB0.out hb2)
 obtain ⟨z0,z1,z2,_,_,_⟩:=blk3 (HX0.out.sub hb2);clear hb2
 go_wp2_with fail
 all_goals
  go_ret
  refine ⟨ret_bool ?_,HB2.out⟩
  rw [HE.out]
  first | (rw [decide_eq_true (show 0≤x by assumption),Bool.true_and];rfl) | (rw [decide_eq_false (show ¬0≤x by omega),Bool.false_and])
theorem specRootText_any (s x y:Int) (w:World) :
 Calls Tryz.prog 113 #[.agg #[.int .i64 s,.int .i64 x,.int .i64 y]] w fun e w'=>e=.returned (.string (bs (rootT (s,(x,y)))))∧Below w.heap.size w w':=by
 have HV:=Lib.hid (fun W=>specRootValid_any s x y W)
 have HRT:=Lib.hid (fun W=>specRatText_any x y W)
 have HB0:=Lib.hid (bel_alloc (Below.refl w.heap.size w) (.cells #[.int .i64 s,.int .i64 x,.int .i64 y] 99))
 have HX0:=Lib.hid (Blk.new w 99 #[.int .i64 s,.int .i64 x,.int .i64 y])
 cases hv:rtB (s,(x,y))
 ·have HE:Hid (bs (rootT (s,(x,y)))=⟨#[]⟩):=by unfold Hid rootT;rw [hv];rfl
  rw [hv] at HV;clear hv
  go_enter Tryz.func113,Tryz.ntmps113
  go_wp2_with fail
  refine (HV.out _).mono ?_
  rintro e w1 ⟨rfl,hb1⟩
  have HB1:=Lib.hid (bel_sub HB0.out hb1);clear hb1
  go_wp2_with fail
  go_ret
  exact ⟨by rw [HE.out];rfl,HB1.out⟩
 have hlen:(ratT (x,y)).length≤23:=ratT_len _
 have HT:Hid (rootT (s,(x,y))=if s=0 then [48] else if s<0 then [45,115,113,114,116,40]++ratT (x,y)++[41] else [115,113,114,116,40]++ratT (x,y)++[41]):=by unfold Hid rootT;rw [hv,if_pos rfl]
 rw [hv] at HV;clear hv
 by_cases h0:s=0
 ·subst h0
  have HE:Hid (bs (rootT (0,(x,y)))=⟨#[48]⟩):=by unfold Hid;rw [HT.out,if_pos rfl];rfl
  go_enter Tryz.func113,Tryz.ntmps113
  go_wp2_with fail
  refine (HV.out _).mono ?_
  rintro e w1 ⟨rfl,hb1⟩
  have HB1:=Lib.hid (bel_sub HB0.out hb1)
  obtain ⟨z0,z1,z2,_,_,_⟩:=blk3 (HX0.out.sub hb1);clear hb1
  go_wp2_with fail
  go_ret
  exact ⟨by rw [HE.out];rfl,HB1.out⟩
 have d0:(s==0)=false:=by simpa using h0
 have hz:(bs (ratT (x,y))).size≤23:=by rw [bs_size];exact hlen
 have HE1:Hid (s<0→bs (rootT (s,(x,y)))=(⟨#[45]⟩:ByteArray)++((⟨#[115,113,114,116,40]⟩:ByteArray)++bs (ratT (x,y))++⟨#[41]⟩)):=fun h=>by
  rw [HT.out,if_neg h0,if_pos h,show ([45,115,113,114,116,40]:List UInt8)++ratT (x,y)++[41]=[45]++([115,113,114,116,40]++ratT (x,y)++[41]) by simp,←bs_append,←bs_append,←bs_append];rfl
 have HE2:Hid (¬s<0→bs (rootT (s,(x,y)))=(⟨#[115,113,114,116,40]⟩:ByteArray)++bs (ratT (x,y))++⟨#[41]⟩):=fun h=>by
  rw [HT.out,if_neg h0,if_neg h,←bs_append,←bs_append];rfl
 obtain ⟨X,hX⟩:∃X,bs (rootT (s,(x,y)))=X:=⟨_,rfl⟩
 rw [hX] at HE1 HE2 ⊢
 obtain ⟨T,hT⟩:∃T,bs (ratT (x,y))=T:=⟨_,rfl⟩
 rw [hT] at HE1 HE2 HRT hz
 clear hX hT h0 HT
 by_cases hs:s<0
 ·have HE:=Lib.hid (HE1.out hs)
  go_enter Tryz.func113,Tryz.ntmps113
  go_wp2_with fail
  refine (HV.out _).mono ?_
  rintro e w1 ⟨rfl,hb1⟩
  have HB1:=Lib.hid (bel_sub HB0.out hb1)
  have HX1:=Lib.hid (HX0.out.sub hb1);clear hb1
  obtain ⟨z0,z1,z2,_,_,_⟩:=blk3 HX1.out
  go_wp2_with fail
  refine (HRT.out _).mono ?_
  rintro e w2 ⟨rfl,hb2⟩
  have HB2:=Lib.hid (bel_sub HB1.out hb2)
  clear z0 z1 z2
  obtain ⟨z0,z1,z2,_,_,_⟩:=blk3 (HX1.out.sub hb2);clear hb2
  go_wp2_with fail
  go_ret
  exact ⟨by rw [HE.out];rfl,HB2.out⟩
 ·have HE:=Lib.hid (HE2.out hs)
  go_enter Tryz.func113,Tryz.ntmps113
  go_wp2_with fail
  refine (HV.out _).mono ?_
  rintro e w1 ⟨rfl,hb1⟩
  have HB1:=Lib.hid (bel_sub HB0.out hb1)
  have HX1:=Lib.hid (HX0.out.sub hb1);clear hb1
  obtain ⟨z0,z1,z2,_,_,_⟩:=blk3 HX1.out
  go_wp2_with fail
  refine (HRT.out _).mono ?_
  rintro e w2 ⟨rfl,hb2⟩
  have HB2:=Lib.hid (bel_sub HB1.out hb2)
  clear z0 z1 z2
  obtain ⟨z0,z1,z2,_,_,_⟩:=blk3 (HX1.out.sub hb2);clear hb2
  go_wp2_with fail
  go_ret
  exact ⟨by rw [HE.out];rfl,HB2.out⟩
end
end Go.Proofs.YtjdfbnlaiiknpaaGreatDoor
