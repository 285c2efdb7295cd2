/- Parts of the proof of : Fc2 Rat Rat2. -/
import Derived.Test.YtjdfbnlaiiknpaaGreatDoorQ04
set_option maxHeartbeats 20000000
set_option maxRecDepth 1000000
set_option linter.unusedSimpArgs false
set_option linter.unusedVariables false
namespace Go.Proofs.YtjdfbnlaiiknpaaGreatDoor
section
open Go.RowKit
attribute [local go_sem ↓] Go.wp_at_zero Go.wp_at_succ
def triB (a b c:Int):Bool:=(inB a 0 24 && inB b 0 24 && inB c 0 24) && (decide ((a+b+c) % 2=0) && decide (a≤b+c) && decide (b≤a+c) && decide (c≤a+b))
theorem triB_iff {a b c:Int}:triB a b c=true↔((0≤a∧a≤24)∧(0≤b∧b≤24)∧(0≤c∧c≤24))∧(a+b+c) % 2=0∧a≤b+c∧b≤a+c∧c≤a+b:=by
 simp only [triB,Bool.and_eq_true,inB_iff,decide_eq_true_eq]
 constructor
 ·rintro ⟨⟨⟨h1,h2⟩,h3⟩,⟨⟨h4,h5⟩,h6⟩,h7⟩;exact ⟨⟨h1,h2,h3⟩,h4,h5,h6,h7⟩
 ·rintro ⟨⟨h1,h2,h3⟩,h4,h5,h6,h7⟩;exact ⟨⟨⟨h1,h2⟩,h3⟩,⟨⟨h4,h5⟩,h6⟩,h7⟩
theorem SpinTriangle_all (a b c:Int) (w:World) :
 Calls Tryz.prog 206 #[.int .i64 a,.int .i64 b,.int .i64 c] w fun e w'=>e=.returned (.bool (triB a b c))∧w=w':=by
 have HA:=Lib.hid (implSpinValid_any a w)
 have HBv:=Lib.hid (implSpinValid_any b w)
 have HC:=Lib.hid (implSpinValid_any c w)
 obtain ⟨r,hr⟩:∃r,triB a b c=r:=⟨_,rfl⟩
 rw [hr]
 have HR:=Lib.hid hr;clear hr
 cases ia:inB a 0 24
 ·have he:r=false:=by rw [←HR.out];simp [triB,ia]
  have HE:=Lib.hid he;clear he HR
  rw [ia] at HA;clear ia
  go_enter Tryz.func206,Tryz.ntmps206
  go_wp2_with fail
  refine HA.out.mono ?_
  rintro e w1 ⟨rfl,rfl⟩
  go_wp2_with fail
  go_ret
  exact ⟨ret_bool HE.out.symm,rfl⟩
 cases ib:inB b 0 24
 ·have he:r=false:=by rw [←HR.out];simp [triB,ib]
  have HE:=Lib.hid he;clear he HR
  rw [ia] at HA;rw [ib] at HBv;clear ia ib
  go_enter Tryz.func206,Tryz.ntmps206
  go_wp2_with fail
  refine HA.out.mono ?_
  rintro e w1 ⟨rfl,rfl⟩
  go_wp2_with fail
  refine HBv.out.mono ?_
  rintro e w1 ⟨rfl,rfl⟩
  go_wp2_with fail
  go_ret
  exact ⟨ret_bool HE.out.symm,rfl⟩
 cases ic:inB c 0 24
 ·have he:r=false:=by rw [←HR.out];simp [triB,ic]
  have HE:=Lib.hid he;clear he HR
  rw [ia] at HA;rw [ib] at HBv;rw [ic] at HC;clear ia ib ic
  go_enter Tryz.func206,Tryz.ntmps206
  go_wp2_with fail
  refine HA.out.mono ?_
  rintro e w1 ⟨rfl,rfl⟩
  go_wp2_with fail
  refine HBv.out.mono ?_
  rintro e w1 ⟨rfl,rfl⟩
  go_wp2_with fail
  refine HC.out.mono ?_
  rintro e w1 ⟨rfl,rfl⟩
  go_wp2_with fail
  go_ret
  exact ⟨ret_bool HE.out.symm,rfl⟩
 have ha:=inB_iff.1 ia
 have hb:=inB_iff.1 ib
 have hc:=inB_iff.1 ic
 have he:r=(decide ((a+b+c) % 2=0) && decide (a≤b+c) && decide (b≤a+c) && decide (c≤a+b)):=by rw [←HR.out];simp only [triB,ia,ib,ic,Bool.and_self,Bool.true_and]
 have HE:=Lib.hid he;clear he HR
 rw [ia] at HA;rw [ib] at HBv;rw [ic] at HC;clear ia ib ic
 have u1:IntKind.i64.wrap (a+b)=a+b:=IntWalk.i64_in _ (by omega)
 have u2:IntKind.i64.wrap (a+b+c)=a+b+c:=IntWalk.i64_in _ (by omega)
 have u3:IntKind.i64.wrap (b+c)=b+c:=IntWalk.i64_in _ (by omega)
 have u4:IntKind.i64.wrap (a+c)=a+c:=IntWalk.i64_in _ (by omega)
 go_enter Tryz.func206,Tryz.ntmps206
 go_wp2_with fail
 refine HA.out.mono ?_
 rintro e w1 ⟨rfl,rfl⟩
 go_wp2_with fail
 refine HBv.out.mono ?_
 rintro e w1 ⟨rfl,rfl⟩
 go_wp2_with fail
 refine HC.out.mono ?_
 rintro e w1 ⟨rfl,rfl⟩
 go_wp2_with fail
 all_goals
  go_ret
  refine ⟨ret_bool ?_,rfl⟩
  rw [HE.out]
  (simp_all <;> try omega)
def lvB (t:T2) (j:Int):Bool:=tvB t && triB (2*t.2) t.1 j
theorem lvB_iff {t:T2} {j:Int}:lvB t j=true↔tvB t=true∧triB (2*t.2) t.1 j=true:=by simp [lvB]
theorem lvB_mem {t:T2} {j:Int}:lvB t j=true↔j∈lvJs t:=by
 constructor
 ·intro h
  obtain ⟨h1,h2⟩:=lvB_iff.1 h
  have hb:=tvB_iff.1 h1
  have hx:=triB_iff.1 h2
  unfold lvJs
  rw [if_pos h1]
  unfold cpl cplTo
  refine List.mem_map.2 ⟨((j-((2*t.2-t.1).natAbs:Int)) / 2).toNat,List.mem_range.2 ?_,?_⟩ <;> omega
 ·intro h
  have h1:=lv_valid h
  have h2:=lv_ok h1 h
  have hb:=tvB_iff.1 h1
  unfold LvOk at h2
  exact lvB_iff.2 ⟨h1,triB_iff.2 ⟨⟨⟨by omega,by omega⟩,⟨by omega,by omega⟩,⟨by omega,by omega⟩⟩,by omega,by omega,by omega,by omega⟩⟩
theorem LevelValid_all (t:T2) (j:Int) (w:World) :
 Calls Tryz.prog 190 #[.agg #[.int .i64 t.1,.int .i64 t.2,.int .i64 j]] w fun e w'=>e=.returned (.bool (lvB t j))∧Below w.heap.size w w':=by
 have HT:=Lib.hid (implTermValid_any t (w.alloc (.cells #[.int .i64 t.1,.int .i64 t.2,.int .i64 j] 131)))
 obtain ⟨r,hr⟩:∃r,lvB t j=r:=⟨_,rfl⟩
 rw [hr]
 have HR:=Lib.hid hr;clear hr
 have HB:=Lib.hid ((Below.refl w.heap.size w).alloc (Nat.le_refl _) (.cells #[.int .i64 t.1,.int .i64 t.2,.int .i64 j] 131))
 have HD:=Lib.hid (Blk.new w 131 #[.int .i64 t.1,.int .i64 t.2,.int .i64 j])
 cases hv:tvB t
 ·have he:r=false:=by rw [←HR.out];simp [lvB,hv]
  have HE:=Lib.hid he;clear he HR
  rw [hv] at HT;clear hv
  generalize t.1=s at *
  generalize t.2=l at *
  go_enter Tryz.func190,Tryz.ntmps190
  go_wp2_with fail
  refine HT.out.mono ?_
  rintro e w1 ⟨rfl,hb1⟩
  have HB1:=Lib.hid (HB.out.trans (hb1.mono HB.out.size));clear hb1
  go_wp2_with fail
  go_ret
  exact ⟨ret_bool HE.out.symm,HB1.out⟩
 have hb:=tvB_iff.1 hv
 have he:r=triB (2*t.2) t.1 j:=by rw [←HR.out];simp [lvB,hv]
 have HE:=Lib.hid he;clear he HR
 rw [hv] at HT;clear hv
 have HS:=Lib.hid (fun W=>SpinTriangle_all (2*t.2) t.1 j W)
 rw [←HE.out] at HS
 obtain ⟨s,l⟩:=t
 simp only at *
 clear HE
 go_enter Tryz.func190,Tryz.ntmps190
 go_wp2_with fail
 refine HT.out.mono ?_
 rintro e w1 ⟨rfl,hb1⟩
 have HB1:=Lib.hid (HB.out.trans (hb1.mono HB.out.size))
 obtain ⟨d1,d2,d3⟩:=Level3 (HD.out.sub hb1);clear hb1
 go_wp2_with fail
 refine (HS.out _).mono ?_
 rintro e w2 ⟨rfl,rfl⟩
 go_wp2_with fail
 go_ret
 exact ⟨rfl,HB1.out⟩
end
section
open Go.RowKit
attribute [local go_sem ↓] Go.wp_at_zero Go.wp_at_succ
theorem below_drewN {B:Nat} {a w:World} (h:Below B a w) (n:Nat):Below B a (w.drewN n):=⟨h.os,h.tape,h.output,h.size,h.block⟩
theorem implAbs_any (n:Int) (w:World) (h:-9223372036854775807≤n) (h':n≤9223372036854775807) :
 Calls Tryz.prog 121 #[.int .i64 n] w fun e w'=>e=.returned (.int .i64 (n.natAbs:Int))∧w'=w:=by
 by_cases h1:n<0
 ·go_enter Tryz.func121,Tryz.ntmps121
  go_wp2
  go_ret
  exact ⟨ret_int (by omega),rfl⟩
 ·go_enter Tryz.func121,Tryz.ntmps121
  go_wp2
  go_ret
  exact ⟨ret_int (by omega),rfl⟩
theorem specAbs_any (n:Int) (w:World) (h:-9223372036854775807≤n) (h':n≤9223372036854775807) :
 Calls Tryz.prog 78 #[.int .i64 n] w fun e w'=>e=.returned (.int .i64 (n.natAbs:Int))∧w'=w:=by
 by_cases h1:n<0
 ·go_enter Tryz.func78,Tryz.ntmps78
  go_wp2
  go_ret
  exact ⟨ret_int (by omega),rfl⟩
 ·go_enter Tryz.func78,Tryz.ntmps78
  go_wp2
  go_ret
  exact ⟨ret_int (by omega),rfl⟩
theorem gcd_step (x y:Nat):Nat.gcd x y=Nat.gcd y (x % y):=by rw [Nat.gcd_comm x y,Nat.gcd_rec,Nat.gcd_comm]
theorem divisor_any (a b:Int) (w:World) (ha:-9223372036854775807≤a∧a≤9223372036854775807) (hb:-9223372036854775807≤b∧b≤9223372036854775807) :
 Calls Tryz.prog 239 #[.int .i64 a,.int .i64 b] w fun e w'=>e=.returned (.int .i64 (Nat.gcd a.natAbs b.natAbs:Nat))∧∃q,w'=w.drewN q:=by
 have HA:=Lib.hid (fun W=>implAbs_any a W ha.1 ha.2)
 have HB:=Lib.hid (fun W=>implAbs_any b W hb.1 hb.2)
 have hx:(a.natAbs:Int)≤9223372036854775807:=by omega
 have hy:(b.natAbs:Int)≤9223372036854775807:=by omega
 generalize a.natAbs=x0 at *
 generalize b.natAbs=y0 at *
 go_enter Tryz.func239,Tryz.ntmps239
 go_wp2_with fail
 refine (HA.out _).mono ?_
 rintro e w1 ⟨rfl,rfl⟩
 go_wp2_with fail
 refine (HB.out _).mono ?_
 rintro e w1 ⟨rfl,rfl⟩
 go_wp2_with fail
 go_loopw [0,1] (fun u v wr=>∃(x y q:Nat),u=.int .i64 x∧v=.int .i64 y∧Hid (Nat.gcd x y=Nat.gcd x0 y0)∧(x:Int)≤9223372036854775807∧(y:Int)≤9223372036854775807∧wr=w1.drewN q) (fun _ v _=>(intOf v).toNat)
 case atStart=>exact ⟨x0,y0,0,rfl,rfl,rfl,hx,hy,rfl⟩
 case round =>
  obtain ⟨x,y,q,rfl,rfl,hg,h1,h2,rfl⟩:=hrel
  by_cases h0:y=0
  ·subst h0
   go_wp2_with fail
   go_ret
   exact ⟨ret_int (by have:=hg.out;rw [Nat.gcd_zero_right] at this;rw [this]),q,rfl⟩
  ·have hne:((y:Int) != 0)=true:=by simp;omega
   have hlt:=Nat.mod_lt x (show 0<y by omega)
   have HG:Hid (Nat.gcd y (x % y)=Nat.gcd x0 y0):=(gcd_step x y).symm.trans hg.out
   have hre:(x:Int).tmod (y:Int)=((x % y:Nat):Int):=rfl
   have hr2:(x:Int) % (y:Int)=((x % y:Nat):Int):=rfl
   have hu:¬((y:Int)=0):=by omega
   have u1:IntKind.i64.wrap ((x % y:Nat):Int)=((x % y:Nat):Int):=IntWalk.i64_in _ (by omega)
   have HR2:=Lib.hid hr2
   clear hr2
   go_wp2_with fail
   go_quiet (fail)
   clear u1 hre
   go_wp2_with fail
   go_roundw
   case rel=>exact ⟨y,x % y,_,rfl,by first | rfl | (rw [←HR2.out]),HG,h2,by omega,by first | exact World.drewN_drewN _ _ _ | rfl⟩
   case measure=>simp [intOf];omega
theorem specGcd_any (x0 y0:Nat) (w:World) (hx:(x0:Int)≤9223372036854775807) (hy:(y0:Int)≤9223372036854775807) :
 Calls Tryz.prog 217 #[.int .i64 x0,.int .i64 y0] w fun e w'=>e=.returned (.int .i64 (Nat.gcd x0 y0:Nat))∧w'=w:=by
 go_enter Tryz.func217,Tryz.ntmps217
 go_wp2_with fail
 go_loop [0,1] (fun u v=>∃(x y:Nat),u=.int .i64 x∧v=.int .i64 y∧Hid (Nat.gcd x y=Nat.gcd x0 y0)∧(x:Int)≤9223372036854775807∧(y:Int)≤9223372036854775807) (fun _ v=>(intOf v).toNat)
 case atStart=>exact ⟨x0,y0,rfl,rfl,rfl,hx,hy⟩
 case round =>
  obtain ⟨x,y,rfl,rfl,hg,h1,h2⟩:=hrel
  by_cases h0:y=0
  ·subst h0
   go_wp2_with fail
   go_ret
   exact ⟨ret_int (by have:=hg.out;rw [Nat.gcd_zero_right] at this;rw [this]),rfl⟩
  ·have hne:((y:Int) != 0)=true:=by simp;omega
   have hlt:=Nat.mod_lt x (show 0<y by omega)
   have HG:Hid (Nat.gcd y (x % y)=Nat.gcd x0 y0):=(gcd_step x y).symm.trans hg.out
   have hre:(x:Int).tmod (y:Int)=((x % y:Nat):Int):=rfl
   have hr2:(x:Int) % (y:Int)=((x % y:Nat):Int):=rfl
   have hu:¬((y:Int)=0):=by omega
   have u1:IntKind.i64.wrap ((x % y:Nat):Int)=((x % y:Nat):Int):=IntWalk.i64_in _ (by omega)
   have HR2:=Lib.hid hr2
   clear hr2
   go_wp2_with fail
   go_round
   case rel=>exact ⟨y,x % y,rfl,by first | rfl | (rw [←HR2.out]),HG,h2,by omega⟩
   case measure=>simp [intOf];omega
end
section
open Go.RowKit
attribute [local go_sem ↓] Go.wp_at_zero Go.wp_at_succ
def rvB (a:T2):Bool:=(inB a.2 1 1000000000 && inB a.1 (-1000000000) 1000000000) && decide (Nat.gcd a.1.natAbs a.2.natAbs=1)
theorem beq_one (g:Nat):((g:Int)==1)=(g==1):=by
 by_cases h:g=1
 ·subst h;rfl
 ·rw [show ((g:Int)==1)=false by simp;omega,show (g==1)=false by simpa using h]
def ratV (a:T2):Value:=.agg #[.int .i64 a.1,.int .i64 a.2]
theorem implRatValid_any (a b:Int) (w:World) :
 Calls Tryz.prog 194 #[.agg #[.int .i64 a,.int .i64 b]] w fun e w'=>e=.returned (.bool (rvB (a,b)))∧Below w.heap.size w w':=by
 have HB1:=Lib.hid ((Below.refl w.heap.size w).alloc (Nat.le_refl _) (.cells #[.int .i64 a,.int .i64 b] 97))
 obtain ⟨r,hr⟩:∃r,rvB (a,b)=r:=⟨_,rfl⟩
 rw [hr]
 have HR:=Lib.hid hr;clear hr
 by_cases c1:1≤b
 ·by_cases c2:b≤1000000000
  ·by_cases c3:-1000000000≤a
   ·by_cases c4:a≤1000000000
    ·have HD:=Lib.hid (fun W=>divisor_any a b W (by omega) (by omega))
     have he:r=((Nat.gcd a.natAbs b.natAbs:Nat)==(1:Nat)):=by
      rw [←HR.out]
      simp only [rvB,inB,decide_eq_true c1,decide_eq_true c2,decide_eq_true c3,decide_eq_true c4,Bool.true_and]
      by_cases h:Nat.gcd a.natAbs b.natAbs=1 <;> simp [h]
     have HE:=Lib.hid he;clear he HR
     generalize Nat.gcd a.natAbs b.natAbs=g at *
     go_enter Tryz.func194,Tryz.ntmps194
     go_wp2_with fail
     refine (HD.out _).mono ?_
     rintro e w1 ⟨rfl,q,rfl⟩
     go_wp2_with fail
     go_ret
     exact ⟨ret_bool (by rw [HE.out];exact beq_one g),below_drewN HB1.out q⟩
    ·have he:r=false:=by rw [←HR.out];simp [rvB,inB,c4]
     have HE:=Lib.hid he;clear he HR
     have d4:decide (a≤1000000000)=false:=by simpa using c4
     go_enter Tryz.func194,Tryz.ntmps194
     go_wp2_with fail
     go_ret
     exact ⟨ret_bool HE.out.symm,HB1.out⟩
   ·have he:r=false:=by rw [←HR.out];simp [rvB,inB,c3]
    have HE:=Lib.hid he;clear he HR
    have d4:decide (-1000000000≤a)=false:=by simpa using c3
    go_enter Tryz.func194,Tryz.ntmps194
    go_wp2_with fail
    go_ret
    exact ⟨ret_bool HE.out.symm,HB1.out⟩
  ·have he:r=false:=by rw [←HR.out];simp [rvB,inB,c2]
   have HE:=Lib.hid he;clear he HR
   have d4:decide (b≤1000000000)=false:=by simpa using c2
   go_enter Tryz.func194,Tryz.ntmps194
   go_wp2_with fail
   go_ret
   exact ⟨ret_bool HE.out.symm,HB1.out⟩
 ·have he:r=false:=by rw [←HR.out];simp [rvB,inB,c1]
  have HE:=Lib.hid he;clear he HR
  have d4:decide (1≤b)=false:=by simpa using c1
  go_enter Tryz.func194,Tryz.ntmps194
  go_wp2_with fail
  go_ret
  exact ⟨ret_bool HE.out.symm,HB1.out⟩
theorem specRatValid_any (a b:Int) (w:World) :
 Calls Tryz.prog 164 #[.agg #[.int .i64 a,.int .i64 b]] w fun e w'=>e=.returned (.bool (rvB (a,b)))∧Below w.heap.size w w':=by
 have HB1:=Lib.hid ((Below.refl w.heap.size w).alloc (Nat.le_refl _) (.cells #[.int .i64 a,.int .i64 b] 97))
 obtain ⟨r,hr⟩:∃r,rvB (a,b)=r:=⟨_,rfl⟩
 rw [hr]
 have HR:=Lib.hid hr;clear hr
 cases c1:inB b 1 1000000000
 ·have he:r=false:=by rw [←HR.out];simp [rvB,c1]
  have HE:=Lib.hid he;have HC:=Lib.hid c1;clear he HR c1
  go_enter Tryz.func164,Tryz.ntmps164
  go_wp2_with fail
  refine (l6In_any _ _ _ _).mono ?_
  rintro e w1 ⟨rfl,rfl⟩
  rw [HC.out]
  go_wp2_with fail
  go_ret
  exact ⟨ret_bool HE.out.symm,HB1.out⟩
 have b1:=inB_iff.1 c1
 have HC:=Lib.hid c1
 cases c2:inB a (-1000000000) 1000000000
 ·have he:r=false:=by rw [←HR.out];simp [rvB,c2]
  have HE:=Lib.hid he;have HC2:=Lib.hid c2;clear he HR c1 c2
  go_enter Tryz.func164,Tryz.ntmps164
  go_wp2_with fail
  refine (l6In_any _ _ _ _).mono ?_
  rintro e w1 ⟨rfl,rfl⟩
  rw [HC.out]
  go_wp2_with fail
  refine (l6In_any _ _ _ _).mono ?_
  rintro e w1 ⟨rfl,rfl⟩
  rw [HC2.out]
  go_wp2_with fail
  go_ret
  exact ⟨ret_bool HE.out.symm,HB1.out⟩
 have b2:=inB_iff.1 c2
 have HC2:=Lib.hid c2
 have he:r=((Nat.gcd a.natAbs b.natAbs:Nat)==(1:Nat)):=by
  rw [←HR.out]
  simp only [rvB,c1,c2,Bool.true_and]
  by_cases h:Nat.gcd a.natAbs b.natAbs=1 <;> simp [h]
 have HE:=Lib.hid he;clear he HR c1 c2
 have hbb:b=(b.natAbs:Int):=by omega
 have HG:=Lib.hid (fun W=>specGcd_any a.natAbs b.natAbs W (by omega) (by omega))
 rw [←hbb] at HG
 clear hbb
 have HA:=Lib.hid (fun W=>specAbs_any a W (by omega) (by omega))
 generalize Nat.gcd a.natAbs b.natAbs=g at *
 generalize a.natAbs=a' at *
 go_enter Tryz.func164,Tryz.ntmps164
 go_wp2_with fail
 refine (l6In_any _ _ _ _).mono ?_
 rintro e w1 ⟨rfl,rfl⟩
 rw [HC.out]
 go_wp2_with fail
 refine (l6In_any _ _ _ _).mono ?_
 rintro e w1 ⟨rfl,rfl⟩
 rw [HC2.out]
 go_wp2_with fail
 go_quiet (first | (go_at_call 78;exact Calls.quiet_of_same (HA.out _)) | (go_at_call 217;exact Calls.quiet_of_same (HG.out _)))
 go_wp2_with fail
 go_ret
 exact ⟨ret_bool (by rw [HE.out];exact beq_one g),below_drewN HB1.out _⟩
def sg (num den:Int):Int:=if den<0 then -((Nat.gcd num.natAbs den.natAbs:Nat):Int) else ((Nat.gcd num.natAbs den.natAbs:Nat):Int)
def mk0 (num den:Int):T2:=(num.tdiv (sg num den),den.tdiv (sg num den))
def mkB (num den:Int):T2 × Bool:=if rvB (mk0 num den) then (mk0 num den,true) else ((0,0),false)
def ratOf (num den:Int):T2 × Bool:=if den=0∨inB num (-4000000000000000000) 4000000000000000000=false∨inB den (-4000000000000000000) 4000000000000000000=false then ((0,0),false) else mkB num den
def okV (r:T2 × Bool):Value:=.tuple #[ratV r.1,.bool r.2]
theorem tdiv_small {x g b:Int} (h:-b≤x∧x≤b):-b≤x.tdiv g∧x.tdiv g≤b:=by
 have h1:(x.tdiv g).natAbs=x.natAbs / g.natAbs:=Int.natAbs_tdiv x g
 have h2:=Nat.div_le_self x.natAbs g.natAbs
 omega
theorem results_rat_tmp {P:Program} {fn:Func} {p t1:Tmp} {ty:TypeId} {a b:Value} (h:fn.results=#[.cell p ty,.tmp t1]) (tmps:Array Value) (w:World) (g:Nat) (t:TypeId) (d:TypeDesc)
 (hp:tmps.getD p undef=.pointer (some ⟨g,0,none⟩)) (hg:Blk w g t #[a,b])
 (hu:P.underlying ty=some d) (hd:(match d with | .struct _ | .array _ _=>true | _=>false)=true) (hi:(P.info? ty).map (·.size)=some 2) :
 (results fn tmps).run P w=.ok (.tuple #[.agg #[a,b],tmps.getD t1 undef]) w:=by
 have hp':tmps[p]?.getD undef=.pointer (some ⟨g,0,none⟩):=by simpa using hp
 simp [results,h,hp',asAddr,run_loadVar_row w g t ty #[a,b] (0,0) d hg hu hd hi]
theorem implRatOf_any (num den:Int) (w:World) :
 Calls Tryz.prog 238 #[.int .i64 num,.int .i64 den] w fun e w'=>e=.returned (okV (ratOf num den))∧Below w.heap.size w w':=by
 obtain ⟨r,hr⟩:∃r,ratOf num den=r:=⟨_,rfl⟩
 rw [hr]
 have HR:=Lib.hid hr;clear hr
 have HD:=Lib.hid (Blk.new w 97 #[.int .i64 0,.int .i64 0])
 have HB1:=Lib.hid ((Below.refl w.heap.size w).alloc (Nat.le_refl _) (.cells #[.int .i64 0,.int .i64 0] 97))
 have hbad:(den=0∨num < -4000000000000000000∨4000000000000000000<num∨den < -4000000000000000000∨4000000000000000000<den)∨(den≠0∧-4000000000000000000≤num∧num≤4000000000000000000∧-4000000000000000000≤den∧den≤4000000000000000000):=by omega
 rcases hbad with hbad | ⟨n0,n1,n2,n3,n4⟩
 ·have he:r=((0,0),false):=by
   rw [←HR.out]
   unfold ratOf
   rw [if_pos]
   rcases hbad with h | h | h | h | h
   ·exact .inl h
   ·exact .inr (.inl (inB_not.2 (.inl h)))
   ·exact .inr (.inl (inB_not.2 (.inr h)))
   ·exact .inr (.inr (inB_not.2 (.inl h)))
   ·exact .inr (.inr (inB_not.2 (.inr h)))
  have HE:=Lib.hid he;clear he HR
  have HZ:=Lib.hid ((HD.out.set 0 (.int .i64 0)).set 1 (.int .i64 0))
  have HB2:=Lib.hid ((HB1.out.setCell (p:=⟨w.heap.size,0,none⟩) (Nat.le_refl _) (.int .i64 0)).setCell (p:=⟨w.heap.size,1,none⟩) (Nat.le_refl _) (.int .i64 0))
  rcases hbad with h | h | h | h | h
  all_goals
   go_enter Tryz.func238,Tryz.ntmps238
   go_wp2_with fail
   all_goals
    refine bodyPost_ret (v:=okV r) (by rw [HE.out];simp [results,Tryz.results238,go_sem];rfl) rfl ?_
    refine ⟨rfl,?_⟩
    repeat (first | exact Below.refl _ _ | refine Below.alloc ?_ (by simp;try omega) _ | refine Below.setCell ?_ (by simp;try omega) _)
 ·have hgp:0<Nat.gcd num.natAbs den.natAbs:=Nat.gcd_pos_of_pos_right _ (by omega)
  have hgl:Nat.gcd num.natAbs den.natAbs≤den.natAbs:=Nat.le_of_dvd (by omega) (Nat.gcd_dvd_right _ _)
  have HDV:=Lib.hid (fun W=>divisor_any num den W (by omega) (by omega))
  have he:r=mkB num den:=by
   rw [←HR.out]
   unfold ratOf
   rw [if_neg]
   rintro (h | h | h)
   ·exact n0 h
   ·rw [inB_iff.2 ⟨n1,n2⟩] at h;cases h
   ·rw [inB_iff.2 ⟨n3,n4⟩] at h;cases h
  have HE:=Lib.hid he;clear he HR
  have hgb:((Nat.gcd num.natAbs den.natAbs:Nat):Int)≤4000000000000000000:=by omega
  generalize hgg:Nat.gcd num.natAbs den.natAbs=g at *
  have dz:(den==0)=false:=by simpa using n0
  by_cases hd:den<0
  ·have hs:sg num den=-(g:Int):=by unfold sg;rw [if_pos hd,hgg]
   have q1b:=tdiv_small (x:=num) (g:=(g:Int)) (b:=4000000000000000000) (by omega)
   have q2b:=tdiv_small (x:=den) (g:=(g:Int)) (b:=4000000000000000000) (by omega)
   have hmk:mk0 num den=(-num.tdiv (g:Int),-den.tdiv (g:Int)):=by unfold mk0;rw [hs,Int.tdiv_neg,Int.tdiv_neg]
   have u7:¬((g:Int)=0):=by omega
   have u1:IntKind.i64.wrap (-num.tdiv (g:Int))=-num.tdiv (g:Int):=IntWalk.i64_in _ (by omega)
   have u2:IntKind.i64.wrap (-den.tdiv (g:Int))=-den.tdiv (g:Int):=IntWalk.i64_in _ (by omega)
   have HMK:=Lib.hid hmk
   clear hs hmk
   go_enter Tryz.func238,Tryz.ntmps238
   go_wp2_with fail
   refine (HDV.out _).mono ?_
   rintro e w1 ⟨rfl,nq,rfl⟩
   go_wp2_with fail
   have HW:Hid (Blk ((w.alloc (.cells #[.int .i64 0,.int .i64 0] 97)).drewN nq) w.heap.size 97 #[.int .i64 0,.int .i64 0]):=HD.out.drewN nq
   have HBW:Hid (Below w.heap.size w ((w.alloc (.cells #[.int .i64 0,.int .i64 0] 97)).drewN nq)):=below_drewN HB1.out nq
   have hsz:((w.alloc (.cells #[.int .i64 0,.int .i64 0] 97)).drewN nq).heap.size=w.heap.size+1:=by simp
   generalize (w.alloc (.cells #[.int .i64 0,.int .i64 0] 97)).drewN nq=W at *
   go_region
   clear u1 u2
   generalize -num.tdiv (g:Int)=q1 at *
   generalize -den.tdiv (g:Int)=q2 at *
   have HX:Hid (Blk (W.alloc (.cells #[.int .i64 q1,.int .i64 q2] 97)).drew (w.heap.size+1) 97 #[.int .i64 q1,.int .i64 q2]):=by
    have:=Blk.new W 97 #[.int .i64 q1,.int .i64 q2]
    rw [hsz] at this;exact this
   have HW2:Hid (Blk (W.alloc (.cells #[.int .i64 q1,.int .i64 q2] 97)).drew w.heap.size 97 #[.int .i64 0,.int .i64 0]):=HW.out.alloc _
   have HBW2:=Lib.hid ((HBW.out.alloc HBW.out.size (.cells #[.int .i64 q1,.int .i64 q2] 97)).drew)
   generalize (W.alloc (.cells #[.int .i64 q1,.int .i64 q2] 97)).drew=W2 at *
   obtain ⟨x1,x2,_,_⟩:=blk2 HX.out
   have HE2:Hid (r=if rvB (q1,q2) then ((q1,q2),true) else ((0,0),false)):=by unfold Hid;rw [HE.out];unfold mkB;rw [HMK.out]
   clear HE HMK HW HBW hsz
   go_wp2_with fail
   refine (implRatValid_any q1 q2 _).mono ?_
   rintro e w3 ⟨rfl,hb3⟩
   have HX3:=Lib.hid (HX.out.sub hb3)
   have HW3:=Lib.hid (HW2.out.sub hb3)
   have HB3:=Lib.hid (HBW2.out.trans (hb3.mono HBW2.out.size))
   clear hb3 x1 x2 HX HW2 HBW2
   obtain ⟨x1,x2,_,_⟩:=blk2 HX3.out
   obtain ⟨y1,y2,y3,y4⟩:=blk2 HW3.out
   cases hv:rvB (q1,q2)
   ·rw [hv] at HE2
    have HZ:=Lib.hid ((HW3.out.set 0 (.int .i64 0)).set 1 (.int .i64 0))
    have HB4:=Lib.hid ((HB3.out.setCell (p:=⟨w.heap.size,0,none⟩) (Nat.le_refl _) (.int .i64 0)).setCell (p:=⟨w.heap.size,1,none⟩) (Nat.le_refl _) (.int .i64 0))
    clear hv
    go_wp2_with fail
    refine bodyPost_ret (results_rat_tmp rfl _ _ w.heap.size _ _ rfl HZ.out Tryz.underlying97 rfl (by kernel_rfl)) rfl ?_
    exact ⟨by rw [HE2.out];rfl,HB4.out⟩
   ·rw [hv] at HE2
    have HZ:=Lib.hid ((HW3.out.set 0 (.int .i64 q1)).set 1 (.int .i64 q2))
    have HB4:=Lib.hid ((HB3.out.setCell (p:=⟨w.heap.size,0,none⟩) (Nat.le_refl _) (.int .i64 q1)).setCell (p:=⟨w.heap.size,1,none⟩) (Nat.le_refl _) (.int .i64 q2))
    clear hv
    go_wp2_with fail
    refine bodyPost_ret (results_rat_tmp rfl _ _ w.heap.size _ _ rfl HZ.out Tryz.underlying97 rfl (by kernel_rfl)) rfl ?_
    exact ⟨by rw [HE2.out];rfl,HB4.out⟩
  ·have hs:sg num den=(g:Int):=by unfold sg;rw [if_neg hd,hgg]
   have q1b:=tdiv_small (x:=num) (g:=(g:Int)) (b:=4000000000000000000) (by omega)
   have q2b:=tdiv_small (x:=den) (g:=(g:Int)) (b:=4000000000000000000) (by omega)
   have hmk:mk0 num den=(num.tdiv ((g:Int)),den.tdiv ((g:Int))):=by unfold mk0;rw [hs]
   have u7:¬((g:Int)=0):=by omega
   have u1:IntKind.i64.wrap (num.tdiv ((g:Int)))=num.tdiv ((g:Int)):=IntWalk.i64_in _ (by omega)
   have u2:IntKind.i64.wrap (den.tdiv ((g:Int)))=den.tdiv ((g:Int)):=IntWalk.i64_in _ (by omega)
   have HMK:=Lib.hid hmk
   clear hs hmk
   go_enter Tryz.func238,Tryz.ntmps238
   go_wp2_with fail
   refine (HDV.out _).mono ?_
   rintro e w1 ⟨rfl,nq,rfl⟩
   go_wp2_with fail
   have HW:Hid (Blk ((w.alloc (.cells #[.int .i64 0,.int .i64 0] 97)).drewN nq) w.heap.size 97 #[.int .i64 0,.int .i64 0]):=HD.out.drewN nq
   have HBW:Hid (Below w.heap.size w ((w.alloc (.cells #[.int .i64 0,.int .i64 0] 97)).drewN nq)):=below_drewN HB1.out nq
   have hsz:((w.alloc (.cells #[.int .i64 0,.int .i64 0] 97)).drewN nq).heap.size=w.heap.size+1:=by simp
   generalize (w.alloc (.cells #[.int .i64 0,.int .i64 0] 97)).drewN nq=W at *
   go_region
   clear u1 u2
   generalize num.tdiv ((g:Int))=q1 at *
   generalize den.tdiv ((g:Int))=q2 at *
   have HX:Hid (Blk (W.alloc (.cells #[.int .i64 q1,.int .i64 q2] 97)).drew (w.heap.size+1) 97 #[.int .i64 q1,.int .i64 q2]):=by
    have:=Blk.new W 97 #[.int .i64 q1,.int .i64 q2]
    rw [hsz] at this;exact this
   have HW2:Hid (Blk (W.alloc (.cells #[.int .i64 q1,.int .i64 q2] 97)).drew w.heap.size 97 #[.int .i64 0,.int .i64 0]):=HW.out.alloc _
   have HBW2:=Lib.hid ((HBW.out.alloc HBW.out.size (.cells #[.int .i64 q1,.int .i64 q2] 97)).drew)
   generalize (W.alloc (.cells #[.int .i64 q1,.int .i64 q2] 97)).drew=W2 at *
   obtain ⟨x1,x2,_,_⟩:=blk2 HX.out
   have HE2:Hid (r=if rvB (q1,q2) then ((q1,q2),true) else ((0,0),false)):=by unfold Hid;rw [HE.out];unfold mkB;rw [HMK.out]
   clear HE HMK HW HBW hsz
   go_wp2_with fail
   refine (implRatValid_any q1 q2 _).mono ?_
   rintro e w3 ⟨rfl,hb3⟩
   have HX3:=Lib.hid (HX.out.sub hb3)
   have HW3:=Lib.hid (HW2.out.sub hb3)
   have HB3:=Lib.hid (HBW2.out.trans (hb3.mono HBW2.out.size))
   clear hb3 x1 x2 HX HW2 HBW2
   obtain ⟨x1,x2,_,_⟩:=blk2 HX3.out
   obtain ⟨y1,y2,y3,y4⟩:=blk2 HW3.out
   cases hv:rvB (q1,q2)
   ·rw [hv] at HE2
    have HZ:=Lib.hid ((HW3.out.set 0 (.int .i64 0)).set 1 (.int .i64 0))
    have HB4:=Lib.hid ((HB3.out.setCell (p:=⟨w.heap.size,0,none⟩) (Nat.le_refl _) (.int .i64 0)).setCell (p:=⟨w.heap.size,1,none⟩) (Nat.le_refl _) (.int .i64 0))
    clear hv
    go_wp2_with fail
    refine bodyPost_ret (results_rat_tmp rfl _ _ w.heap.size _ _ rfl HZ.out Tryz.underlying97 rfl (by kernel_rfl)) rfl ?_
    exact ⟨by rw [HE2.out];rfl,HB4.out⟩
   ·rw [hv] at HE2
    have HZ:=Lib.hid ((HW3.out.set 0 (.int .i64 q1)).set 1 (.int .i64 q2))
    have HB4:=Lib.hid ((HB3.out.setCell (p:=⟨w.heap.size,0,none⟩) (Nat.le_refl _) (.int .i64 q1)).setCell (p:=⟨w.heap.size,1,none⟩) (Nat.le_refl _) (.int .i64 q2))
    clear hv
    go_wp2_with fail
    refine bodyPost_ret (results_rat_tmp rfl _ _ w.heap.size _ _ rfl HZ.out Tryz.underlying97 rfl (by kernel_rfl)) rfl ?_
    exact ⟨by rw [HE2.out];rfl,HB4.out⟩
end
end Go.Proofs.YtjdfbnlaiiknpaaGreatDoor
