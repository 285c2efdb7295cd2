/- Parts of the proof of : Fc2. -/
import Derived.Test.YtlgdndnaiogooaaGreatDoorQ19
set_option maxHeartbeats 20000000
set_option maxRecDepth 1000000
set_option linter.unusedSimpArgs false
set_option linter.unusedVariables false
namespace Go.Proofs.YtlgdndnaiogooaaGreatDoor
section
open Go.RowKit
attribute [local go_sem ↓] Go.wp_at_zero Go.wp_at_succ
def triB (a b c:Int):Bool:=(inB a 0 24 && inB b 0 24 && inB c 0 24) && (decide ((a+b+c) % 2=0) && decide (a≤b+c) && decide (b≤a+c) && decide (c≤a+b))
theorem triB_iff {a b c:Int}:triB a b c=true↔((0≤a∧a≤24)∧(0≤b∧b≤24)∧(0≤c∧c≤24))∧(a+b+c) % 2=0∧a≤b+c∧b≤a+c∧c≤a+b:=by
 simp only [triB,Bool.and_eq_true,inB_iff,decide_eq_true_eq]
 constructor
 ·rintro ⟨⟨⟨h1,h2⟩,h3⟩,⟨⟨h4,h5⟩,h6⟩,h7⟩;exact ⟨⟨h1,h2,h3⟩,h4,h5,h6,h7⟩
 ·rintro ⟨⟨h1,h2,h3⟩,h4,h5,h6,h7⟩;exact ⟨⟨⟨h1,h2⟩,h3⟩,⟨⟨h4,h5⟩,h6⟩,h7⟩
theorem SpinTriangle_all (a b c:Int) (w:World) :
 Calls Tryz.prog 78 #[.int .i64 a,.int .i64 b,.int .i64 c] w fun e w'=>e=.returned (.bool (triB a b c))∧w=w':=by
 have HA:=Lib.hid (implSpinValid_any a w)
 have HBv:=Lib.hid (implSpinValid_any b w)
 have HC:=Lib.hid (implSpinValid_any c w)
 obtain ⟨r,hr⟩:∃r,triB a b c=r:=⟨_,rfl⟩
 rw [hr]
 have HR:=Lib.hid hr;clear hr
 cases ia:inB a 0 24
 ·have he:r=false:=by rw [←HR.out];simp [triB,ia]
  have HE:=Lib.hid he;clear he HR
  rw [ia] at HA;clear ia
  go_enter Tryz.func78,Tryz.ntmps78
  go_wp2_with fail
  refine HA.out.mono ?_
  rintro e w1 ⟨rfl,rfl⟩
  go_wp2_with fail
  go_ret
  exact ⟨ret_bool HE.out.symm,rfl⟩
 cases ib:inB b 0 24
 ·have he:r=false:=by rw [←HR.out];simp [triB,ib]
  have HE:=Lib.hid he;clear he HR
  rw [ia] at HA;rw [ib] at HBv;clear ia ib
  go_enter Tryz.func78,Tryz.ntmps78
  go_wp2_with fail
  refine HA.out.mono ?_
  rintro e w1 ⟨rfl,rfl⟩
  go_wp2_with fail
  refine HBv.out.mono ?_
  rintro e w1 ⟨rfl,rfl⟩
  go_wp2_with fail
  go_ret
  exact ⟨ret_bool HE.out.symm,rfl⟩
 cases ic:inB c 0 24
 ·have he:r=false:=by rw [←HR.out];simp [triB,ic]
  have HE:=Lib.hid he;clear he HR
  rw [ia] at HA;rw [ib] at HBv;rw [ic] at HC;clear ia ib ic
  go_enter Tryz.func78,Tryz.ntmps78
  go_wp2_with fail
  refine HA.out.mono ?_
  rintro e w1 ⟨rfl,rfl⟩
  go_wp2_with fail
  refine HBv.out.mono ?_
  rintro e w1 ⟨rfl,rfl⟩
  go_wp2_with fail
  refine HC.out.mono ?_
  rintro e w1 ⟨rfl,rfl⟩
  go_wp2_with fail
  go_ret
  exact ⟨ret_bool HE.out.symm,rfl⟩
 have ha:=inB_iff.1 ia
 have hb:=inB_iff.1 ib
 have hc:=inB_iff.1 ic
 have he:r=(decide ((a+b+c) % 2=0) && decide (a≤b+c) && decide (b≤a+c) && decide (c≤a+b)):=by rw [←HR.out];simp only [triB,ia,ib,ic,Bool.and_self,Bool.true_and]
 have HE:=Lib.hid he;clear he HR
 rw [ia] at HA;rw [ib] at HBv;rw [ic] at HC;clear ia ib ic
 have u1:IntKind.i64.wrap (a+b)=a+b:=IntWalk.i64_in _ (by omega)
 have u2:IntKind.i64.wrap (a+b+c)=a+b+c:=IntWalk.i64_in _ (by omega)
 have u3:IntKind.i64.wrap (b+c)=b+c:=IntWalk.i64_in _ (by omega)
 have u4:IntKind.i64.wrap (a+c)=a+c:=IntWalk.i64_in _ (by omega)
 go_enter Tryz.func78,Tryz.ntmps78
 go_wp2_with fail
 refine HA.out.mono ?_
 rintro e w1 ⟨rfl,rfl⟩
 go_wp2_with fail
 refine HBv.out.mono ?_
 rintro e w1 ⟨rfl,rfl⟩
 go_wp2_with fail
 refine HC.out.mono ?_
 rintro e w1 ⟨rfl,rfl⟩
 go_wp2_with fail
 all_goals
  go_ret
  refine ⟨ret_bool ?_,rfl⟩
  rw [HE.out]
  (simp_all <;> try omega)
def lvB (t:T2) (j:Int):Bool:=tvB t && triB (2*t.2) t.1 j
theorem lvB_iff {t:T2} {j:Int}:lvB t j=true↔tvB t=true∧triB (2*t.2) t.1 j=true:=by simp [lvB]
theorem lvB_mem {t:T2} {j:Int}:lvB t j=true↔j∈lvJs t:=by
 constructor
 ·intro h
  obtain ⟨h1,h2⟩:=lvB_iff.1 h
  have hb:=tvB_iff.1 h1
  have hx:=triB_iff.1 h2
  unfold lvJs
  rw [if_pos h1]
  unfold cpl cplTo
  refine List.mem_map.2 ⟨((j-((2*t.2-t.1).natAbs:Int)) / 2).toNat,List.mem_range.2 ?_,?_⟩ <;> omega
 ·intro h
  have h1:=lv_valid h
  have h2:=lv_ok h1 h
  have hb:=tvB_iff.1 h1
  unfold LvOk at h2
  exact lvB_iff.2 ⟨h1,triB_iff.2 ⟨⟨⟨by omega,by omega⟩,⟨by omega,by omega⟩,⟨by omega,by omega⟩⟩,by omega,by omega,by omega,by omega⟩⟩
theorem LevelValid_all (t:T2) (j:Int) (w:World) :
 Calls Tryz.prog 39 #[.agg #[.int .i64 t.1,.int .i64 t.2,.int .i64 j]] w fun e w'=>e=.returned (.bool (lvB t j))∧Below w.heap.size w w':=by
 have HT:=Lib.hid (implTermValid_any t (w.alloc (.cells #[.int .i64 t.1,.int .i64 t.2,.int .i64 j] 31)))
 obtain ⟨r,hr⟩:∃r,lvB t j=r:=⟨_,rfl⟩
 rw [hr]
 have HR:=Lib.hid hr;clear hr
 have HB:=Lib.hid ((Below.refl w.heap.size w).alloc (Nat.le_refl _) (.cells #[.int .i64 t.1,.int .i64 t.2,.int .i64 j] 31))
 have HD:=Lib.hid (Blk.new w 31 #[.int .i64 t.1,.int .i64 t.2,.int .i64 j])
 cases hv:tvB t
 ·have he:r=false:=by rw [←HR.out];simp [lvB,hv]
  have HE:=Lib.hid he;clear he HR
  rw [hv] at HT;clear hv
  generalize t.1=s at *
  generalize t.2=l at *
  go_enter Tryz.func39,Tryz.ntmps39
  go_wp2_with fail
  refine HT.out.mono ?_
  rintro e w1 ⟨rfl,hb1⟩
  have HB1:=Lib.hid (HB.out.trans (hb1.mono HB.out.size));clear hb1
  go_wp2_with fail
  go_ret
  exact ⟨ret_bool HE.out.symm,HB1.out⟩
 have hb:=tvB_iff.1 hv
 have he:r=triB (2*t.2) t.1 j:=by rw [←HR.out];simp [lvB,hv]
 have HE:=Lib.hid he;clear he HR
 rw [hv] at HT;clear hv
 have HS:=Lib.hid (fun W=>SpinTriangle_all (2*t.2) t.1 j W)
 rw [←HE.out] at HS
 obtain ⟨s,l⟩:=t
 simp only at *
 clear HE
 go_enter Tryz.func39,Tryz.ntmps39
 go_wp2_with fail
 refine HT.out.mono ?_
 rintro e w1 ⟨rfl,hb1⟩
 have HB1:=Lib.hid (HB.out.trans (hb1.mono HB.out.size))
 obtain ⟨d1,d2,d3⟩:=Level3 (HD.out.sub hb1);clear hb1
 go_wp2_with fail
 refine (HS.out _).mono ?_
 rintro e w2 ⟨rfl,rfl⟩
 go_wp2_with fail
 go_ret
 exact ⟨rfl,HB1.out⟩
end
end Go.Proofs.YtlgdndnaiogooaaGreatDoor
