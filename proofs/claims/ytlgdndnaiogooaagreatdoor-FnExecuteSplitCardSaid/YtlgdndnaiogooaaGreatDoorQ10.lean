/- Parts of the proof of : Lt1. -/
import Derived.Test.YtlgdndnaiogooaaGreatDoorQ08
import Derived.Test.YtlgdndnaiogooaaGreatDoorQ09
set_option maxHeartbeats 20000000
set_option maxRecDepth 1000000
set_option linter.unusedSimpArgs false
set_option linter.unusedVariables false
namespace Go.Proofs.YtlgdndnaiogooaaGreatDoor
section
open Go.RowKit
attribute [local go_sem ↓] Go.wp_at_zero Go.wp_at_succ
theorem SpinTriangle_any (a b c:Int) (w:World) (a0:0≤a) (a1:a≤24) (b0:0≤b) (b1:b≤24) (c0:0≤c) (c1:c≤24) (hp:(a+b+c) % 2=0) (h1:a≤b+c) (h2:b≤a+c) (h3:c≤a+b) :
 Calls Tryz.prog 78 #[.int .i64 a,.int .i64 b,.int .i64 c] w fun e w'=>e=.returned (.bool true)∧w=w':=by
 have ia:inB a 0 24=true:=inB_iff.2 ⟨a0,a1⟩
 have ib:inB b 0 24=true:=inB_iff.2 ⟨b0,b1⟩
 have ic:inB c 0 24=true:=inB_iff.2 ⟨c0,c1⟩
 have HA:=Lib.hid (implSpinValid_any a w);rw [ia] at HA
 have HBv:=Lib.hid (implSpinValid_any b w);rw [ib] at HBv
 have HC:=Lib.hid (implSpinValid_any c w);rw [ic] at HC
 clear ia ib ic
 have u1:IntKind.i64.wrap (a+b)=a+b:=IntWalk.i64_in _ (by omega)
 have u2:IntKind.i64.wrap (a+b+c)=a+b+c:=IntWalk.i64_in _ (by omega)
 have u3:IntKind.i64.wrap (b+c)=b+c:=IntWalk.i64_in _ (by omega)
 have u4:IntKind.i64.wrap (a+c)=a+c:=IntWalk.i64_in _ (by omega)
 go_enter Tryz.func78,Tryz.ntmps78
 go_wp2_with fail
 refine HA.out.mono ?_
 rintro e w1 ⟨rfl,rfl⟩
 go_wp2_with fail
 refine HBv.out.mono ?_
 rintro e w1 ⟨rfl,rfl⟩
 go_wp2_with fail
 refine HC.out.mono ?_
 rintro e w1 ⟨rfl,rfl⟩
 go_wp2_with fail
 go_ret
 exact ⟨ret_bool (by simp [*]),rfl⟩
def LvOk (t:T2) (j:Int):Prop:=0≤j∧j≤24∧(2*t.2+t.1+j) % 2=0∧2*t.2≤t.1+j∧t.1≤2*t.2+j∧j≤2*t.2+t.1
theorem lv_ok {t:T2} {j:Int} (hv:tvB t=true) (h:j∈lvJs t):LvOk t j:=by
 have hb:=tvB_iff.1 hv
 unfold lvJs at h
 rw [if_pos hv] at h
 unfold cpl cplTo at h
 obtain ⟨i,hi,rfl⟩:=List.mem_map.1 h
 have hi:=List.mem_range.1 hi
 unfold LvOk
 refine ⟨by omega,by omega,by omega,by omega,by omega,by omega⟩
theorem lv_valid {t:T2} {j:Int} (h:j∈lvJs t):tvB t=true:=by
 unfold lvJs at h
 cases hv:tvB t
 ·rw [hv] at h;cases h
 ·rfl
theorem Level3 {w:World} {g:Nat} {T:TypeId} {a b c:Value} (h:Blk w g T #[a,b,c]):w.cell? ⟨g,0,none⟩=some a∧w.cell? ⟨g,1,none⟩=some b∧w.cell? ⟨g,2,none⟩=some c:=⟨h.cell 0,h.cell 1,h.cell 2⟩
theorem LevelValid_any (t:T2) (j:Int) (w:World) (hv:tvB t=true) (hj:LvOk t j) :
 Calls Tryz.prog 39 #[.agg #[.int .i64 t.1,.int .i64 t.2,.int .i64 j]] w fun e w'=>e=.returned (.bool true)∧Below w.heap.size w w':=by
 have hb:=tvB_iff.1 hv
 have HT:=Lib.hid (implTermValid_any t (w.alloc (.cells #[.int .i64 t.1,.int .i64 t.2,.int .i64 j] 31)))
 rw [hv] at HT;clear hv
 have HS:=Lib.hid (fun W=>SpinTriangle_any (2*t.2) t.1 j W (by omega) (by omega) (by omega) (by omega) hj.1 hj.2.1 hj.2.2.1 hj.2.2.2.1 hj.2.2.2.2.1 hj.2.2.2.2.2)
 clear hj
 obtain ⟨s,l⟩:=t
 simp only at *
 have HB:=Lib.hid ((Below.refl w.heap.size w).alloc (Nat.le_refl _) (.cells #[.int .i64 s,.int .i64 l,.int .i64 j] 31))
 have HD:=Lib.hid (Blk.new w 31 #[.int .i64 s,.int .i64 l,.int .i64 j])
 go_enter Tryz.func39,Tryz.ntmps39
 go_wp2_with fail
 refine HT.out.mono ?_
 rintro e w1 ⟨rfl,hb1⟩
 have HB1:=Lib.hid (HB.out.trans (hb1.mono HB.out.size))
 obtain ⟨d1,d2,d3⟩:=Level3 (HD.out.sub hb1);clear hb1
 go_wp2_with fail
 refine (HS.out _).mono ?_
 rintro e w2 ⟨rfl,rfl⟩
 go_wp2_with fail
 go_ret
 exact ⟨rfl,HB1.out⟩
theorem LevelText_any (t:T2) (j:Int) (w:World) (hm:j∈lvJs t) :
 Calls Tryz.prog 12 #[.agg #[.int .i64 t.1,.int .i64 t.2,.int .i64 j]] w fun e w'=>e=.returned (.string (bs (tmT t++spT j)))∧Below w.heap.size w w':=by
 have hv:=lv_valid hm
 have HV:=Lib.hid (fun W=>LevelValid_any t j W hv (lv_ok hv hm))
 have hz1:(bs (tmT t)).size≤2:=by rw [bs_size,tmT_len hv];exact Nat.le_refl _
 have hz2:(bs (spT j)).size≤9:=by rw [bs_size];exact spT_len j
 have HX:=Lib.hid (fun W=>implTermText_any t W)
 have HY:=Lib.hid (fun W=>implSpinText_any j W)
 rw [←bs_append]
 generalize bs (tmT t)=X at *
 generalize bs (spT j)=Y at *
 clear hv hm
 obtain ⟨s,l⟩:=t
 simp only at *
 have HB:=Lib.hid ((Below.refl w.heap.size w).alloc (Nat.le_refl _) (.cells #[.int .i64 s,.int .i64 l,.int .i64 j] 31))
 have HD:=Lib.hid (Blk.new w 31 #[.int .i64 s,.int .i64 l,.int .i64 j])
 go_enter Tryz.func12,Tryz.ntmps12
 go_wp2_with fail
 refine (HV.out _).mono ?_
 rintro e w1 ⟨rfl,hb1⟩
 have HB1:=Lib.hid (HB.out.trans (hb1.mono HB.out.size))
 obtain ⟨d1,d2,d3⟩:=Level3 (HD.out.sub hb1);clear hb1
 have k1:=After.cell d1
 have k2:=After.cell d2
 have k3:=After.cell d3
 clear d1 d2 d3
 go_wp2_with fail
 refine wp_region_after (by kernel_rfl) (by kernel_rfl) ?_
 repeat (go_big_quiet_step ((first | (go_at_call 14;exact after_call _ (HX.out _)) | (go_at_call 40;exact after_same _ (HY.out _)))))
 refine wpQuiet_nil ?_
 intro w9 hw'
 obtain ⟨⟨w9',hb9⟩,hw''⟩:=hw'
 subst hw''
 have HB9:=Lib.hid (HB1.out.trans (hb9.mono HB1.out.size));clear hb9
 go_wp2_with fail
 go_ret
 exact ⟨rfl,HB9.out⟩
end
end Go.Proofs.YtlgdndnaiogooaaGreatDoor
