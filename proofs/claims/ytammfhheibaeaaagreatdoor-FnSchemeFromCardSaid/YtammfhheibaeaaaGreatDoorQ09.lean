/- Parts of the proof of : Sc2. -/
import Derived.Test.YtammfhheibaeaaaGreatDoorQ08
set_option maxHeartbeats 20000000
set_option maxRecDepth 1000000
set_option linter.unusedSimpArgs false
set_option linter.unusedVariables false
namespace Go.Proofs.YtammfhheibaeaaaGreatDoor
section
open Go.RowKit
attribute [local go_sem ↓] Go.wp_at_zero Go.wp_at_succ
theorem specSchemeValid_any (A:Option Addr) (n c:Nat) (ns:List T3) (w:World) (hn:n≤1048576) (hns:ns.length=n) (hr:Reads w w.heap.size 3 A n (ncells ns)) :
 Calls Tryz.prog 30 #[.slice A n c] w fun e w'=>e=.returned (.bool (svB ns))∧Below w.heap.size w w':=by
 have HR:=Lib.hid (fun W (hB:Below w.heap.size w W)=>(hr.below hB).more hB.size)
 have HT:=Lib.hid hns;clear hns
 have hB0:=Below.refl w.heap.size w
 cases hv:inB (n:Int) 1 12
 ·have HV:=Lib.hid hv
  have HE:=Lib.hid (svB_len (ns:=ns) (fun h=>by
   have h':inB (n:Int) 1 12=true:=inB_iff.2 (by rw [HT.out] at h;omega)
   rw [hv] at h';cases h'))
  clear hr hv
  go_enter Tryz.func30,Tryz.ntmps30
  go_wp2_with fail
  refine (l6In_any _ _ _ _).mono ?_
  rintro e w1 ⟨rfl,rfl⟩
  rw [HV.out]
  go_wp2_with fail
  go_ret
  exact ⟨ret_bool HE.out.symm,hB0⟩
 have hN:1≤n∧n≤12:=by have:=inB_iff.1 hv;omega
 have HV:=Lib.hid hv;clear hv
 obtain ⟨b,off,rfl,hb,z1,z2,_⟩:=hr.node (show 0<n by omega)
 simp only [Nat.zero_mul,Nat.add_zero] at z1 z2
 clear hr
 have i0:0<n:=by omega
 by_cases h3:(gN ns 0).1=0
 ·have e3:((gN ns 0).1 != 0)=false:=by rw [h3];rfl
  have H3:=Lib.hid h3;clear h3
  obtain ⟨E0,hE0⟩:∃E0,(gN ns 0).1=E0:=⟨_,rfl⟩
  obtain ⟨J0,hJ0⟩:∃J0,(gN ns 0).2.1=J0:=⟨_,rfl⟩
  rw [hE0] at z1 e3
  rw [hJ0] at z2
  have HJ0:=Lib.hid hJ0
  clear hE0 hJ0
  go_enter Tryz.func30,Tryz.ntmps30
  go_wp2_with fail
  refine (l6In_any _ _ _ _).mono ?_
  rintro e w1 ⟨rfl,rfl⟩
  rw [HV.out]
  go_wp2_with fail
  clear e3 z1
  go_loopw [3] (fun i wr=>∃k:Nat,k≤n∧i=.int .i64 k∧Hid (∀j,j<k→okN ns j=true)∧Hid (Below w.heap.size w wr)) (fun i _=>n-(intOf i).toNat)
  case atStart=>exact ⟨0,Nat.zero_le _,rfl,fun j hj=>absurd hj (Nat.not_lt_zero _),hB0⟩
  case round =>
   clear hB0
   obtain ⟨k,hk,rfl,HOK,HB⟩:=hrel
   by_cases hlt:k<n
   ·obtain ⟨b',off',e',hb2,r1,r2,_⟩:=(HR.out wr HB.out).node hlt
    cases e'
    have HBAD:=Lib.hid (svB_bad (ns:=ns) (k:=k) (by rw [HT.out];exact hlt))
    have HGOOD:=Lib.hid (okN_iff (ns:=ns) (k:=k))
    rw [HJ0.out] at HBAD HGOOD
    obtain ⟨E,hE⟩:∃E,(gN ns k).1=E:=⟨_,rfl⟩
    obtain ⟨J,hJ⟩:∃J,(gN ns k).2.1=J:=⟨_,rfl⟩
    rw [hE] at HBAD HGOOD r1
    rw [hJ] at HBAD HGOOD r2
    clear hE hJ
    replace z2:=(HB.out.cell (p:=⟨b,off+1,none⟩) hb).trans z2
    have k0:=After.cell z2
    have k1:=After.cell r1
    have k2:=After.cell r2
    have i3:(0:Int)≤(k:Int):=by omega
    have i4:(k:Int)<(n:Int):=by omega
    have HL:=Lib.hid (fun W=>l6In_any E 0 200000 W)
    have HS:=Lib.hid (fun W=>specSpinValid_any J W)
    cases hv:inB E 0 200000
    ·rw [hv] at HL
     have HNV:=Lib.hid hv;clear hv
     go_wp2_with fail
     refine wp_region_after (by kernel_rfl) (by kernel_rfl) ?_
     repeat (go_big_quiet_step (first | (go_at_call 42;exact after_same _ (HL.out _)) | (go_at_call 44;exact after_same _ (HS.out _))))
     refine wpQuiet_nil ?_
     intro w9 hw'
     obtain ⟨⟨w9',hb9⟩,hw''⟩:=hw'
     subst hw''
     have HB9:=Lib.hid (HB.out.trans (hb9.mono HB.out.size))
     clear hb9
     go_wp2_with fail
     go_ret
     exact ⟨ret_bool (HBAD.out (fun h=>by have h1:=h.1;unfold ndB at h1;rw [HNV.out] at h1;cases h1)).symm,HB9.out⟩
    rw [hv] at HL
    have HE1:=Lib.hid hv;clear hv
    cases hv:inB J 0 24
    ·rw [hv] at HS
     have HNV:=Lib.hid hv;clear hv
     go_wp2_with fail
     refine wp_region_after (by kernel_rfl) (by kernel_rfl) ?_
     repeat (go_big_quiet_step (first | (go_at_call 42;exact after_same _ (HL.out _)) | (go_at_call 44;exact after_same _ (HS.out _))))
     refine wpQuiet_nil ?_
     intro w9 hw'
     obtain ⟨⟨w9',hb9⟩,hw''⟩:=hw'
     subst hw''
     have HB9:=Lib.hid (HB.out.trans (hb9.mono HB.out.size))
     clear hb9
     go_wp2_with fail
     go_ret
     exact ⟨ret_bool (HBAD.out (fun h=>by have h1:=h.1;unfold ndB at h1;rw [HE1.out,HNV.out] at h1;cases h1)).symm,HB9.out⟩
    rw [hv] at HS
    have hEJ:0≤E∧E≤200000:=inB_iff.1 HE1.out
    have hJJ:0≤J∧J≤24:=inB_iff.1 hv
    have HNV:Hid (ndB E J=true):=by unfold Hid ndB;rw [HE1.out,hv];rfl
    clear hv
    by_cases hp:J.tmod 2=J0.tmod 2
    ·have p1:(J % 2 != J0.tmod 2)=false:=by rw [←Int.tmod_eq_emod_of_nonneg hJJ.1];simpa using hp
     have HP:=Lib.hid hp;clear hp
     go_wp2_with fail
     refine wp_region_after (by kernel_rfl) (by kernel_rfl) ?_
     repeat (go_big_quiet_step (first | (go_at_call 42;exact after_same _ (HL.out _)) | (go_at_call 44;exact after_same _ (HS.out _))))
     refine wpQuiet_nil ?_
     intro w9 hw'
     obtain ⟨⟨w9',hb9⟩,hw''⟩:=hw'
     subst hw''
     have HB9:=Lib.hid (HB.out.trans (hb9.mono HB.out.size))
     by_cases h0:k=0
     ·have d0:decide (0<k)=false:=decide_eq_false (by omega)
      have HH:=Lib.hid (HGOOD.out.2 ⟨HNV.out,HP.out,.inl h0⟩)
      clear h0 k0 k1 k2 hb9
      go_wp2_with fail
      refine wp_region_after (by kernel_rfl) (by kernel_rfl) ?_
      repeat (go_big_quiet_step (fail))
      refine wpQuiet_nil ?_
      intro w8 hw'
      obtain ⟨⟨w8',hb8⟩,hw''⟩:=hw'
      subst hw''
      replace HB9:=Lib.hid (HB9.out.trans (hb8.mono HB9.out.size));clear hb8
      go_wp2_with fail
      go_roundw
      case rel =>
       refine ⟨k+1,by omega,by go_num,fun j hj=>?_,HB9⟩
       rcases Nat.lt_or_ge j k with h | h
       ·exact HOK.out j h
       ·obtain rfl:j=k:=by omega
        exact HH.out
      case measure=>simp [intOf];omega
     have d0:decide (0<k)=true:=decide_eq_true (by omega)
     obtain ⟨j,rfl⟩:∃j,k=j+1:=⟨k-1,by omega⟩
     obtain ⟨b',off',e',hb3,s1,_,_⟩:=(HR.out _ HB9.out).node (show j<n by omega)
     cases e'
     simp only [Nat.add_sub_cancel] at HBAD HGOOD
     generalize (gN ns j).1=EE at *
     have r1':=(hb9.cell (p:=⟨b,off+(j+1)*3,none⟩) (by have:=HB.out.size;omega)).trans r1
     clear k0 k1 k2 hb9
     have k4:=After.cell s1
     have k5:=After.cell r1'
     have u1:IntKind.i64.wrap ((j:Int)+1-1)=(j:Int):=(IntWalk.i64_in _ (by omega)).trans (by omega)
     have i5:(0:Int)≤(j:Int):=by omega
     have i6:(j:Int)<(n:Int):=by omega
     have i7:j<n:=by omega
     by_cases he:EE<E
     ·have d1:decide (E≤EE)=false:=decide_eq_false (by omega)
      have HH:=Lib.hid (HGOOD.out.2 ⟨HNV.out,HP.out,.inr he⟩)
      go_wp2_with fail
      refine wp_region_after (by kernel_rfl) (by kernel_rfl) ?_
      repeat (go_big_quiet_step (fail))
      refine wpQuiet_nil ?_
      intro w8 hw'
      obtain ⟨⟨w8',hb8⟩,hw''⟩:=hw'
      subst hw''
      replace HB9:=Lib.hid (HB9.out.trans (hb8.mono HB9.out.size));clear hb8
      go_wp2_with fail
      go_roundw
      case rel =>
       refine ⟨j+1+1,by omega,by go_num,fun i hi=>?_,HB9⟩
       rcases Nat.lt_or_ge i (j+1) with h | h
       ·exact HOK.out i h
       ·obtain rfl:i=j+1:=by omega
        exact HH.out
      case measure=>simp [intOf];omega
     ·have d1:decide (E≤EE)=true:=decide_eq_true (by omega)
      go_wp2_with fail
      refine wp_region_after (by kernel_rfl) (by kernel_rfl) ?_
      repeat (go_big_quiet_step (fail))
      refine wpQuiet_nil ?_
      intro w8 hw'
      obtain ⟨⟨w8',hb8⟩,hw''⟩:=hw'
      subst hw''
      replace HB9:=Lib.hid (HB9.out.trans (hb8.mono HB9.out.size));clear hb8
      go_wp2_with fail
      go_ret
      exact ⟨ret_bool (HBAD.out (fun h=>by have:=h.2.2;omega)).symm,HB9.out⟩
    ·have p1:(J % 2 != J0.tmod 2)=true:=by rw [←Int.tmod_eq_emod_of_nonneg hJJ.1];simpa using hp
     go_wp2_with fail
     refine wp_region_after (by kernel_rfl) (by kernel_rfl) ?_
     repeat (go_big_quiet_step (first | (go_at_call 42;exact after_same _ (HL.out _)) | (go_at_call 44;exact after_same _ (HS.out _))))
     refine wpQuiet_nil ?_
     intro w9 hw'
     obtain ⟨⟨w9',hb9⟩,hw''⟩:=hw'
     subst hw''
     have HB9:=Lib.hid (HB.out.trans (hb9.mono HB.out.size))
     clear hb9
     go_wp2_with fail
     go_ret
     exact ⟨ret_bool (HBAD.out (fun h=>hp h.2.1)).symm,HB9.out⟩
   ·obtain rfl:k=n:=by omega
    go_wp2_with fail
    go_ret
    exact ⟨ret_bool (svB_iff.2 ⟨by rw [HT.out];omega,H3.out,fun j hj=>HOK.out j (by rw [HT.out] at hj;exact hj)⟩).symm,HB.out⟩
 ·have HE:=Lib.hid (svB_zero h3)
  have e3:((gN ns 0).1 != 0)=true:=by simpa using h3
  clear h3
  generalize (gN ns 0).1=E0 at *
  go_enter Tryz.func30,Tryz.ntmps30
  go_wp2_with fail
  refine (l6In_any _ _ _ _).mono ?_
  rintro e w1 ⟨rfl,rfl⟩
  rw [HV.out]
  go_wp2_with fail
  go_ret
  exact ⟨ret_bool HE.out.symm,hB0⟩
end
end Go.Proofs.YtammfhheibaeaaaGreatDoor
