/- Parts of the proof of : Sc1. -/
import Derived.Test.YtammfhheibaeaaaGreatDoorQ06
import Derived.Test.YtammfhheibaeaaaGreatDoorQ07
set_option maxHeartbeats 20000000
set_option maxRecDepth 1000000
set_option linter.unusedSimpArgs false
set_option linter.unusedVariables false
namespace Go.Proofs.YtammfhheibaeaaaGreatDoor
section
open Go.RowKit
attribute [local go_sem ↓] Go.wp_at_zero Go.wp_at_succ
abbrev T3:=Int × Int × Bool
def ncells (ns:List T3):List Value:=ns.flatMap fun t=>[.int .i64 t.1,.int .i64 t.2.1,.bool t.2.2]
def gN (ns:List T3) (k:Nat):T3:=ns[k]?.getD (0,0,false)
theorem ncells_len (ns:List T3):(ncells ns).length=ns.length*3:=by
 unfold ncells;induction ns with
 | nil=>rfl
 | cons t ts ih=>simp only [List.flatMap_cons,List.length_append,ih,List.length_cons,List.length_nil];omega
theorem ncells_at (ns:List T3) (i:Nat) (h:i<ns.length):(ncells ns)[i*3]?=some (.int .i64 (gN ns i).1)∧(ncells ns)[i*3+1]?=some (.int .i64 (gN ns i).2.1)∧(ncells ns)[i*3+2]?=some (.bool (gN ns i).2.2):=by
 induction ns generalizing i with
 | nil=>simp at h
 | cons t ts ih =>
  cases i with
  | zero=>exact ⟨rfl,rfl,rfl⟩
  | succ i =>
   have:=ih i (by simpa using h)
   rw [show (i+1)*3=i*3+3 by omega]
   exact this
theorem ncells_snoc (ns:List T3) (t:T3):ncells (ns++[t])=ncells ns++[.int .i64 t.1,.int .i64 t.2.1,.bool t.2.2]:=by simp [ncells]
theorem Reads.node {w:World} {B:Nat} {A:Option Addr} {n:Nat} {ns:List T3} (h:Reads w B 3 A n (ncells ns)) {k:Nat} (hk:k<n) :
 ∃b off,A=some ⟨b,off,none⟩∧b<B∧w.cell? ⟨b,off+k*3,none⟩=some (.int .i64 (gN ns k).1)∧w.cell? ⟨b,off+k*3+1,none⟩=some (.int .i64 (gN ns k).2.1)∧w.cell? ⟨b,off+k*3+2,none⟩=some (.bool (gN ns k).2.2):=by
 obtain ⟨b,off,e,hb,hc⟩:=h.2 (by omega)
 have hl:=h.1;rw [ncells_len] at hl
 obtain ⟨c1,c2,c3⟩:=ncells_at ns k (by omega)
 exact ⟨b,off,e,hb,hc _ _ c1,by have:=hc _ _ c2;rwa [←Nat.add_assoc] at this,by have:=hc _ _ c3;rwa [←Nat.add_assoc] at this⟩
def okN (ns:List T3) (k:Nat):Bool:=ndB (gN ns k).1 (gN ns k).2.1 && decide ((gN ns k).2.1.tmod 2=(gN ns 0).2.1.tmod 2) && (decide (k=0) || decide ((gN ns (k-1)).1<(gN ns k).1))
def svB (ns:List T3):Bool:=inB ns.length 1 12 && decide ((gN ns 0).1=0) && (List.range ns.length).all (okN ns)
theorem okN_iff {ns:List T3} {k:Nat}:okN ns k=true↔ndB (gN ns k).1 (gN ns k).2.1=true∧(gN ns k).2.1.tmod 2=(gN ns 0).2.1.tmod 2∧(k=0∨(gN ns (k-1)).1<(gN ns k).1):=by
 simp [okN,and_assoc]
theorem svB_iff {ns:List T3}:svB ns=true↔(1≤ns.length∧ns.length≤12)∧(gN ns 0).1=0∧∀k,k<ns.length→okN ns k=true:=by
 unfold svB
 rw [Bool.and_eq_true,Bool.and_eq_true,inB_iff,decide_eq_true_eq,List.all_eq_true,and_assoc]
 constructor
 ·rintro ⟨h1,h2,h3⟩
  exact ⟨by omega,h2,fun k hk=>h3 k (List.mem_range.2 hk)⟩
 ·rintro ⟨h1,h2,h3⟩
  exact ⟨by omega,h2,fun k hk=>h3 k (List.mem_range.1 hk)⟩
theorem svB_len {ns:List T3} (h:¬(1≤ns.length∧ns.length≤12)):svB ns=false:=by
 rw [←Bool.not_eq_true,svB_iff];exact fun h'=>h h'.1
theorem svB_zero {ns:List T3} (h:¬(gN ns 0).1=0):svB ns=false:=by
 rw [←Bool.not_eq_true,svB_iff];exact fun h'=>h h'.2.1
theorem svB_bad {ns:List T3} {k:Nat} (hk:k<ns.length) (h:¬(ndB (gN ns k).1 (gN ns k).2.1=true∧(gN ns k).2.1.tmod 2=(gN ns 0).2.1.tmod 2∧(k=0∨(gN ns (k-1)).1<(gN ns k).1))):svB ns=false:=by
 rw [←Bool.not_eq_true,svB_iff];exact fun h'=>h (okN_iff.1 (h'.2.2 k hk))
theorem implSchemeValid_any (A:Option Addr) (n c:Nat) (ns:List T3) (w:World) (hn:n≤1048576) (hns:ns.length=n) (hr:Reads w w.heap.size 3 A n (ncells ns)) :
 Calls Tryz.prog 12 #[.slice A n c] w fun e w'=>e=.returned (.bool (svB ns))∧Below w.heap.size w w':=by
 have HR:=Lib.hid (fun W (hB:Below w.heap.size w W)=>(hr.below hB).more hB.size)
 have HT:=Lib.hid hns;clear hns
 have hB0:=Below.refl w.heap.size w
 by_cases h1:n<1
 ·have HE:=Lib.hid (svB_len (ns:=ns) (by rw [HT.out];omega))
  clear hr
  go_enter Tryz.func12,Tryz.ntmps12
  go_wp2_with fail
  go_ret
  exact ⟨ret_bool HE.out.symm,hB0⟩
 by_cases h2:12<n
 ·have HE:=Lib.hid (svB_len (ns:=ns) (by rw [HT.out];omega))
  clear hr
  go_enter Tryz.func12,Tryz.ntmps12
  go_wp2_with fail
  go_ret
  exact ⟨ret_bool HE.out.symm,hB0⟩
 obtain ⟨b,off,rfl,hb,z1,z2,_⟩:=hr.node (show 0<n by omega)
 simp only [Nat.zero_mul,Nat.add_zero] at z1 z2
 clear hr
 have i0:0<n:=by omega
 by_cases h3:(gN ns 0).1=0
 ·have HG0:=Lib.hid (show gN ns 0=gN ns 0 from rfl)
  have e3:((gN ns 0).1 != 0)=false:=by rw [h3];rfl
  have H3:=Lib.hid h3;clear h3
  obtain ⟨E0,hE0⟩:∃E0,(gN ns 0).1=E0:=⟨_,rfl⟩
  obtain ⟨J0,hJ0⟩:∃J0,(gN ns 0).2.1=J0:=⟨_,rfl⟩
  rw [hE0] at z1 e3
  rw [hJ0] at z2
  have HJ0:=Lib.hid hJ0
  clear hE0 hJ0 HG0
  go_enter Tryz.func12,Tryz.ntmps12
  go_wp2_with fail
  clear e3
  go_loopw [22] (fun i wr=>∃k:Nat,k≤n∧i=.int .i64 k∧Hid (∀j,j<k→okN ns j=true)∧Hid (Below w.heap.size w wr)) (fun i _=>n-(intOf i).toNat)
  case atStart=>exact ⟨0,Nat.zero_le _,rfl,fun j hj=>absurd hj (Nat.not_lt_zero _),hB0⟩
  case round =>
   clear hB0
   obtain ⟨k,hk,rfl,HOK,HB⟩:=hrel
   by_cases hlt:k<n
   ·obtain ⟨b',off',e',hb2,r1,r2,r3⟩:=(HR.out wr HB.out).node hlt
    cases e'
    have HBAD:=Lib.hid (svB_bad (ns:=ns) (k:=k) (by rw [HT.out];exact hlt))
    have HGOOD:=Lib.hid (okN_iff (ns:=ns) (k:=k))
    rw [HJ0.out] at HBAD HGOOD
    have HV:=Lib.hid (fun W=>nodeValid_any (gN ns k).1 (gN ns k).2.1 (gN ns k).2.2 W)
    obtain ⟨E,hE⟩:∃E,(gN ns k).1=E:=⟨_,rfl⟩
    obtain ⟨J,hJ⟩:∃J,(gN ns k).2.1=J:=⟨_,rfl⟩
    obtain ⟨O,hO⟩:∃O,(gN ns k).2.2=O:=⟨_,rfl⟩
    rw [hE] at HBAD HGOOD HV r1
    rw [hJ] at HBAD HGOOD HV r2
    rw [hO] at HV r3
    clear hE hJ hO
    replace z1:=(HB.out.cell (p:=⟨b,off,none⟩) hb).trans z1
    replace z2:=(HB.out.cell (p:=⟨b,off+1,none⟩) hb).trans z2
    have HB1:=Lib.hid (HB.out.alloc HB.out.size (.cells #[.int .i64 E,.int .i64 J,.bool O] 34))
    have z2':=cell_past (.cells #[.int .i64 E,.int .i64 J,.bool O] 34) z2
    have k0:=After.cell z2'
    obtain ⟨y1,y2,y3,_,_,_⟩:=blk3 (Blk.new wr 34 #[.int .i64 E,.int .i64 J,.bool O])
    have k1:=After.cell y1
    have k2:=After.cell y2
    have k3:=After.cell y3
    have i3:(0:Int)≤(k:Int):=by omega
    have i4:(k:Int)<(n:Int):=by omega
    cases hv:ndB E J
    ·rw [hv] at HV
     have HNV:=Lib.hid hv;clear hv
     go_wp2_with fail
     refine wp_region_after (by kernel_rfl) (by kernel_rfl) ?_
     repeat (go_big_quiet_step ((go_at_call 23;exact after_call _ (HV.out _))))
     refine wpQuiet_nil ?_
     intro w9 hw'
     obtain ⟨⟨w9',hb9⟩,hw''⟩:=hw'
     subst hw''
     have HB9:=Lib.hid (HB1.out.trans (hb9.mono HB1.out.size));clear hb9
     go_wp2_with fail
     go_ret
     exact ⟨ret_bool (HBAD.out (fun h=>by rw [HNV.out] at h;cases h.1)).symm,HB9.out⟩
    rw [hv] at HV
    have HNV:=Lib.hid hv
    have hEJ:(0≤E∧E≤200000)∧(0≤J∧J≤24):=by unfold ndB at hv;rw [Bool.and_eq_true,inB_iff,inB_iff] at hv;exact hv
    clear hv
    by_cases hp:J.tmod 2=J0.tmod 2
    ·have p1:(J % 2 != J0.tmod 2)=false:=by rw [←Int.tmod_eq_emod_of_nonneg hEJ.2.1];simpa using hp
     have HP:=Lib.hid hp;clear hp
     by_cases h0:k=0
     ·have d0:decide (0<k)=false:=decide_eq_false (by omega)
      have HH:=Lib.hid (HGOOD.out.2 ⟨HNV.out,HP.out,.inl h0⟩)
      clear h0
      go_wp2_with fail
      refine wp_region_after (by kernel_rfl) (by kernel_rfl) ?_
      repeat (go_big_quiet_step ((go_at_call 23;exact after_call _ (HV.out _))))
      refine wpQuiet_nil ?_
      intro w9 hw'
      obtain ⟨⟨w9',hb9⟩,hw''⟩:=hw'
      subst hw''
      have HB9:=Lib.hid (HB1.out.trans (hb9.mono HB1.out.size));clear hb9 p1 d0
      go_wp2_with fail
      go_roundw
      case rel =>
       refine ⟨k+1,by omega,by go_num,fun j hj=>?_,HB9⟩
       rcases Nat.lt_or_ge j k with h | h
       ·exact HOK.out j h
       ·obtain rfl:j=k:=by omega
        exact HH.out
      case measure=>simp [intOf];omega
     have d0:decide (0<k)=true:=decide_eq_true (by omega)
     obtain ⟨j,rfl⟩:∃j,k=j+1:=⟨k-1,by omega⟩
     obtain ⟨b',off',e',hb3,s1,s2,s3⟩:=(HR.out wr HB.out).node (show j<n by omega)
     cases e'
     simp only [Nat.add_sub_cancel] at HBAD HGOOD
     generalize (gN ns j).1=EE at *
     have s1':=cell_past (.cells #[.int .i64 E,.int .i64 J,.bool O] 34) s1
     have k4:=After.cell s1'
     have u1:IntKind.i64.wrap ((j:Int)+1-1)=(j:Int):=(IntWalk.i64_in _ (by omega)).trans (by omega)
     have i5:(0:Int)≤(j:Int):=by omega
     have i6:(j:Int)<(n:Int):=by omega
     have i7:j<n:=by omega
     clear s2 s3
     by_cases he:EE<E
     ·have d1:decide (E≤EE)=false:=decide_eq_false (by omega)
      have HH:=Lib.hid (HGOOD.out.2 ⟨HNV.out,HP.out,.inr he⟩)
      go_wp2_with fail
      refine wp_region_after (by kernel_rfl) (by kernel_rfl) ?_
      repeat (go_big_quiet_step ((go_at_call 23;exact after_call _ (HV.out _))))
      refine wpQuiet_nil ?_
      intro w9 hw'
      obtain ⟨⟨w9',hb9⟩,hw''⟩:=hw'
      subst hw''
      have HB9:=Lib.hid (HB1.out.trans (hb9.mono HB1.out.size));clear hb9 p1 d0 d1 u1
      go_wp2_with fail
      go_roundw
      case rel =>
       refine ⟨j+1+1,by omega,by go_num,fun i hi=>?_,HB9⟩
       rcases Nat.lt_or_ge i (j+1) with h | h
       ·exact HOK.out i h
       ·obtain rfl:i=j+1:=by omega
        exact HH.out
      case measure=>simp [intOf];omega
     ·have d1:decide (E≤EE)=true:=decide_eq_true (by omega)
      go_wp2_with fail
      refine wp_region_after (by kernel_rfl) (by kernel_rfl) ?_
      repeat (go_big_quiet_step ((go_at_call 23;exact after_call _ (HV.out _))))
      refine wpQuiet_nil ?_
      intro w9 hw'
      obtain ⟨⟨w9',hb9⟩,hw''⟩:=hw'
      subst hw''
      have HB9:=Lib.hid (HB1.out.trans (hb9.mono HB1.out.size));clear hb9 p1 d0 d1 u1
      go_wp2_with fail
      go_ret
      exact ⟨ret_bool (HBAD.out (fun h=>by have:=h.2.2;omega)).symm,HB9.out⟩
    ·have p1:(J % 2 != J0.tmod 2)=true:=by rw [←Int.tmod_eq_emod_of_nonneg hEJ.2.1];simpa using hp
     go_wp2_with fail
     refine wp_region_after (by kernel_rfl) (by kernel_rfl) ?_
     repeat (go_big_quiet_step ((go_at_call 23;exact after_call _ (HV.out _))))
     refine wpQuiet_nil ?_
     intro w9 hw'
     obtain ⟨⟨w9',hb9⟩,hw''⟩:=hw'
     subst hw''
     have HB9:=Lib.hid (HB1.out.trans (hb9.mono HB1.out.size));clear hb9 p1
     go_wp2_with fail
     go_ret
     exact ⟨ret_bool (HBAD.out (fun h=>hp h.2.1)).symm,HB9.out⟩
   ·obtain rfl:k=n:=by omega
    go_wp2_with fail
    go_ret
    exact ⟨ret_bool (svB_iff.2 ⟨by rw [HT.out];omega,H3.out,fun j hj=>HOK.out j (by rw [HT.out] at hj;exact hj)⟩).symm,HB.out⟩
 ·have HE:=Lib.hid (svB_zero h3)
  have e3:((gN ns 0).1 != 0)=true:=by simpa using h3
  clear h3
  generalize (gN ns 0).1=E0 at *
  go_enter Tryz.func12,Tryz.ntmps12
  go_wp2_with fail
  go_ret
  exact ⟨ret_bool HE.out.symm,hB0⟩
end
end Go.Proofs.YtammfhheibaeaaaGreatDoor
