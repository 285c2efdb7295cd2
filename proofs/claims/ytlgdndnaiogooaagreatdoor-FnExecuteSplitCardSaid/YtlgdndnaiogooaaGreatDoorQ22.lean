/- Parts of the proof of : Rat2. -/
import Derived.Test.YtlgdndnaiogooaaGreatDoorQ21
set_option maxHeartbeats 20000000
set_option maxRecDepth 1000000
set_option linter.unusedSimpArgs false
set_option linter.unusedVariables false
namespace Go.Proofs.YtlgdndnaiogooaaGreatDoor
section
open Go.RowKit
attribute [local go_sem ↓] Go.wp_at_zero Go.wp_at_succ
def rvB (a:T2):Bool:=(inB a.2 1 1000000000 && inB a.1 (-1000000000) 1000000000) && decide (Nat.gcd a.1.natAbs a.2.natAbs=1)
theorem beq_one (g:Nat):((g:Int)==1)=(g==1):=by
 by_cases h:g=1
 ·subst h;rfl
 ·rw [show ((g:Int)==1)=false by simp;omega,show (g==1)=false by simpa using h]
def ratV (a:T2):Value:=.agg #[.int .i64 a.1,.int .i64 a.2]
theorem implRatValid_any (a b:Int) (w:World) :
 Calls Tryz.prog 63 #[.agg #[.int .i64 a,.int .i64 b]] w fun e w'=>e=.returned (.bool (rvB (a,b)))∧Below w.heap.size w w':=by
 have HB1:=Lib.hid ((Below.refl w.heap.size w).alloc (Nat.le_refl _) (.cells #[.int .i64 a,.int .i64 b] 45))
 obtain ⟨r,hr⟩:∃r,rvB (a,b)=r:=⟨_,rfl⟩
 rw [hr]
 have HR:=Lib.hid hr;clear hr
 by_cases c1:1≤b
 ·by_cases c2:b≤1000000000
  ·by_cases c3:-1000000000≤a
   ·by_cases c4:a≤1000000000
    ·have HD:=Lib.hid (fun W=>divisor_any a b W (by omega) (by omega))
     have he:r=((Nat.gcd a.natAbs b.natAbs:Nat)==(1:Nat)):=by
      rw [←HR.out]
      simp only [rvB,inB,decide_eq_true c1,decide_eq_true c2,decide_eq_true c3,decide_eq_true c4,Bool.true_and]
      by_cases h:Nat.gcd a.natAbs b.natAbs=1 <;> simp [h]
     have HE:=Lib.hid he;clear he HR
     generalize Nat.gcd a.natAbs b.natAbs=g at *
     go_enter Tryz.func63,Tryz.ntmps63
     go_wp2_with fail
     refine (HD.out _).mono ?_
     rintro e w1 ⟨rfl,q,rfl⟩
     go_wp2_with fail
     go_ret
     exact ⟨ret_bool (by rw [HE.out];exact beq_one g),below_drewN HB1.out q⟩
    ·have he:r=false:=by rw [←HR.out];simp [rvB,inB,c4]
     have HE:=Lib.hid he;clear he HR
     have d4:decide (a≤1000000000)=false:=by simpa using c4
     go_enter Tryz.func63,Tryz.ntmps63
     go_wp2_with fail
     go_ret
     exact ⟨ret_bool HE.out.symm,HB1.out⟩
   ·have he:r=false:=by rw [←HR.out];simp [rvB,inB,c3]
    have HE:=Lib.hid he;clear he HR
    have d4:decide (-1000000000≤a)=false:=by simpa using c3
    go_enter Tryz.func63,Tryz.ntmps63
    go_wp2_with fail
    go_ret
    exact ⟨ret_bool HE.out.symm,HB1.out⟩
  ·have he:r=false:=by rw [←HR.out];simp [rvB,inB,c2]
   have HE:=Lib.hid he;clear he HR
   have d4:decide (b≤1000000000)=false:=by simpa using c2
   go_enter Tryz.func63,Tryz.ntmps63
   go_wp2_with fail
   go_ret
   exact ⟨ret_bool HE.out.symm,HB1.out⟩
 ·have he:r=false:=by rw [←HR.out];simp [rvB,inB,c1]
  have HE:=Lib.hid he;clear he HR
  have d4:decide (1≤b)=false:=by simpa using c1
  go_enter Tryz.func63,Tryz.ntmps63
  go_wp2_with fail
  go_ret
  exact ⟨ret_bool HE.out.symm,HB1.out⟩
theorem specRatValid_any (a b:Int) (w:World) :
 Calls Tryz.prog 140 #[.agg #[.int .i64 a,.int .i64 b]] w fun e w'=>e=.returned (.bool (rvB (a,b)))∧Below w.heap.size w w':=by
 have HB1:=Lib.hid ((Below.refl w.heap.size w).alloc (Nat.le_refl _) (.cells #[.int .i64 a,.int .i64 b] 45))
 obtain ⟨r,hr⟩:∃r,rvB (a,b)=r:=⟨_,rfl⟩
 rw [hr]
 have HR:=Lib.hid hr;clear hr
 cases c1:inB b 1 1000000000
 ·have he:r=false:=by rw [←HR.out];simp [rvB,c1]
  have HE:=Lib.hid he;have HC:=Lib.hid c1;clear he HR c1
  go_enter Tryz.func140,Tryz.ntmps140
  go_wp2_with fail
  refine (l6In_any _ _ _ _).mono ?_
  rintro e w1 ⟨rfl,rfl⟩
  rw [HC.out]
  go_wp2_with fail
  go_ret
  exact ⟨ret_bool HE.out.symm,HB1.out⟩
 have b1:=inB_iff.1 c1
 have HC:=Lib.hid c1
 cases c2:inB a (-1000000000) 1000000000
 ·have he:r=false:=by rw [←HR.out];simp [rvB,c2]
  have HE:=Lib.hid he;have HC2:=Lib.hid c2;clear he HR c1 c2
  go_enter Tryz.func140,Tryz.ntmps140
  go_wp2_with fail
  refine (l6In_any _ _ _ _).mono ?_
  rintro e w1 ⟨rfl,rfl⟩
  rw [HC.out]
  go_wp2_with fail
  refine (l6In_any _ _ _ _).mono ?_
  rintro e w1 ⟨rfl,rfl⟩
  rw [HC2.out]
  go_wp2_with fail
  go_ret
  exact ⟨ret_bool HE.out.symm,HB1.out⟩
 have b2:=inB_iff.1 c2
 have HC2:=Lib.hid c2
 have he:r=((Nat.gcd a.natAbs b.natAbs:Nat)==(1:Nat)):=by
  rw [←HR.out]
  simp only [rvB,c1,c2,Bool.true_and]
  by_cases h:Nat.gcd a.natAbs b.natAbs=1 <;> simp [h]
 have HE:=Lib.hid he;clear he HR c1 c2
 have hbb:b=(b.natAbs:Int):=by omega
 have HG:=Lib.hid (fun W=>specGcd_any a.natAbs b.natAbs W (by omega) (by omega))
 rw [←hbb] at HG
 clear hbb
 have HA:=Lib.hid (fun W=>specAbs_any a W (by omega) (by omega))
 generalize Nat.gcd a.natAbs b.natAbs=g at *
 generalize a.natAbs=a' at *
 go_enter Tryz.func140,Tryz.ntmps140
 go_wp2_with fail
 refine (l6In_any _ _ _ _).mono ?_
 rintro e w1 ⟨rfl,rfl⟩
 rw [HC.out]
 go_wp2_with fail
 refine (l6In_any _ _ _ _).mono ?_
 rintro e w1 ⟨rfl,rfl⟩
 rw [HC2.out]
 go_wp2_with fail
 go_quiet (first | (go_at_call 85;exact Calls.quiet_of_same (HA.out _)) | (go_at_call 139;exact Calls.quiet_of_same (HG.out _)))
 go_wp2_with fail
 go_ret
 exact ⟨ret_bool (by rw [HE.out];exact beq_one g),below_drewN HB1.out _⟩
def sg (num den:Int):Int:=if den<0 then -((Nat.gcd num.natAbs den.natAbs:Nat):Int) else ((Nat.gcd num.natAbs den.natAbs:Nat):Int)
def mk0 (num den:Int):T2:=(num.tdiv (sg num den),den.tdiv (sg num den))
def mkB (num den:Int):T2 × Bool:=if rvB (mk0 num den) then (mk0 num den,true) else ((0,0),false)
def ratOf (num den:Int):T2 × Bool:=if den=0∨inB num (-4000000000000000000) 4000000000000000000=false∨inB den (-4000000000000000000) 4000000000000000000=false then ((0,0),false) else mkB num den
def okV (r:T2 × Bool):Value:=.tuple #[ratV r.1,.bool r.2]
theorem tdiv_small {x g b:Int} (h:-b≤x∧x≤b):-b≤x.tdiv g∧x.tdiv g≤b:=by
 have h1:(x.tdiv g).natAbs=x.natAbs / g.natAbs:=Int.natAbs_tdiv x g
 have h2:=Nat.div_le_self x.natAbs g.natAbs
 omega
theorem results_rat_tmp {P:Program} {fn:Func} {p t1:Tmp} {ty:TypeId} {a b:Value} (h:fn.results=#[.cell p ty,.tmp t1]) (tmps:Array Value) (w:World) (g:Nat) (t:TypeId) (d:TypeDesc)
 (hp:tmps.getD p undef=.pointer (some ⟨g,0,none⟩)) (hg:Blk w g t #[a,b])
 (hu:P.underlying ty=some d) (hd:(match d with | .struct _ | .array _ _=>true | _=>false)=true) (hi:(P.info? ty).map (·.size)=some 2) :
 (results fn tmps).run P w=.ok (.tuple #[.agg #[a,b],tmps.getD t1 undef]) w:=by
 have hp':tmps[p]?.getD undef=.pointer (some ⟨g,0,none⟩):=by simpa using hp
 simp [results,h,hp',asAddr,run_loadVar_row w g t ty #[a,b] (0,0) d hg hu hd hi]
theorem implRatOf_any (num den:Int) (w:World) :
 Calls Tryz.prog 104 #[.int .i64 num,.int .i64 den] w fun e w'=>e=.returned (okV (ratOf num den))∧Below w.heap.size w w':=by
 obtain ⟨r,hr⟩:∃r,ratOf num den=r:=⟨_,rfl⟩
 rw [hr]
 have HR:=Lib.hid hr;clear hr
 have HD:=Lib.hid (Blk.new w 45 #[.int .i64 0,.int .i64 0])
 have HB1:=Lib.hid ((Below.refl w.heap.size w).alloc (Nat.le_refl _) (.cells #[.int .i64 0,.int .i64 0] 45))
 have hbad:(den=0∨num < -4000000000000000000∨4000000000000000000<num∨den < -4000000000000000000∨4000000000000000000<den)∨(den≠0∧-4000000000000000000≤num∧num≤4000000000000000000∧-4000000000000000000≤den∧den≤4000000000000000000):=by omega
 rcases hbad with hbad | ⟨n0,n1,n2,n3,n4⟩
 ·have he:r=((0,0),false):=by
   rw [←HR.out]
   unfold ratOf
   rw [if_pos]
   rcases hbad with h | h | h | h | h
   ·exact .inl h
   ·exact .inr (.inl (inB_not.2 (.inl h)))
   ·exact .inr (.inl (inB_not.2 (.inr h)))
   ·exact .inr (.inr (inB_not.2 (.inl h)))
   ·exact .inr (.inr (inB_not.2 (.inr h)))
  have HE:=Lib.hid he;clear he HR
  have HZ:=Lib.hid ((HD.out.set 0 (.int .i64 0)).set 1 (.int .i64 0))
  have HB2:=Lib.hid ((HB1.out.setCell (p:=⟨w.heap.size,0,none⟩) (Nat.le_refl _) (.int .i64 0)).setCell (p:=⟨w.heap.size,1,none⟩) (Nat.le_refl _) (.int .i64 0))
  rcases hbad with h | h | h | h | h
  all_goals
   go_enter Tryz.func104,Tryz.ntmps104
   go_wp2_with fail
   all_goals
    refine bodyPost_ret (v:=okV r) (by rw [HE.out];simp [results,Tryz.results104,go_sem];rfl) rfl ?_
    refine ⟨rfl,?_⟩
    repeat (first | exact Below.refl _ _ | refine Below.alloc ?_ (by simp;try omega) _ | refine Below.setCell ?_ (by simp;try omega) _)
 ·have hgp:0<Nat.gcd num.natAbs den.natAbs:=Nat.gcd_pos_of_pos_right _ (by omega)
  have hgl:Nat.gcd num.natAbs den.natAbs≤den.natAbs:=Nat.le_of_dvd (by omega) (Nat.gcd_dvd_right _ _)
  have HDV:=Lib.hid (fun W=>divisor_any num den W (by omega) (by omega))
  have he:r=mkB num den:=by
   rw [←HR.out]
   unfold ratOf
   rw [if_neg]
   rintro (h | h | h)
   ·exact n0 h
   ·rw [inB_iff.2 ⟨n1,n2⟩] at h;cases h
   ·rw [inB_iff.2 ⟨n3,n4⟩] at h;cases h
  have HE:=Lib.hid he;clear he HR
  have hgb:((Nat.gcd num.natAbs den.natAbs:Nat):Int)≤4000000000000000000:=by omega
  generalize hgg:Nat.gcd num.natAbs den.natAbs=g at *
  have dz:(den==0)=false:=by simpa using n0
  by_cases hd:den<0
  ·have hs:sg num den=-(g:Int):=by unfold sg;rw [if_pos hd,hgg]
   have q1b:=tdiv_small (x:=num) (g:=(g:Int)) (b:=4000000000000000000) (by omega)
   have q2b:=tdiv_small (x:=den) (g:=(g:Int)) (b:=4000000000000000000) (by omega)
   have hmk:mk0 num den=(-num.tdiv (g:Int),-den.tdiv (g:Int)):=by unfold mk0;rw [hs,Int.tdiv_neg,Int.tdiv_neg]
   have u7:¬((g:Int)=0):=by omega
   have u1:IntKind.i64.wrap (-num.tdiv (g:Int))=-num.tdiv (g:Int):=IntWalk.i64_in _ (by omega)
   have u2:IntKind.i64.wrap (-den.tdiv (g:Int))=-den.tdiv (g:Int):=IntWalk.i64_in _ (by omega)
   have HMK:=Lib.hid hmk
   clear hs hmk
   go_enter Tryz.func104,Tryz.ntmps104
   go_wp2_with fail
   refine (HDV.out _).mono ?_
   rintro e w1 ⟨rfl,nq,rfl⟩
   go_wp2_with fail
   have HW:Hid (Blk ((w.alloc (.cells #[.int .i64 0,.int .i64 0] 45)).drewN nq) w.heap.size 45 #[.int .i64 0,.int .i64 0]):=HD.out.drewN nq
   have HBW:Hid (Below w.heap.size w ((w.alloc (.cells #[.int .i64 0,.int .i64 0] 45)).drewN nq)):=below_drewN HB1.out nq
   have hsz:((w.alloc (.cells #[.int .i64 0,.int .i64 0] 45)).drewN nq).heap.size=w.heap.size+1:=by simp
   generalize (w.alloc (.cells #[.int .i64 0,.int .i64 0] 45)).drewN nq=W at *
   go_region
   clear u1 u2
   generalize -num.tdiv (g:Int)=q1 at *
   generalize -den.tdiv (g:Int)=q2 at *
   have HX:Hid (Blk (W.alloc (.cells #[.int .i64 q1,.int .i64 q2] 45)).drew (w.heap.size+1) 45 #[.int .i64 q1,.int .i64 q2]):=by
    have:=Blk.new W 45 #[.int .i64 q1,.int .i64 q2]
    rw [hsz] at this;exact this
   have HW2:Hid (Blk (W.alloc (.cells #[.int .i64 q1,.int .i64 q2] 45)).drew w.heap.size 45 #[.int .i64 0,.int .i64 0]):=HW.out.alloc _
   have HBW2:=Lib.hid ((HBW.out.alloc HBW.out.size (.cells #[.int .i64 q1,.int .i64 q2] 45)).drew)
   generalize (W.alloc (.cells #[.int .i64 q1,.int .i64 q2] 45)).drew=W2 at *
   obtain ⟨x1,x2,_,_⟩:=blk2 HX.out
   have HE2:Hid (r=if rvB (q1,q2) then ((q1,q2),true) else ((0,0),false)):=by unfold Hid;rw [HE.out];unfold mkB;rw [HMK.out]
   clear HE HMK HW HBW hsz
   go_wp2_with fail
   refine (implRatValid_any q1 q2 _).mono ?_
   rintro e w3 ⟨rfl,hb3⟩
   have HX3:=Lib.hid (HX.out.sub hb3)
   have HW3:=Lib.hid (HW2.out.sub hb3)
   have HB3:=Lib.hid (HBW2.out.trans (hb3.mono HBW2.out.size))
   clear hb3 x1 x2 HX HW2 HBW2
   obtain ⟨x1,x2,_,_⟩:=blk2 HX3.out
   obtain ⟨y1,y2,y3,y4⟩:=blk2 HW3.out
   cases hv:rvB (q1,q2)
   ·rw [hv] at HE2
    have HZ:=Lib.hid ((HW3.out.set 0 (.int .i64 0)).set 1 (.int .i64 0))
    have HB4:=Lib.hid ((HB3.out.setCell (p:=⟨w.heap.size,0,none⟩) (Nat.le_refl _) (.int .i64 0)).setCell (p:=⟨w.heap.size,1,none⟩) (Nat.le_refl _) (.int .i64 0))
    clear hv
    go_wp2_with fail
    refine bodyPost_ret (results_rat_tmp rfl _ _ w.heap.size _ _ rfl HZ.out Tryz.underlying45 rfl (by kernel_rfl)) rfl ?_
    exact ⟨by rw [HE2.out];rfl,HB4.out⟩
   ·rw [hv] at HE2
    have HZ:=Lib.hid ((HW3.out.set 0 (.int .i64 q1)).set 1 (.int .i64 q2))
    have HB4:=Lib.hid ((HB3.out.setCell (p:=⟨w.heap.size,0,none⟩) (Nat.le_refl _) (.int .i64 q1)).setCell (p:=⟨w.heap.size,1,none⟩) (Nat.le_refl _) (.int .i64 q2))
    clear hv
    go_wp2_with fail
    refine bodyPost_ret (results_rat_tmp rfl _ _ w.heap.size _ _ rfl HZ.out Tryz.underlying45 rfl (by kernel_rfl)) rfl ?_
    exact ⟨by rw [HE2.out];rfl,HB4.out⟩
  ·have hs:sg num den=(g:Int):=by unfold sg;rw [if_neg hd,hgg]
   have q1b:=tdiv_small (x:=num) (g:=(g:Int)) (b:=4000000000000000000) (by omega)
   have q2b:=tdiv_small (x:=den) (g:=(g:Int)) (b:=4000000000000000000) (by omega)
   have hmk:mk0 num den=(num.tdiv ((g:Int)),den.tdiv ((g:Int))):=by unfold mk0;rw [hs]
   have u7:¬((g:Int)=0):=by omega
   have u1:IntKind.i64.wrap (num.tdiv ((g:Int)))=num.tdiv ((g:Int)):=IntWalk.i64_in _ (by omega)
   have u2:IntKind.i64.wrap (den.tdiv ((g:Int)))=den.tdiv ((g:Int)):=IntWalk.i64_in _ (by omega)
   have HMK:=Lib.hid hmk
   clear hs hmk
   go_enter Tryz.func104,Tryz.ntmps104
   go_wp2_with fail
   refine (HDV.out _).mono ?_
   rintro e w1 ⟨rfl,nq,rfl⟩
   go_wp2_with fail
   have HW:Hid (Blk ((w.alloc (.cells #[.int .i64 0,.int .i64 0] 45)).drewN nq) w.heap.size 45 #[.int .i64 0,.int .i64 0]):=HD.out.drewN nq
   have HBW:Hid (Below w.heap.size w ((w.alloc (.cells #[.int .i64 0,.int .i64 0] 45)).drewN nq)):=below_drewN HB1.out nq
   have hsz:((w.alloc (.cells #[.int .i64 0,.int .i64 0] 45)).drewN nq).heap.size=w.heap.size+1:=by simp
   generalize (w.alloc (.cells #[.int .i64 0,.int .i64 0] 45)).drewN nq=W at *
   go_region
   clear u1 u2
   generalize num.tdiv ((g:Int))=q1 at *
   generalize den.tdiv ((g:Int))=q2 at *
   have HX:Hid (Blk (W.alloc (.cells #[.int .i64 q1,.int .i64 q2] 45)).drew (w.heap.size+1) 45 #[.int .i64 q1,.int .i64 q2]):=by
    have:=Blk.new W 45 #[.int .i64 q1,.int .i64 q2]
    rw [hsz] at this;exact this
   have HW2:Hid (Blk (W.alloc (.cells #[.int .i64 q1,.int .i64 q2] 45)).drew w.heap.size 45 #[.int .i64 0,.int .i64 0]):=HW.out.alloc _
   have HBW2:=Lib.hid ((HBW.out.alloc HBW.out.size (.cells #[.int .i64 q1,.int .i64 q2] 45)).drew)
   generalize (W.alloc (.cells #[.int .i64 q1,.int .i64 q2] 45)).drew=W2 at *
   obtain ⟨x1,x2,_,_⟩:=blk2 HX.out
   have HE2:Hid (r=if rvB (q1,q2) then ((q1,q2),true) else ((0,0),false)):=by unfold Hid;rw [HE.out];unfold mkB;rw [HMK.out]
   clear HE HMK HW HBW hsz
   go_wp2_with fail
   refine (implRatValid_any q1 q2 _).mono ?_
   rintro e w3 ⟨rfl,hb3⟩
   have HX3:=Lib.hid (HX.out.sub hb3)
   have HW3:=Lib.hid (HW2.out.sub hb3)
   have HB3:=Lib.hid (HBW2.out.trans (hb3.mono HBW2.out.size))
   clear hb3 x1 x2 HX HW2 HBW2
   obtain ⟨x1,x2,_,_⟩:=blk2 HX3.out
   obtain ⟨y1,y2,y3,y4⟩:=blk2 HW3.out
   cases hv:rvB (q1,q2)
   ·rw [hv] at HE2
    have HZ:=Lib.hid ((HW3.out.set 0 (.int .i64 0)).set 1 (.int .i64 0))
    have HB4:=Lib.hid ((HB3.out.setCell (p:=⟨w.heap.size,0,none⟩) (Nat.le_refl _) (.int .i64 0)).setCell (p:=⟨w.heap.size,1,none⟩) (Nat.le_refl _) (.int .i64 0))
    clear hv
    go_wp2_with fail
    refine bodyPost_ret (results_rat_tmp rfl _ _ w.heap.size _ _ rfl HZ.out Tryz.underlying45 rfl (by kernel_rfl)) rfl ?_
    exact ⟨by rw [HE2.out];rfl,HB4.out⟩
   ·rw [hv] at HE2
    have HZ:=Lib.hid ((HW3.out.set 0 (.int .i64 q1)).set 1 (.int .i64 q2))
    have HB4:=Lib.hid ((HB3.out.setCell (p:=⟨w.heap.size,0,none⟩) (Nat.le_refl _) (.int .i64 q1)).setCell (p:=⟨w.heap.size,1,none⟩) (Nat.le_refl _) (.int .i64 q2))
    clear hv
    go_wp2_with fail
    refine bodyPost_ret (results_rat_tmp rfl _ _ w.heap.size _ _ rfl HZ.out Tryz.underlying45 rfl (by kernel_rfl)) rfl ?_
    exact ⟨by rw [HE2.out];rfl,HB4.out⟩
end
end Go.Proofs.YtlgdndnaiogooaaGreatDoor
