/- Parts of the proof of : Tm2. -/
import Derived.Test.YtlgdndnaiogooaaGreatDoorQ05
import Derived.Test.YtlgdndnaiogooaaGreatDoorQ13
import Derived.Test.YtlgdndnaiogooaaGreatDoorQ07
set_option maxHeartbeats 20000000
set_option maxRecDepth 1000000
set_option linter.unusedSimpArgs false
set_option linter.unusedVariables false
namespace Go.Proofs.YtlgdndnaiogooaaGreatDoor
section
open Go.RowKit
attribute [local go_sem ↓] Go.wp_at_zero Go.wp_at_succ
def trm (t:T2):Value:=.agg #[.int .i64 t.1,.int .i64 t.2]
def Drawn (t:T2):Prop:=-1≤t.1∧t.1≤9∧-1≤t.2∧t.2≤9
def TermPost (T:TypeId) (w:World) (B R N:Nat) (e:Ending) (w':World):Prop :=
 ∃t:T2,e=.returned (trm t)∧Drawn t∧Rd T w' B R N∧w.grownBy w' (some R)
theorem l92Term_any (B R N:Nat) (w:World) (hN:N≤900000) (hR:Rd 124 w B R N) :
 Calls Tryz.prog 33 #[.pointer (some ⟨R,0,none⟩)] w (TermPost 124 w B R (N+4)):=by
 have hlt:=hR.lt
 have hle:=hR.le
 have HR0:=Lib.hid (hR.alloc (.cells #[.int .i64 0,.int .i64 0] 24))
 clear hR
 go_enter Tryz.func33,Tryz.ntmps33
 go_wp2_with fail
 refine (pick_any B R N 5 _ (by omega) (by omega) (by omega) HR0.out).mono ?_
 rintro e w1 ⟨v1,rfl,hv1,hR1,hg1⟩
 have b1:=hv1.lt (by omega)
 have s1:=hg1.size
 simp at s1
 have HD:=Lib.hid ((Blk.new w _ _).gb hg1 (by omega))
 have HR1:=Lib.hid hR1;clear hR1
 have HG:=Lib.hid (gb_trans (gb_alloc (gb_refl w _) _) hg1);clear hg1
 go_wp2_with fail
 refine (pick_any B R (N+1) 5 _ (by omega) (by omega) (by omega) HR1.out).mono ?_
 rintro e w2 ⟨v2,rfl,hv2,hR2,hg2⟩
 have b2:=hv2.lt (by omega)
 have s2:=hg2.size
 replace HD:=Lib.hid ((HD.out.gb hg2 (by omega)).alloc (.cells #[.int .i64 v1,.int .i64 v2] 24))
 have HR2:=Lib.hid (hR2.alloc (.cells #[.int .i64 v1,.int .i64 v2] 24));clear hR2
 replace HG:=Lib.hid (gb_alloc (gb_trans HG.out hg2) (.cells #[.int .i64 v1,.int .i64 v2] 24));clear hg2 HR1
 have HE:=Lib.hid (Blk.new w2 24 #[.int .i64 v1,.int .i64 v2])
 go_wp2_with fail
 refine (pick_any B R (N+2) 30 _ (by omega) (by omega) (by omega) HR2.out).mono ?_
 rintro e w3 ⟨v3,rfl,hv3,hR3,hg3⟩
 have s3:=hg3.size
 simp at s3
 replace HD:=Lib.hid (HD.out.gb hg3 (by omega))
 replace HE:=Lib.hid (HE.out.gb hg3 (by omega))
 have HR3:=Lib.hid hR3;clear hR3
 have q1:¬w2.heap.size=w.heap.size:=by omega
 have q2:¬w.heap.size=w2.heap.size:=by omega
 replace HG:=Lib.hid (gb_trans HG.out hg3);clear hg3 HR2
 by_cases c0:v3=0
 ·subst c0
  go_wp2_with fail
  refine (pick_any B R (N+3) 3 _ (by omega) (by omega) (by omega) (HR3.out.alloc _)).mono ?_
  rintro e w4 ⟨v4,rfl,hv4,hR4,hg4⟩
  have b4:=hv4.lt (by omega)
  have s4:=hg4.size
  simp at s4
  have HL:=Lib.hid ((Blk.new w3 _ _).gb hg4 (by omega))
  replace HD:=Lib.hid ((HD.out.alloc _).gb hg4 (by omega))
  replace HE:=Lib.hid ((HE.out.alloc _).gb hg4 (by omega))
  have HR4:=Lib.hid hR4;clear hR4
  replace HG:=Lib.hid (gb_trans (gb_alloc HG.out _) hg4);clear hg4 HR3
  obtain ⟨x1,x2,x3,x4⟩:=blk2 HD.out
  obtain ⟨y1,y2,y3,y4⟩:=blk2 HE.out
  obtain ⟨z1,z2,z3,_⟩:=blk3 HL.out
  have hcases:v4=0∨v4=1∨v4=2:=by omega
  rcases hcases with rfl | rfl | rfl
  all_goals
   go_wp2_with fail
   refine bodyPost_ret (by simp [results,Tryz.results33,go_sem,x1,x2];rfl) rfl ?_
   refine ⟨(_,_),rfl,⟨by simp,by simp,by simp;omega,by simp;omega⟩,?_,?_⟩
   ·exact ((HR4.out.setCell (by show B≤w2.heap.size;omega) (by show w2.heap.size≠R;omega) _).setCell (by show B≤w.heap.size;omega) (by show w.heap.size≠R;omega) _).setCell (by show B≤w.heap.size;omega) (by show w.heap.size≠R;omega) _
   ·exact gb_setCell (gb_setCell (gb_setCell HG.out (.inr (by show w.heap.size≤w2.heap.size;omega)) _) (.inr (Nat.le_refl _)) _) (.inr (Nat.le_refl _)) _
 ·by_cases c1:v3=1
  ·subst c1
   go_wp2_with fail
   refine (pick_any B R (N+3) 3 _ (by omega) (by omega) (by omega) (HR3.out.alloc _)).mono ?_
   rintro e w4 ⟨v4,rfl,hv4,hR4,hg4⟩
   have b4:=hv4.lt (by omega)
   have s4:=hg4.size
   simp at s4
   have HL:=Lib.hid ((Blk.new w3 _ _).gb hg4 (by omega))
   replace HD:=Lib.hid ((HD.out.alloc _).gb hg4 (by omega))
   replace HE:=Lib.hid ((HE.out.alloc _).gb hg4 (by omega))
   have HR4:=Lib.hid hR4;clear hR4
   replace HG:=Lib.hid (gb_trans (gb_alloc HG.out _) hg4);clear hg4 HR3
   obtain ⟨x1,x2,x3,x4⟩:=blk2 HD.out
   obtain ⟨y1,y2,y3,y4⟩:=blk2 HE.out
   obtain ⟨z1,z2,z3,_⟩:=blk3 HL.out
   have hcases:v4=0∨v4=1∨v4=2:=by omega
   rcases hcases with rfl | rfl | rfl
   all_goals
    go_wp2_with fail
    refine bodyPost_ret (by simp [results,Tryz.results33,go_sem,x1,x2];rfl) rfl ?_
    refine ⟨(_,_),rfl,⟨by simp;omega,by simp;omega,by simp,by simp⟩,?_,?_⟩
    ·exact ((HR4.out.setCell (by show B≤w2.heap.size;omega) (by show w2.heap.size≠R;omega) _).setCell (by show B≤w.heap.size;omega) (by show w.heap.size≠R;omega) _).setCell (by show B≤w.heap.size;omega) (by show w.heap.size≠R;omega) _
    ·exact gb_setCell (gb_setCell (gb_setCell HG.out (.inr (by show w.heap.size≤w2.heap.size;omega)) _) (.inr (Nat.le_refl _)) _) (.inr (Nat.le_refl _)) _
  ·have d0:(v3==0)=false:=by simpa using c0
   have d1:(v3==1)=false:=by simpa using c1
   obtain ⟨x1,x2,x3,x4⟩:=blk2 HD.out
   obtain ⟨y1,y2,y3,y4⟩:=blk2 HE.out
   go_wp2_with fail
   refine bodyPost_ret (by simp [results,Tryz.results33,go_sem,x1,x2];rfl) rfl ?_
   refine ⟨(_,_),rfl,⟨by simp;omega,by simp;omega,by simp;omega,by simp;omega⟩,?_,?_⟩
   ·exact ((HR3.out.more (by omega)).setCell (by show B≤w.heap.size;omega) (by show w.heap.size≠R;omega) _).setCell (by show B≤w.heap.size;omega) (by show w.heap.size≠R;omega) _
   ·exact gb_setCell (gb_setCell HG.out (.inr (Nat.le_refl _)) _) (.inr (Nat.le_refl _)) _
end
end Go.Proofs.YtlgdndnaiogooaaGreatDoor
