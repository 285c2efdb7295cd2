/- Parts of the proof of : Rat4. -/
import Derived.Test.YtlgdndnaiogooaaGreatDoorQ23
set_option maxHeartbeats 20000000
set_option maxRecDepth 1000000
set_option linter.unusedSimpArgs false
set_option linter.unusedVariables false
namespace Go.Proofs.YtlgdndnaiogooaaGreatDoor
section
open Go.RowKit
attribute [local go_sem ↓] Go.wp_at_zero Go.wp_at_succ
theorem okV_form (r:T2 × Bool):okV r=.tuple #[.agg #[.int .i64 r.1.1,.int .i64 r.1.2],.bool r.2]:=rfl
theorem specRatOf_any (num den:Int) (w:World) (n0:den≠0) (n1:-4000000000000000000≤num∧num≤4000000000000000000) (n2:-4000000000000000000≤den∧den≤4000000000000000000) :
 Calls Tryz.prog 60 #[.int .i64 num,.int .i64 den] w fun e w'=>e=.returned (okV (ratOf num den))∧Below w.heap.size w w':=by
 have he:ratOf num den=mkB num den:=by
  unfold ratOf
  rw [if_neg]
  rintro (h | h | h)
  ·exact n0 h
  ·rw [inB_iff.2 n1] at h;cases h
  ·rw [inB_iff.2 n2] at h;cases h
 rw [he];clear he
 have HM:=Lib.hid (fun W=>specMake_any num den W n0 n1.1 n1.2 n2.1 n2.2)
 have HD:=Lib.hid (Blk.new w 45 #[.int .i64 0,.int .i64 0])
 have HB1:=Lib.hid ((Below.refl w.heap.size w).alloc (Nat.le_refl _) (.cells #[.int .i64 0,.int .i64 0] 45))
 have h1:=Lib.hid (inB_iff.2 n1)
 have h2:=Lib.hid (inB_iff.2 n2)
 have dz:(den==0)=false:=by simpa using n0
 generalize mkB num den=r at *
 go_enter Tryz.func60,Tryz.ntmps60
 go_wp2_with fail
 refine (l6In_any _ _ _ _).mono ?_
 rintro e w1 ⟨rfl,rfl⟩
 rw [h1.out]
 go_wp2_with fail
 refine (l6In_any _ _ _ _).mono ?_
 rintro e w1 ⟨rfl,rfl⟩
 rw [h2.out]
 go_wp2_with fail
 refine (HM.out _).mono ?_
 rintro e w3 ⟨rfl,hb3⟩
 rw [okV_form]
 have HB3:=Lib.hid (HB1.out.trans (hb3.mono HB1.out.size))
 have HX4:=Lib.hid (HD.out.sub hb3)
 obtain ⟨y1,y2,y3,y4⟩:=blk2 HX4.out
 have HZ:=Lib.hid ((HX4.out.set 0 (.int .i64 r.1.1)).set 1 (.int .i64 r.1.2))
 have HB4:=Lib.hid ((HB3.out.setCell (p:=⟨w.heap.size,0,none⟩) (Nat.le_refl _) (.int .i64 r.1.1)).setCell (p:=⟨w.heap.size,1,none⟩) (Nat.le_refl _) (.int .i64 r.1.2))
 go_wp2_with fail
 refine bodyPost_ret (results_rat_tmp rfl _ _ w.heap.size _ _ rfl HZ.out Tryz.underlying45 rfl (by kernel_rfl)) rfl ?_
 exact ⟨rfl,HB4.out⟩
end
end Go.Proofs.YtlgdndnaiogooaaGreatDoor
