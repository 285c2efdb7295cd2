/- Parts of the proof of : Rat5. -/
import Derived.Test.YtlgdndnaiogooaaGreatDoorQ24
set_option maxHeartbeats 20000000
set_option maxRecDepth 1000000
set_option linter.unusedSimpArgs false
set_option linter.unusedVariables false
namespace Go.Proofs.YtlgdndnaiogooaaGreatDoor
section
open Go.RowKit
attribute [local go_sem ↓] Go.wp_at_zero Go.wp_at_succ
theorem isNaN_any (n:Int) (w:World):Calls Tryz.prog 142 #[.int .i64 n] w fun e w'=>e=.returned (.bool false)∧w'=w:=by
 have e1:(n != n)=false:=by simp
 go_enter Tryz.func142,Tryz.ntmps142
 go_wp2_with fail
 go_ret
 exact ⟨rfl,rfl⟩
def cmpI (a b:Int):Int:=if a<b then -1 else if b<a then 1 else 0
theorem cmp_any (a b:Int) (w:World):Calls Tryz.prog 111 #[.int .i64 a,.int .i64 b] w fun e w'=>e=.returned (.int .i64 (cmpI a b))∧w'=w:=by
 by_cases h1:a<b
 ·go_enter Tryz.func111,Tryz.ntmps111
  go_wp2_with (go_at_call 142;refine (isNaN_any _ _).mono ?_;rintro e w' ⟨rfl,rfl⟩)
  go_ret
  exact ⟨ret_int (by unfold cmpI;rw [if_pos h1]),rfl⟩
 ·by_cases h2:b<a
  ·go_enter Tryz.func111,Tryz.ntmps111
   go_wp2_with (go_at_call 142;refine (isNaN_any _ _).mono ?_;rintro e w' ⟨rfl,rfl⟩)
   go_ret
   exact ⟨ret_int (by unfold cmpI;rw [if_neg (by omega),if_pos h2]),rfl⟩
  ·go_enter Tryz.func111,Tryz.ntmps111
   go_wp2_with (go_at_call 142;refine (isNaN_any _ _).mono ?_;rintro e w' ⟨rfl,rfl⟩)
   go_ret
   exact ⟨ret_int (by unfold cmpI;rw [if_neg (by omega),if_neg (by omega)]),rfl⟩
theorem mul_bd {x y A B:Int} (hx:-A≤x∧x≤A) (hy:-B≤y∧y≤B):-(A*B)≤x*y∧x*y≤A*B:=by
 have h:(x*y).natAbs=x.natAbs*y.natAbs:=Int.natAbs_mul x y
 have h1:x.natAbs≤A.natAbs:=by omega
 have h2:y.natAbs≤B.natAbs:=by omega
 have h3:x.natAbs*y.natAbs≤A.natAbs*B.natAbs:=Nat.mul_le_mul h1 h2
 have h4:(A*B).natAbs=A.natAbs*B.natAbs:=Int.natAbs_mul A B
 have h5:0≤A*B:=Int.mul_nonneg (by omega) (by omega)
 omega
theorem rvB_bd {a b:Int} (h:rvB (a,b)=true):(1≤b∧b≤1000000000)∧(-1000000000≤a∧a≤1000000000):=by
 simp only [rvB,Bool.and_eq_true,inB_iff] at h
 exact h.1
theorem ratOf_ok {n d x1 x2:Int} {ok:Bool} (h:ratOf n d=((x1,x2),ok)):ok=true→(1≤x2∧x2≤1000000000)∧(-1000000000≤x1∧x1≤1000000000):=by
 rintro rfl
 unfold ratOf at h
 split at h
 ·cases h
 ·unfold mkB at h
  split at h
  ·rename_i hv
   injection h with h1 _
   rw [h1] at hv
   exact rvB_bd hv
  ·cases h
theorem whole_any (n:Int) (w:World) :
 Calls Tryz.prog 67 #[.int .i64 n] w fun e w'=>e=.returned (.agg #[.int .i64 n,.int .i64 1])∧Below w.heap.size w w':=by
 go_enter Tryz.func67,Tryz.ntmps67
 go_wp2_with fail
 refine bodyPost_ret (v:=.agg #[.int .i64 n,.int .i64 1]) (by simp [results,Tryz.results67,go_sem]) rfl ⟨rfl,?_⟩
 repeat (first | exact Below.refl _ _ | refine Below.alloc ?_ (by simp;try omega) _ | refine Below.setCell ?_ (by simp;try omega) _)
end
end Go.Proofs.YtlgdndnaiogooaaGreatDoor
