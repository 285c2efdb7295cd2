/- Parts of the proof of : Tm1 Smg. -/
import Derived.Test.YtlgdndnaiogooaaGreatDoorQ04
set_option maxHeartbeats 20000000
set_option maxRecDepth 1000000
set_option linter.unusedSimpArgs false
set_option linter.unusedVariables false
namespace Go.Proofs.YtlgdndnaiogooaaGreatDoor
section
open Go.RowKit
attribute [local go_sem ↓] Go.wp_at_zero Go.wp_at_succ
def tvB (t:T2):Bool:=inB t.1 0 8 && inB t.2 0 8
theorem tvB_iff {t:T2}:tvB t=true↔(0≤t.1∧t.1≤8)∧(0≤t.2∧t.2≤8):=by simp [tvB,inB_iff]
theorem specTermValid_any (t:T2) (w:World) :
 Calls Tryz.prog 37 #[.agg #[.int .i64 t.1,.int .i64 t.2]] w fun e w'=>e=.returned (.bool (tvB t))∧Below w.heap.size w w':=by
 obtain ⟨a,b⟩:=t
 have hB:=(Below.refl w.heap.size w).alloc (Nat.le_refl _) (.cells #[.int .i64 a,.int .i64 b] 24)
 have hT:tvB (a,b)=(inB a 0 8 && inB b 0 8):=rfl
 have HT:=Lib.hid hT;clear hT
 cases ha:inB a 0 8
 ·go_enter Tryz.func37,Tryz.ntmps37
  go_wp2_with (go_at_call 49;refine (l6In_any _ _ _ _).mono ?_;rintro e w' ⟨rfl,rfl⟩)
  go_ret
  exact ⟨ret_bool (by rw [HT.out,ha];rfl),hB⟩
 ·go_enter Tryz.func37,Tryz.ntmps37
  go_wp2_with (go_at_call 49;refine (l6In_any _ _ _ _).mono ?_;rintro e w' ⟨rfl,rfl⟩)
  go_ret
  exact ⟨ret_bool (by rw [HT.out,ha];rfl),hB⟩
theorem implTermValid_any (t:T2) (w:World) :
 Calls Tryz.prog 35 #[.agg #[.int .i64 t.1,.int .i64 t.2]] w fun e w'=>e=.returned (.bool (tvB t))∧Below w.heap.size w w':=by
 obtain ⟨a,b⟩:=t
 have hB:=(Below.refl w.heap.size w).alloc (Nat.le_refl _) (.cells #[.int .i64 a,.int .i64 b] 24)
 have hT:tvB (a,b)=(inB a 0 8 && inB b 0 8):=rfl
 have HT:=Lib.hid hT;clear hT
 go_enter Tryz.func35,Tryz.ntmps35
 go_wp2
 all_goals
  go_ret
  refine ⟨ret_bool ?_,hB⟩
  rw [HT.out]
  simp [inB, *] <;> omega
end
section
open Go.RowKit
theorem l1Abs_any (n:Int) (w:World) (h:-9223372036854775807≤n) (h':n≤9223372036854775807) :
 Calls Tryz.prog 85 #[.int .i64 n] w fun e w'=>e=.returned (.int .i64 (n.natAbs:Int))∧w=w':=by
 by_cases h1:n<0
 ·go_enter Tryz.func85,Tryz.ntmps85
  go_wp2
  go_ret
  exact ⟨ret_int (by omega),rfl⟩
 ·go_enter Tryz.func85,Tryz.ntmps85
  go_wp2
  go_ret
  exact ⟨ret_int (by omega),rfl⟩
theorem abs_any (n:Int) (w:World) (h:-9223372036854775807≤n) (h':n≤9223372036854775807) :
 Calls Tryz.prog 81 #[.int .i64 n] w fun e w'=>e=.returned (.int .i64 (n.natAbs:Int))∧w=w':=by
 by_cases h1:n<0
 ·go_enter Tryz.func81,Tryz.ntmps81
  go_wp2
  go_ret
  exact ⟨ret_int (by omega),rfl⟩
 ·go_enter Tryz.func81,Tryz.ntmps81
  go_wp2
  go_ret
  exact ⟨ret_int (by omega),rfl⟩
end
end Go.Proofs.YtlgdndnaiogooaaGreatDoor
