/- Parts of the proof of : Rat. -/
import Derived.Test.YtlgdndnaiogooaaGreatDoorQ01
import Derived.Deep.RegionHeld3
import Derived.Deep.DrawnRows
set_option maxHeartbeats 20000000
set_option maxRecDepth 1000000
set_option linter.unusedSimpArgs false
set_option linter.unusedVariables false
namespace Go.Proofs.YtlgdndnaiogooaaGreatDoor
section
open Go.RowKit
attribute [local go_sem ↓] Go.wp_at_zero Go.wp_at_succ
theorem below_drewN {B:Nat} {a w:World} (h:Below B a w) (n:Nat):Below B a (w.drewN n):=⟨h.os,h.tape,h.output,h.size,h.block⟩
theorem implAbs_any (n:Int) (w:World) (h:-9223372036854775807≤n) (h':n≤9223372036854775807) :
 Calls Tryz.prog 81 #[.int .i64 n] w fun e w'=>e=.returned (.int .i64 (n.natAbs:Int))∧w'=w:=by
 by_cases h1:n<0
 ·go_enter Tryz.func81,Tryz.ntmps81
  go_wp2
  go_ret
  exact ⟨ret_int (by omega),rfl⟩
 ·go_enter Tryz.func81,Tryz.ntmps81
  go_wp2
  go_ret
  exact ⟨ret_int (by omega),rfl⟩
theorem specAbs_any (n:Int) (w:World) (h:-9223372036854775807≤n) (h':n≤9223372036854775807) :
 Calls Tryz.prog 85 #[.int .i64 n] w fun e w'=>e=.returned (.int .i64 (n.natAbs:Int))∧w'=w:=by
 by_cases h1:n<0
 ·go_enter Tryz.func85,Tryz.ntmps85
  go_wp2
  go_ret
  exact ⟨ret_int (by omega),rfl⟩
 ·go_enter Tryz.func85,Tryz.ntmps85
  go_wp2
  go_ret
  exact ⟨ret_int (by omega),rfl⟩
theorem gcd_step (x y:Nat):Nat.gcd x y=Nat.gcd y (x % y):=by rw [Nat.gcd_comm x y,Nat.gcd_rec,Nat.gcd_comm]
theorem divisor_any (a b:Int) (w:World) (ha:-9223372036854775807≤a∧a≤9223372036854775807) (hb:-9223372036854775807≤b∧b≤9223372036854775807) :
 Calls Tryz.prog 106 #[.int .i64 a,.int .i64 b] w fun e w'=>e=.returned (.int .i64 (Nat.gcd a.natAbs b.natAbs:Nat))∧∃q,w'=w.drewN q:=by
 have HA:=Lib.hid (fun W=>implAbs_any a W ha.1 ha.2)
 have HB:=Lib.hid (fun W=>implAbs_any b W hb.1 hb.2)
 have hx:(a.natAbs:Int)≤9223372036854775807:=by omega
 have hy:(b.natAbs:Int)≤9223372036854775807:=by omega
 generalize a.natAbs=x0 at *
 generalize b.natAbs=y0 at *
 go_enter Tryz.func106,Tryz.ntmps106
 go_wp2_with fail
 refine (HA.out _).mono ?_
 rintro e w1 ⟨rfl,rfl⟩
 go_wp2_with fail
 refine (HB.out _).mono ?_
 rintro e w1 ⟨rfl,rfl⟩
 go_wp2_with fail
 go_loopw [0,1] (fun u v wr=>∃(x y q:Nat),u=.int .i64 x∧v=.int .i64 y∧Hid (Nat.gcd x y=Nat.gcd x0 y0)∧(x:Int)≤9223372036854775807∧(y:Int)≤9223372036854775807∧wr=w1.drewN q) (fun _ v _=>(intOf v).toNat)
 case atStart=>exact ⟨x0,y0,0,rfl,rfl,rfl,hx,hy,rfl⟩
 case round =>
  obtain ⟨x,y,q,rfl,rfl,hg,h1,h2,rfl⟩:=hrel
  by_cases h0:y=0
  ·subst h0
   go_wp2_with fail
   go_ret
   exact ⟨ret_int (by have:=hg.out;rw [Nat.gcd_zero_right] at this;rw [this]),q,rfl⟩
  ·have hne:((y:Int) != 0)=true:=by simp;omega
   have hlt:=Nat.mod_lt x (show 0<y by omega)
   have HG:Hid (Nat.gcd y (x % y)=Nat.gcd x0 y0):=(gcd_step x y).symm.trans hg.out
   have hre:(x:Int).tmod (y:Int)=((x % y:Nat):Int):=rfl
   have hr2:(x:Int) % (y:Int)=((x % y:Nat):Int):=rfl
   have hu:¬((y:Int)=0):=by omega
   have u1:IntKind.i64.wrap ((x % y:Nat):Int)=((x % y:Nat):Int):=IntWalk.i64_in _ (by omega)
   have HR2:=Lib.hid hr2
   clear hr2
   go_wp2_with fail
   go_quiet (fail)
   clear u1 hre
   go_wp2_with fail
   go_roundw
   case rel=>exact ⟨y,x % y,_,rfl,by first | rfl | (rw [←HR2.out]),HG,h2,by omega,by first | exact World.drewN_drewN _ _ _ | rfl⟩
   case measure=>simp [intOf];omega
theorem specGcd_any (x0 y0:Nat) (w:World) (hx:(x0:Int)≤9223372036854775807) (hy:(y0:Int)≤9223372036854775807) :
 Calls Tryz.prog 139 #[.int .i64 x0,.int .i64 y0] w fun e w'=>e=.returned (.int .i64 (Nat.gcd x0 y0:Nat))∧w'=w:=by
 go_enter Tryz.func139,Tryz.ntmps139
 go_wp2_with fail
 go_loop [0,1] (fun u v=>∃(x y:Nat),u=.int .i64 x∧v=.int .i64 y∧Hid (Nat.gcd x y=Nat.gcd x0 y0)∧(x:Int)≤9223372036854775807∧(y:Int)≤9223372036854775807) (fun _ v=>(intOf v).toNat)
 case atStart=>exact ⟨x0,y0,rfl,rfl,rfl,hx,hy⟩
 case round =>
  obtain ⟨x,y,rfl,rfl,hg,h1,h2⟩:=hrel
  by_cases h0:y=0
  ·subst h0
   go_wp2_with fail
   go_ret
   exact ⟨ret_int (by have:=hg.out;rw [Nat.gcd_zero_right] at this;rw [this]),rfl⟩
  ·have hne:((y:Int) != 0)=true:=by simp;omega
   have hlt:=Nat.mod_lt x (show 0<y by omega)
   have HG:Hid (Nat.gcd y (x % y)=Nat.gcd x0 y0):=(gcd_step x y).symm.trans hg.out
   have hre:(x:Int).tmod (y:Int)=((x % y:Nat):Int):=rfl
   have hr2:(x:Int) % (y:Int)=((x % y:Nat):Int):=rfl
   have hu:¬((y:Int)=0):=by omega
   have u1:IntKind.i64.wrap ((x % y:Nat):Int)=((x % y:Nat):Int):=IntWalk.i64_in _ (by omega)
   have HR2:=Lib.hid hr2
   clear hr2
   go_wp2_with fail
   go_round
   case rel=>exact ⟨y,x % y,rfl,by first | rfl | (rw [←HR2.out]),HG,h2,by omega⟩
   case measure=>simp [intOf];omega
end
end Go.Proofs.YtlgdndnaiogooaaGreatDoor
