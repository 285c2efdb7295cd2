/- Parts of the proof of : Tx1. -/
import Derived.Test.YtammfhheibaeaaaGreatDoorQ01
import Derived.Test.YtammfhheibaeaaaGreatDoorQ02
import Derived.Deep.DrawnRows
set_option maxHeartbeats 20000000
set_option maxRecDepth 1000000
set_option linter.unusedSimpArgs false
set_option linter.unusedVariables false
namespace Go.Proofs.YtammfhheibaeaaaGreatDoor
section
open Go.RowKit
attribute [local go_sem ↓] Go.wp_at_zero Go.wp_at_succ
def bs (l:List UInt8):ByteArray:=⟨l.toArray⟩
theorem bs_append (x y:List UInt8):bs x++bs y=bs (x++y):=ByteArray.mk_append_mk x y
theorem bs_size (l:List UInt8):(bs l).size=l.length:=by show l.toArray.size=_;simp
theorem bs_nil:bs []=⟨#[]⟩:=rfl
theorem ret_str {a b:ByteArray} (h:a=b):Ending.returned (.string a)=.returned (.string b):=by rw [h]
theorem conv_at (W:World) (g:Nat) (x:Int) (h0:0≤x) (h1:x≤255) (hg:Blk W g 5 #[.int .u8 x]) :
 (convert 28 9 (.slice (some ⟨g,0,none⟩) 1 1)).run Tryz.prog W=.ok (.string (bs [UInt8.ofNat x.toNat])) W:=by
 refine run_convert_bytes_back (P:=Tryz.prog) W 28 9 5 ⟨g,0,none⟩ 1 [UInt8.ofNat x.toNat] Tryz.underlying28 Tryz.underlying5 Tryz.underlying9 ?_
 intro j hj
 obtain rfl:j=0:=by simpa using hj
 have:(⟨g,0,none⟩:Addr).add 0=⟨g,0,none⟩:=by simp [Addr.add]
 rw [this,hg.cell]
 simp
 omega
theorem conv_new (W:World) (x:Int) (h0:0≤x) (h1:x≤255) :
 (convert 28 9 (.slice (some ⟨W.heap.size,0,none⟩) 1 1)).run Tryz.prog (W.alloc (.cells #[.int .u8 x] 5))=.ok (.string (bs [UInt8.ofNat x.toNat])) (W.alloc (.cells #[.int .u8 x] 5)) :=
 conv_at _ _ x h0 h1 (Blk.new _ _ _)
theorem dig_step {n:Nat} (h:10≤n):Lib.decDigits n=Lib.decDigits (n / 10)++[UInt8.ofNat (48+n % 10)]:=by
 rw [Lib.decDigits,dif_neg (by omega)]
theorem dig_len:∀(k n:Nat),n<10 ^ (k+1)→(Lib.decDigits n).length≤k+1
 | 0,n,h=>by rw [Lib.decDigits_one (by omega)];simp
 | k+1,n,h=>by
  by_cases h1:n<10
  ·rw [Lib.decDigits_one h1];simp
  ·rw [dig_step (by omega),List.length_append]
   have:=dig_len k (n / 10) (by rw [Nat.pow_succ] at h;omega)
   simp;omega
theorem dig_len7 {n:Nat} (h:n≤1000000):(Lib.decDigits n).length≤7:=dig_len 6 n (by omega)
theorem l6Dec_any (n:Nat):n≤1000000→∀w:World,Calls Tryz.prog 45 #[.int .i64 n] w fun e w'=>e=.returned (.string (bs (Lib.decDigits n)))∧Below w.heap.size w w':=by
 induction n using Nat.strongRecOn with
 | ind n ih =>
  intro hn w
  have d0:decide ((n:Int) < -9223372036854775807)=false:=decide_eq_false (by omega)
  have d1:decide ((n:Int)<0)=false:=decide_eq_false (by omega)
  have HB1:=Lib.hid (fun o=>(Below.refl w.heap.size w).alloc (Nat.le_refl _) o)
  by_cases h:n<10
  ·have hcv:=fun W=>conv_new W (48+(n:Int)) (by omega) (by omega)
   have HE:Hid (Lib.decDigits n=[UInt8.ofNat (48+(n:Int)).toNat]):=by unfold Hid;rw [Lib.decDigits_one h,show (48+(n:Int)).toNat=48+n by omega]
   generalize Lib.decDigits n=D at *
   clear ih
   generalize [UInt8.ofNat (48+(n:Int)).toNat]=V at *
   go_enter Tryz.func45,Tryz.ntmps45
   go_wp2_with fail
   clear hcv
   go_ret
   exact ⟨ret_str (by rw [HE.out]),HB1.out _⟩
  ·have hc:=ih (n / 10) (by omega) (by omega)
   rw [show (((n / 10:Nat):Int))=(n:Int) / 10 by omega] at hc
   have HC:=Lib.hid hc;clear hc ih
   have hl:=dig_len7 (n:=n / 10) (by omega)
   obtain ⟨m,hm9,hm⟩:∃m:Nat,m≤9∧n % 10=m:=⟨n % 10,by omega,rfl⟩
   have HE:Hid (Lib.decDigits n=Lib.decDigits (n / 10)++[UInt8.ofNat (48+(m:Int)).toNat]):=by
    unfold Hid;rw [dig_step (by omega),show (48+(m:Int)).toNat=48+n % 10 by omega]
   have hz:(bs (Lib.decDigits (n / 10))).size≤7:=by rw [bs_size];exact hl
   have hv1:(bs [UInt8.ofNat (48+(m:Int)).toNat]).size≤1:=Nat.le_of_eq (bs_size _)
   have HCV:=Lib.hid (fun W=>conv_new W (48+(m:Int)) (by omega) (by omega))
   have HCW:=Lib.hid (fun W g=>conv_at W g (48+(m:Int)) (by omega) (by omega))
   generalize Lib.decDigits n=D at *
   generalize Lib.decDigits (n / 10)=D1 at *
   generalize [UInt8.ofNat (48+(m:Int)).toNat]=V at *
   clear hl
   have u1:IntKind.i64.wrap ((n:Int) / 10)=(n:Int) / 10:=IntWalk.i64_in _ (by omega)
   have u2:(n:Int).tmod 10=(m:Int):=by rw [Int.tmod_eq_emod_of_nonneg (by omega)];omega
   have u3:IntKind.i64.wrap (48+(m:Int))=48+(m:Int):=IntWalk.i64_in _ (by omega)
   have u4:IntKind.u8.wrap (48+(m:Int))=48+(m:Int):=IntWalk.u8_in _ (by omega)
   have HU:=Lib.hid (And.intro u1 (And.intro u2 (And.intro u3 u4)))
   clear u1 u2 u3 u4 hm
   go_enter Tryz.func45,Tryz.ntmps45
   go_wp2_with fail
   obtain ⟨u1,u2,u3,u4⟩:=HU.out
   have k1:=HCV.out
   have k2:=fun W:World=>HCW.out (W.alloc (.cells #[.int .u8 (48+(m:Int))] 5)).drew W.heap.size (Blk.new _ _ _)
   go_region_with (go_at_call 45;refine (HC.out _).mono ?_;rintro e w1 ⟨rfl,hb1⟩;try (have k3:=HCW.out w1 w.heap.size ((Blk.drew (Blk.new w _ _)).sub hb1)))
   all_goals
    clear k1 k2
    have hbe:bs D1++bs V=bs D:=by rw [HE.out,bs_append]
    have HBE:=Lib.hid hbe;clear hbe
    have HB9:=Lib.hid hb1;clear hb1
    go_wp2_with fail
    go_ret
    refine ⟨ret_str HBE.out,?_⟩
    first
     | exact (((Below.refl w.heap.size w).drew).trans (HB9.out.mono (Nat.le_refl _))).alloc HB9.out.size _
     | exact ((HB1.out _).drew).trans (HB9.out.mono (by simp))
end
end Go.Proofs.YtammfhheibaeaaaGreatDoor
