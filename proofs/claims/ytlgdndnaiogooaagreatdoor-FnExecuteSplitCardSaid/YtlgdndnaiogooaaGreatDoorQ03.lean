/- Parts of the proof of : Tx1. -/
import Derived.Test.YtlgdndnaiogooaaGreatDoorQ01
import Derived.Test.YtlgdndnaiogooaaGreatDoorQ02
import Derived.Deep.DrawnRows
set_option maxHeartbeats 20000000
set_option maxRecDepth 1000000
set_option linter.unusedSimpArgs false
set_option linter.unusedVariables false
namespace Go.Proofs.YtlgdndnaiogooaaGreatDoor
section
open Go.RowKit
attribute [local go_sem ↓] Go.wp_at_zero Go.wp_at_succ
def bs (l:List UInt8):ByteArray:=⟨l.toArray⟩
theorem bs_append (x y:List UInt8):bs x++bs y=bs (x++y):=ByteArray.mk_append_mk x y
theorem bs_size (l:List UInt8):(bs l).size=l.length:=by show l.toArray.size=_;simp
theorem bs_nil:bs []=⟨#[]⟩:=rfl
theorem bs_inj {x y:List UInt8} (h:bs x=bs y):x=y:=by
 have:(bs x).data.toList=(bs y).data.toList:=by rw [h]
 simpa [bs] using this
theorem ret_str {a b:ByteArray} (h:a=b):Ending.returned (.string a)=.returned (.string b):=by rw [h]
theorem conv_at (W:World) (g:Nat) (x:Int) (h0:0≤x) (h1:x≤255) (hg:Blk W g 5 #[.int .u8 x]) :
 (convert 22 9 (.slice (some ⟨g,0,none⟩) 1 1)).run Tryz.prog W=.ok (.string (bs [UInt8.ofNat x.toNat])) W:=by
 refine run_convert_bytes_back (P:=Tryz.prog) W 22 9 5 ⟨g,0,none⟩ 1 [UInt8.ofNat x.toNat] Tryz.underlying22 Tryz.underlying5 Tryz.underlying9 ?_
 intro j hj
 obtain rfl:j=0:=by simpa using hj
 have:(⟨g,0,none⟩:Addr).add 0=⟨g,0,none⟩:=by simp [Addr.add]
 rw [this,hg.cell]
 simp
 omega
theorem conv_new (W:World) (x:Int) (h0:0≤x) (h1:x≤255) :
 (convert 22 9 (.slice (some ⟨W.heap.size,0,none⟩) 1 1)).run Tryz.prog (W.alloc (.cells #[.int .u8 x] 5))=.ok (.string (bs [UInt8.ofNat x.toNat])) (W.alloc (.cells #[.int .u8 x] 5)) :=
 conv_at _ _ x h0 h1 (Blk.new _ _ _)
theorem dig_step {n:Nat} (h:10≤n):Lib.decDigits n=Lib.decDigits (n / 10)++[UInt8.ofNat (48+n % 10)]:=by
 rw [Lib.decDigits,dif_neg (by omega)]
theorem dig_len:∀(k n:Nat),n<10 ^ (k+1)→(Lib.decDigits n).length≤k+1
 | 0,n,h=>by rw [Lib.decDigits_one (by omega)];simp
 | k+1,n,h=>by
  by_cases h1:n<10
  ·rw [Lib.decDigits_one h1];simp
  ·rw [dig_step (by omega),List.length_append]
   have:=dig_len k (n / 10) (by rw [Nat.pow_succ] at h;omega)
   simp;omega
theorem dig_len7 {n:Nat} (h:n≤1000000):(Lib.decDigits n).length≤7:=dig_len 6 n (by omega)
end
end Go.Proofs.YtlgdndnaiogooaaGreatDoor
