/- Parts of the proof of : Open. -/
import Derived.Test.YtammfhheibaeaaaGreatDoorQ01
import Derived.Test.YtammfhheibaeaaaGreatDoorQ28
set_option maxHeartbeats 20000000
set_option maxRecDepth 1000000
set_option linter.unusedSimpArgs false
set_option linter.unusedVariables false
namespace Go.Proofs.YtammfhheibaeaaaGreatDoor
section
open Go.RowKit
theorem bytes_less {w:World} {B n m:Nat} {A:Option Addr} (h:Bytes w B A n) (hm:m≤n):Bytes w B A m:=fun hn=>by
 obtain ⟨b,off,e,hb,hc⟩:=h (by omega)
 exact ⟨b,off,e,hb,fun j hj=>hc j (by omega)⟩
theorem rd_new {T:TypeId} {w:World} {B n c:Nat} {A:Option Addr} (h:Bytes w B A n) (hB:B≤w.heap.size) (hn:n≤2000) :
 Rd T (w.alloc (.cells #[.slice A n c,.int .i64 0] T)) B w.heap.size 0 :=
 ⟨A,n,c,0,heap_alloc_new w _,Nat.le_refl _,hB,hn,h.keep fun p hp=>World.cell?_alloc_lt w _ p (by omega)⟩
def OpenPost (T:TypeId) (w:World) (e:Ending) (w':World):Prop :=
 e=.returned (.pointer (some ⟨w.heap.size,0,none⟩))∧Rd T w' w.heap.size w.heap.size 0∧Below w.heap.size w w'
theorem l6Open_any (A:Option Addr) (n c:Nat) (w:World) (hm:n≤140737488355328) (hc:n≤c) (hb:Bytes w w.heap.size A n) :
 Calls Tryz.prog 19 #[.slice A n c] w (OpenPost 79 w):=by
 have hB:=fun v=>(Below.refl w.heap.size w).alloc (Nat.le_refl _) (.cells v 79)
 have HB:=Lib.hid hB;clear hB
 have HY:=Lib.hid hb;clear hb
 by_cases h:2000<n
 ·go_enter Tryz.func19,Tryz.ntmps19
  go_wp2
  go_ret
  exact ⟨rfl,rd_new (bytes_less HY.out (by omega)) (Nat.le_refl _) (by omega),HB.out _⟩
 ·go_enter Tryz.func19,Tryz.ntmps19
  go_wp2
  go_ret
  exact ⟨rfl,rd_new HY.out (Nat.le_refl _) (by omega),HB.out _⟩
theorem Pk.lt {m v:Int} (h:Pk m v) (hm:1≤m):0≤v∧v<m:=⟨h.1,h.2.1 hm⟩
end
end Go.Proofs.YtammfhheibaeaaaGreatDoor
