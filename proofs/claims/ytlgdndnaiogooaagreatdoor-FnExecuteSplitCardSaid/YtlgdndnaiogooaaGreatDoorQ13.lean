/- Parts of the proof of : Pick Open. -/
import Derived.Test.YtlgdndnaiogooaaGreatDoorQ01
set_option maxHeartbeats 20000000
set_option maxRecDepth 1000000
set_option linter.unusedSimpArgs false
set_option linter.unusedVariables false
namespace Go.Proofs.YtlgdndnaiogooaaGreatDoor
section
open Go.RowKit
def PickPost (T:TypeId) (w:World) (B R N:Nat) (m:Int) (e:Ending) (w':World):Prop :=
 ∃v,e=.returned (.int .i64 v)∧Pk m v∧Rd T w' B R (N+1)∧w.grownBy w' (some R)
theorem rd_next {T:TypeId} {w:World} {B R N n c p:Nat} {A:Option Addr} (h1:w.heap[R]?=some (.cells #[.slice A n c,.int .i64 (p:Nat)] T (0,0))) (h2:p≤N) (h3:B≤R) (h4:n≤2000) (h5:Bytes w B A n) :
 Rd T (w.setCell ⟨R,1,none⟩ (.int .i64 ((p:Int)+1))) B R (N+1):=by
 refine ⟨A,n,c,p+1,?_,by omega,h3,h4,h5.keep fun q hq=>World.cell?_of_block (Below.heap_setCell _ _ _ _ (by show q.block≠R;omega))⟩
 simp only [World.setCell,Array.getElem?_modify,if_true,h1]
 simp
theorem pick_any (B R N:Nat) (m:Int) (w:World) (hN:N≤1000000) (hm0:-1≤m) (hm:m≤1000000) (hR:Rd 124 w B R N) :
 Calls Tryz.prog 46 #[.pointer (some ⟨R,0,none⟩),.int .i64 m] w (PickPost 124 w B R N m):=by
 obtain ⟨A,n,c,p,h1,h2,h3,h4,h5⟩:=hR
 have HR:=Lib.hid (rd_next h1 h2 h3 h4 h5)
 have hb1:w.cell? ⟨R,0,none⟩=some (.slice A n c):=by rw [cell_of_row w R 0 _ _ _ h1];rfl
 have hb2:w.cell? ⟨R,1,none⟩=some (.int .i64 (p:Int)):=by rw [cell_of_row w R 1 _ _ _ h1];rfl
 have hf:w.frozen? ⟨R,1,none⟩=false:=by simp [World.frozen?,h1]
 have HG:=Lib.hid (gb_setCell (p:=⟨R,1,none⟩) (gb_refl w (some R)) (.inl rfl) (.int .i64 ((p:Int)+1)))
 have H5:=Lib.hid (h5.keep (w':=w.setCell ⟨R,1,none⟩ (.int .i64 ((p:Int)+1))) fun q hq=>World.cell?_of_block (Below.heap_setCell _ _ _ _ (by show q.block≠R;omega)))
 clear h1 h5
 by_cases c1:m<1
 ·go_enter Tryz.func46,Tryz.ntmps46
  go_wp2
  go_ret
  exact ⟨0,rfl,⟨by omega,by omega,fun _=>rfl⟩,HR.out,HG.out⟩
 by_cases c2:n=0
 ·subst c2
  go_enter Tryz.func46,Tryz.ntmps46
  go_wp2
  go_ret
  exact ⟨0,rfl,⟨by omega,by omega,fun _=>rfl⟩,HR.out,HG.out⟩
 obtain ⟨b,off,rfl,hb,hc⟩:=H5.out (by omega)
 by_cases c3:p<n
 ·obtain ⟨x,hx0,hx1,hx⟩:=hc p c3
  clear hc
  go_enter Tryz.func46,Tryz.ntmps46
  go_wp2
  go_ret
  have a1:=Int.emod_nonneg x (show m≠0 by omega)
  have a2:=Int.emod_lt_of_pos x (show 0<m by omega)
  exact ⟨x % m,rfl,⟨a1,fun _=>a2,by omega⟩,HR.out,HG.out⟩
 ·have e1:p % n<n:=Nat.mod_lt _ (by omega)
  have e2:(p*7+3) % n<n:=Nat.mod_lt _ (by omega)
  obtain ⟨x,hx0,hx1,hx⟩:=hc (p % n) e1
  obtain ⟨y,hy0,hy1,hy⟩:=hc ((p*7+3) % n) e2
  clear hc
  have i1:0≤(p:Int) % (n:Int):=by omega
  have i2:(p:Int) % (n:Int)<(n:Int):=by omega
  have i3:0≤((p:Int)*7+3) % (n:Int):=Int.emod_nonneg _ (by omega)
  have i4:((p:Int)*7+3) % (n:Int)<(n:Int):=Int.emod_lt_of_pos _ (by omega)
  go_enter Tryz.func46,Tryz.ntmps46
  go_wp2
  go_quiet (fail)
  go_wp2
  go_ret
  have hmix:=mix_pick x y p n m hx0 hx1 hy0 hy1 (by omega) (by omega) (by omega) c1
  exact ⟨_,rfl,⟨hmix.1,fun _=>hmix.2,by omega⟩,HR.out.drewN _,gb_drewN HG.out _⟩
end
section
open Go.RowKit
theorem bytes_less {w:World} {B n m:Nat} {A:Option Addr} (h:Bytes w B A n) (hm:m≤n):Bytes w B A m:=fun hn=>by
 obtain ⟨b,off,e,hb,hc⟩:=h (by omega)
 exact ⟨b,off,e,hb,fun j hj=>hc j (by omega)⟩
theorem rd_new {T:TypeId} {w:World} {B n c:Nat} {A:Option Addr} (h:Bytes w B A n) (hB:B≤w.heap.size) (hn:n≤2000) :
 Rd T (w.alloc (.cells #[.slice A n c,.int .i64 0] T)) B w.heap.size 0 :=
 ⟨A,n,c,0,heap_alloc_new w _,Nat.le_refl _,hB,hn,h.keep fun p hp=>World.cell?_alloc_lt w _ p (by omega)⟩
def OpenPost (T:TypeId) (w:World) (e:Ending) (w':World):Prop :=
 e=.returned (.pointer (some ⟨w.heap.size,0,none⟩))∧Rd T w' w.heap.size w.heap.size 0∧Below w.heap.size w w'
theorem l6Open_any (A:Option Addr) (n c:Nat) (w:World) (hm:n≤140737488355328) (hc:n≤c) (hb:Bytes w w.heap.size A n) :
 Calls Tryz.prog 34 #[.slice A n c] w (OpenPost 124 w):=by
 have hB:=fun v=>(Below.refl w.heap.size w).alloc (Nat.le_refl _) (.cells v 124)
 have HB:=Lib.hid hB;clear hB
 have HY:=Lib.hid hb;clear hb
 by_cases h:2000<n
 ·go_enter Tryz.func34,Tryz.ntmps34
  go_wp2
  go_ret
  exact ⟨rfl,rd_new (bytes_less HY.out (by omega)) (Nat.le_refl _) (by omega),HB.out _⟩
 ·go_enter Tryz.func34,Tryz.ntmps34
  go_wp2
  go_ret
  exact ⟨rfl,rd_new HY.out (Nat.le_refl _) (by omega),HB.out _⟩
theorem Pk.lt {m v:Int} (h:Pk m v) (hm:1≤m):0≤v∧v<m:=⟨h.1,h.2.1 hm⟩
end
end Go.Proofs.YtlgdndnaiogooaaGreatDoor
