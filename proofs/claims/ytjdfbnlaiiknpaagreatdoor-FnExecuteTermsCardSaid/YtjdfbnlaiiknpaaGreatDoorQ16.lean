/- Parts of the proof of : App Pick Open Tm2. -/
import Derived.Test.YtjdfbnlaiiknpaaGreatDoorQ02
set_option maxHeartbeats 20000000
set_option maxRecDepth 1000000
set_option linter.unusedSimpArgs false
set_option linter.unusedVariables false
namespace Go.Proofs.YtjdfbnlaiiknpaaGreatDoor
section
open Go.RowKit
theorem run_app_nil {P:Program} (w:World) (base:Nat) (t ty e:TypeId) (i:TypeInfo) (size:Nat) (ht:P.underlying t=some (.slice e)) (hi:P.info? e=some i)
 (v:Value) (n:Nat) (xs:List Value) (hown:w.ownsRow base e size v n xs) (c:Nat):(Builtin.append_ #[t,t] ty #[v,.slice none 0 c]).run P w=.ok v w:=by
 rcases hown.2 with ⟨rfl,rfl⟩ | ⟨g,cap,cur,rfl,_,_,hnc,_⟩
 ·simp [Builtin.append_,run_underlying ht,sizeOf,typeInfo,hi,Builtin.lenOf,Builtin.firstCells]
 ·simp [Builtin.append_,run_underlying ht,sizeOf,typeInfo,hi,Builtin.lenOf,Builtin.firstCells,hnc,storeCells]
theorem run_appR {P:Program} (w:World) (ty t e:TypeId) (size bytes:Nat) (hE:ElemOk P t e size bytes) (base:Nat)
 (v:Value) (n:Nat) (xs:List Value) (hown:w.ownsRow base e size v n xs)
 (B:Nat) (A:Option Addr) (m c:Nat) (news:List Value) (hr:Reads w B size A m news) (h1:∀u∈news,u.oneCell'=true)
 (hn:n+m≤1000000) (hby:bytes≤1000000) (hbase:base≤w.heap.size) :
 ∃v' w',(Builtin.append_ #[t,t] ty #[v,.slice A m c]).run P w=.ok v' w'∧w'.ownsRow base e size v' (n+m) (xs++news)∧w.grownBy w' v.ownBlock:=by
 obtain ⟨ht,i,z,hi,hz,hsize,hbytes,hzs,hsz⟩:=hE
 have h63:n+m≤maxLen:=by unfold maxLen;omega
 have hbb:(n+m)*bytes≤140737488355328:=by
  calc (n+m)*bytes≤1000000*1000000:=Nat.mul_le_mul hn hby
   _≤_:=by omega
 rcases A with _ | ad
 ·have hm:m=0:=by
   rcases Nat.eq_zero_or_pos m with h0 | h0
   ·exact h0
   ·obtain ⟨b,off,h,_⟩:=hr.2 h0
    cases h
  subst hm
  have hn:news=[]:=List.eq_nil_of_length_eq_zero (by simpa using hr.1)
  subst hn
  exact ⟨v,w,run_app_nil w base t ty e i size ht hi v n xs hown c,by simpa using hown,World.grownBy.refl w _⟩
 ·have hcells:∀j u,news[j]?=some u→w.cell? (ad.add j)=some u:=by
   intro j u hu
   rcases Nat.eq_zero_or_pos m with h0 | h0
   ·subst h0
    have hn:news=[]:=List.eq_nil_of_length_eq_zero (by simpa using hr.1)
    subst hn
    simp at hu
   ·obtain ⟨b,off,h,_,hc⟩:=hr.2 h0
    injection h with h
    subst h
    have:(⟨b,off,none⟩:Addr).add j=⟨b,off+j,none⟩:=by unfold Addr.add;split <;> simp_all
    rw [this]
    exact hc j u hu
  obtain ⟨v',w',hrun,h2,h3,_,_⟩:=run_append_own_at (P:=P) w base t ty e i z size bytes ht hi hz hsize hbytes hzs hsz v n xs hown ad m c news hr.1 hcells h1 h63 hbb hbase
  exact ⟨v',w',hrun,h2,h3⟩
theorem wpList_appR {P:Program} (w:World) {ops:Array Oper} {rest:List Oper} {o:Oper} {a:Act} {Q:Exit→Act→World→Prop} (hgd:o.guard=none) (s x:Operand) (t:TypeId)
 (ho:o.op=.call { callee:=.builtin .append,args:=#[s,x],argTypes:=#[t,t] })
 (base:Nat) (e:TypeId) (size bytes:Nat) (hE:ElemOk P t e size bytes)
 (A:Option Addr) (c n:Nat) (xs:List Value) (hs:a.eval s=.slice A n c) (hown:w.ownsRow base e size (.slice A n c) n xs)
 (B:Nat) (A1:Option Addr) (m mc:Nat) (news:List Value) (hx:a.eval x=.slice A1 m mc) (hr:Reads w B size A1 m news) (h1:∀u∈news,u.oneCell'=true)
 (N:Nat) (hN:N=n+m) (hn:N≤1000000) (hby:bytes≤1000000) (hbase:base≤w.heap.size)
 (h:∀A' c' w',w'.ownsRow base e size (.slice A' N c') N (xs++news)→N≤c'→Below base w w'→KeepT e w w'→wpList P ops Q rest (a.put o.dst (.slice A' N c')) w'):wpList P ops Q (o :: rest) a w:=by
 subst hN
 obtain ⟨v',w',hrun,hown',hg⟩:=run_appR w o.type t e size bytes hE base _ n xs hown B A1 m mc news hr h1 hn hby hbase
 obtain ⟨A',c',rfl,hc'⟩:=own_form hown'
 have hk:=keepT_of hown hg
 have hb:Below base w w':=(Below.refl base w).grown hg hbase (fun k hk=>(hown.lt k hk).1)
 refine wpList_plain hgd fun _ hK=>?_
 unfold Oper.wp execOp
 simp only [ho,resolve,invoke,builtin,Sem.run_bind,Sem.run_pure,Result.andThen_ok,List.map_toArray,List.map_cons,List.map_nil,hs,hx,hrun]
 exact hK _ _ (h A' c' w' hown' hc' hb hk)
theorem run_appR2 {P:Program} (w:World) (ty t e:TypeId) (size bytes:Nat) (hE:ElemOk P t e size bytes) (base:Nat)
 (v:Value) (n:Nat) (xs:List Value) (hown:w.ownsRow base e size v n xs)
 (B:Nat) (A:Option Addr) (m c:Nat) (news:List Value) (hr:Reads w B size A m news) (h1:∀u∈news,u.oneCell'=true)
 (hn:n+m≤1000000) (hby:bytes≤1000000) (hbase:base≤w.heap.size) :
 ∃v' w',(Builtin.append_ #[t,t] ty #[v,.slice A m c]).run P w=.ok v' w'∧w'.ownsRow base e size v' (n+m) (xs++news)∧w.grownBy w' v.ownBlock∧(v'=.slice none 0 0→v=.slice none 0 0):=by
 obtain ⟨ht,i,z,hi,hz,hsize,hbytes,hzs,hsz⟩:=hE
 have h63:n+m≤maxLen:=by unfold maxLen;omega
 have hbb:(n+m)*bytes≤140737488355328:=by
  calc (n+m)*bytes≤1000000*1000000:=Nat.mul_le_mul hn hby
   _≤_:=by omega
 rcases A with _ | ad
 ·have hm:m=0:=by
   rcases Nat.eq_zero_or_pos m with h0 | h0
   ·exact h0
   ·obtain ⟨b,off,h,_⟩:=hr.2 h0
    cases h
  subst hm
  have hn:news=[]:=List.eq_nil_of_length_eq_zero (by simpa using hr.1)
  subst hn
  exact ⟨v,w,run_app_nil w base t ty e i size ht hi v n xs hown c,by simpa using hown,World.grownBy.refl w _,fun h=>h⟩
 ·have hcells:∀j u,news[j]?=some u→w.cell? (ad.add j)=some u:=by
   intro j u hu
   rcases Nat.eq_zero_or_pos m with h0 | h0
   ·subst h0
    have hn:news=[]:=List.eq_nil_of_length_eq_zero (by simpa using hr.1)
    subst hn
    simp at hu
   ·obtain ⟨b,off,h,_,hc⟩:=hr.2 h0
    injection h with h
    subst h
    have:(⟨b,off,none⟩:Addr).add j=⟨b,off+j,none⟩:=by unfold Addr.add;split <;> simp_all
    rw [this]
    exact hc j u hu
  obtain ⟨v',w',hrun,h2,h3,h4,_⟩:=run_append_own_at (P:=P) w base t ty e i z size bytes ht hi hz hsize hbytes hzs hsz v n xs hown ad m c news hr.1 hcells h1 h63 hbb hbase
  exact ⟨v',w',hrun,h2,h3,fun h=>(h4.1 h).1⟩
theorem wpList_appR2 {P:Program} (w:World) {ops:Array Oper} {rest:List Oper} {o:Oper} {a:Act} {Q:Exit→Act→World→Prop} (hgd:o.guard=none) (s x:Operand) (t:TypeId)
 (ho:o.op=.call { callee:=.builtin .append,args:=#[s,x],argTypes:=#[t,t] })
 (base:Nat) (e:TypeId) (size bytes:Nat) (hE:ElemOk P t e size bytes)
 (A:Option Addr) (c n:Nat) (xs:List Value) (hs:a.eval s=.slice A n c) (hown:w.ownsRow base e size (.slice A n c) n xs)
 (B:Nat) (A1:Option Addr) (m mc:Nat) (news:List Value) (hx:a.eval x=.slice A1 m mc) (hr:Reads w B size A1 m news) (h1:∀u∈news,u.oneCell'=true)
 (N:Nat) (hN:N=n+m) (hn:N≤1000000) (hby:bytes≤1000000) (hbase:base≤w.heap.size)
 (h:∀A' c' w',w'.ownsRow base e size (.slice A' N c') N (xs++news)→N≤c'→Below base w w'→KeepT e w w'→(A≠none→∃g,A'=some ⟨g,0,none⟩)→wpList P ops Q rest (a.put o.dst (.slice A' N c')) w'):wpList P ops Q (o :: rest) a w:=by
 subst hN
 obtain ⟨v',w',hrun,hown',hg,hnil⟩:=run_appR2 w o.type t e size bytes hE base _ n xs hown B A1 m mc news hr h1 hn hby hbase
 obtain ⟨A',c',rfl,hc'⟩:=own_form hown'
 have hk:=keepT_of hown hg
 have hb:Below base w w':=(Below.refl base w).grown hg hbase (fun k hk=>(hown.lt k hk).1)
 refine wpList_plain hgd fun _ hK=>?_
 unfold Oper.wp execOp
 simp only [ho,resolve,invoke,builtin,Sem.run_bind,Sem.run_pure,Result.andThen_ok,List.map_toArray,List.map_cons,List.map_nil,hs,hx,hrun]
 exact hK _ _ (h A' c' w' hown' hc' hb hk fun hA=>by
  rcases hown'.2 with ⟨hv,_⟩ | ⟨g,cap,cur,hv,_⟩
  ·have:=hnil hv
   injection this with h1
   exact absurd h1 hA
  ·injection hv with h1
   exact ⟨g,h1⟩)
end
section
open Go.RowKit
def PickPost (T:TypeId) (w:World) (B R N:Nat) (m:Int) (e:Ending) (w':World):Prop :=
 ∃v,e=.returned (.int .i64 v)∧Pk m v∧Rd T w' B R (N+1)∧w.grownBy w' (some R)
theorem rd_next {T:TypeId} {w:World} {B R N n c p:Nat} {A:Option Addr} (h1:w.heap[R]?=some (.cells #[.slice A n c,.int .i64 (p:Nat)] T (0,0))) (h2:p≤N) (h3:B≤R) (h4:n≤2000) (h5:Bytes w B A n) :
 Rd T (w.setCell ⟨R,1,none⟩ (.int .i64 ((p:Int)+1))) B R (N+1):=by
 refine ⟨A,n,c,p+1,?_,by omega,h3,h4,h5.keep fun q hq=>World.cell?_of_block (Below.heap_setCell _ _ _ _ (by show q.block≠R;omega))⟩
 simp only [World.setCell,Array.getElem?_modify,if_true,h1]
 simp
theorem pick_any (B R N:Nat) (m:Int) (w:World) (hN:N≤1000000) (hm0:-1≤m) (hm:m≤1000000) (hR:Rd 64 w B R N) :
 Calls Tryz.prog 35 #[.pointer (some ⟨R,0,none⟩),.int .i64 m] w (PickPost 64 w B R N m):=by
 obtain ⟨A,n,c,p,h1,h2,h3,h4,h5⟩:=hR
 have HR:=Lib.hid (rd_next h1 h2 h3 h4 h5)
 have hb1:w.cell? ⟨R,0,none⟩=some (.slice A n c):=by rw [cell_of_row w R 0 _ _ _ h1];rfl
 have hb2:w.cell? ⟨R,1,none⟩=some (.int .i64 (p:Int)):=by rw [cell_of_row w R 1 _ _ _ h1];rfl
 have hf:w.frozen? ⟨R,1,none⟩=false:=by simp [World.frozen?,h1]
 have HG:=Lib.hid (gb_setCell (p:=⟨R,1,none⟩) (gb_refl w (some R)) (.inl rfl) (.int .i64 ((p:Int)+1)))
 have H5:=Lib.hid (h5.keep (w':=w.setCell ⟨R,1,none⟩ (.int .i64 ((p:Int)+1))) fun q hq=>World.cell?_of_block (Below.heap_setCell _ _ _ _ (by show q.block≠R;omega)))
 clear h1 h5
 by_cases c1:m<1
 ·go_enter Tryz.func35,Tryz.ntmps35
  go_wp2
  go_ret
  exact ⟨0,rfl,⟨by omega,by omega,fun _=>rfl⟩,HR.out,HG.out⟩
 by_cases c2:n=0
 ·subst c2
  go_enter Tryz.func35,Tryz.ntmps35
  go_wp2
  go_ret
  exact ⟨0,rfl,⟨by omega,by omega,fun _=>rfl⟩,HR.out,HG.out⟩
 obtain ⟨b,off,rfl,hb,hc⟩:=H5.out (by omega)
 by_cases c3:p<n
 ·obtain ⟨x,hx0,hx1,hx⟩:=hc p c3
  clear hc
  go_enter Tryz.func35,Tryz.ntmps35
  go_wp2
  go_ret
  have a1:=Int.emod_nonneg x (show m≠0 by omega)
  have a2:=Int.emod_lt_of_pos x (show 0<m by omega)
  exact ⟨x % m,rfl,⟨a1,fun _=>a2,by omega⟩,HR.out,HG.out⟩
 ·have e1:p % n<n:=Nat.mod_lt _ (by omega)
  have e2:(p*7+3) % n<n:=Nat.mod_lt _ (by omega)
  obtain ⟨x,hx0,hx1,hx⟩:=hc (p % n) e1
  obtain ⟨y,hy0,hy1,hy⟩:=hc ((p*7+3) % n) e2
  clear hc
  have i1:0≤(p:Int) % (n:Int):=by omega
  have i2:(p:Int) % (n:Int)<(n:Int):=by omega
  have i3:0≤((p:Int)*7+3) % (n:Int):=Int.emod_nonneg _ (by omega)
  have i4:((p:Int)*7+3) % (n:Int)<(n:Int):=Int.emod_lt_of_pos _ (by omega)
  go_enter Tryz.func35,Tryz.ntmps35
  go_wp2
  go_quiet (fail)
  go_wp2
  go_ret
  have hmix:=mix_pick x y p n m hx0 hx1 hy0 hy1 (by omega) (by omega) (by omega) c1
  exact ⟨_,rfl,⟨hmix.1,fun _=>hmix.2,by omega⟩,HR.out.drewN _,gb_drewN HG.out _⟩
end
section
open Go.RowKit
theorem bytes_less {w:World} {B n m:Nat} {A:Option Addr} (h:Bytes w B A n) (hm:m≤n):Bytes w B A m:=fun hn=>by
 obtain ⟨b,off,e,hb,hc⟩:=h (by omega)
 exact ⟨b,off,e,hb,fun j hj=>hc j (by omega)⟩
theorem rd_new {T:TypeId} {w:World} {B n c:Nat} {A:Option Addr} (h:Bytes w B A n) (hB:B≤w.heap.size) (hn:n≤2000) :
 Rd T (w.alloc (.cells #[.slice A n c,.int .i64 0] T)) B w.heap.size 0 :=
 ⟨A,n,c,0,heap_alloc_new w _,Nat.le_refl _,hB,hn,h.keep fun p hp=>World.cell?_alloc_lt w _ p (by omega)⟩
def OpenPost (T:TypeId) (w:World) (e:Ending) (w':World):Prop :=
 e=.returned (.pointer (some ⟨w.heap.size,0,none⟩))∧Rd T w' w.heap.size w.heap.size 0∧Below w.heap.size w w'
theorem l6Open_any (A:Option Addr) (n c:Nat) (w:World) (hm:n≤140737488355328) (hc:n≤c) (hb:Bytes w w.heap.size A n) :
 Calls Tryz.prog 14 #[.slice A n c] w (OpenPost 64 w):=by
 have hB:=fun v=>(Below.refl w.heap.size w).alloc (Nat.le_refl _) (.cells v 64)
 have HB:=Lib.hid hB;clear hB
 have HY:=Lib.hid hb;clear hb
 by_cases h:2000<n
 ·go_enter Tryz.func14,Tryz.ntmps14
  go_wp2
  go_ret
  exact ⟨rfl,rd_new (bytes_less HY.out (by omega)) (Nat.le_refl _) (by omega),HB.out _⟩
 ·go_enter Tryz.func14,Tryz.ntmps14
  go_wp2
  go_ret
  exact ⟨rfl,rd_new HY.out (Nat.le_refl _) (by omega),HB.out _⟩
theorem Pk.lt {m v:Int} (h:Pk m v) (hm:1≤m):0≤v∧v<m:=⟨h.1,h.2.1 hm⟩
end
section
open Go.RowKit
attribute [local go_sem ↓] Go.wp_at_zero Go.wp_at_succ
theorem elTerm:ElemOk Tryz.prog 25 39 2 16:=elemOk Tryz.underlying25 (z:=.agg #[.int .i64 0,.int .i64 0]) (by kernel_rfl) rfl (by omega)
end
end Go.Proofs.YtjdfbnlaiiknpaaGreatDoor
