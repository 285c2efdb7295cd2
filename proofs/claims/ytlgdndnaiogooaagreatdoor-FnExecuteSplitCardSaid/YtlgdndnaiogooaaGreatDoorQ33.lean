/- Parts of the proof of : Cb. -/
import Derived.Test.YtlgdndnaiogooaaGreatDoorQ26
import Derived.StillTailTactics
set_option maxHeartbeats 20000000
set_option maxRecDepth 1000000
set_option linter.unusedSimpArgs false
set_option linter.unusedVariables false
namespace Go.Proofs.YtlgdndnaiogooaaGreatDoor
section
section
open Go.RowKit
def pasc:Nat→Nat→Nat
 | _,0=>1
 | 0,_+1=>0
 | n+1,k+1=>pasc n k+pasc n (k+1)
theorem pasc_zero (n:Nat):pasc n 0=1:=by cases n <;> rfl
theorem pasc_succ (n k:Nat):pasc (n+1) (k+1)=pasc n k+pasc n (k+1):=rfl
theorem pasc_gt:∀(n k:Nat),n<k→pasc n k=0
 | 0,k+1,_=>rfl
 | n+1,k+1,h=>by rw [pasc_succ,pasc_gt n k (by omega),pasc_gt n (k+1) (by omega)]
theorem pasc_le:∀(n k:Nat),pasc n k≤2 ^ n
 | n,0=>by rw [pasc_zero];exact Nat.one_le_two_pow
 | 0,k+1=>by show 0≤_;exact Nat.zero_le _
 | n+1,k+1=>by
  have h1:=pasc_le n k
  have h2:=pasc_le n (k+1)
  rw [pasc_succ,Nat.pow_succ];omega
theorem pasc_absorb:∀(n k:Nat),(k+1)*pasc (n+1) (k+1)=(n+1)*pasc n k
 | 0,0=>rfl
 | 0,k+1=>by rw [pasc_gt 1 (k+1+1) (by omega),pasc_gt 0 (k+1) (by omega)];simp
 | n+1,0=>by
  have:=pasc_absorb n 0
  rw [pasc_succ (n+1) 0,pasc_zero] at *
  rw [Nat.mul_add]
  omega
 | n+1,k+1=>by
  have h1:=pasc_absorb n k
  have h2:=pasc_absorb n (k+1)
  rw [pasc_succ (n+1) (k+1)]
  have e:pasc (n+1) (k+1)=pasc n k+pasc n (k+1):=rfl
  calc (k+1+1)*(pasc (n+1) (k+1)+pasc (n+1) (k+1+1))
   = (k+1)*pasc (n+1) (k+1)+pasc (n+1) (k+1)+(k+1+1)*pasc (n+1) (k+1+1):=by rw [Nat.mul_add,Nat.add_mul (k+1) 1,Nat.one_mul]
   _=(n+1)*pasc n k+pasc (n+1) (k+1)+(n+1)*pasc n (k+1):=by rw [h1,h2]
   _=(n+1)*(pasc n k+pasc n (k+1))+pasc (n+1) (k+1):=by rw [Nat.mul_add];omega
   _=(n+1+1)*pasc (n+1) (k+1):=by rw [←e,Nat.add_mul (n+1) 1,Nat.one_mul]
theorem pasc_step (n k:Nat) (hk:k<n):pasc n k*(n-k)=pasc n (k+1)*(k+1):=by
 obtain ⟨m,rfl⟩:∃m,n=m+1:=⟨n-1,by omega⟩
 induction k with
 | zero =>
  have:=pasc_absorb m 0
  rw [pasc_zero] at *
  omega
 | succ k ih =>
  have h1:=pasc_absorb m k
  have h2:=pasc_absorb m (k+1)
  have h3:pasc (m+1) (k+1)=pasc m k+pasc m (k+1):=rfl
  have e:m+1-(k+1)+(k+1)=m+1:=by omega
  -- (m+1)*C(m+1,k+1)=(m+1)*C(m,k)+(m+1)*C(m,k+1)
  have h4:(m+1)*pasc (m+1) (k+1)=(k+1)*pasc (m+1) (k+1)+(k+1+1)*pasc (m+1) (k+1+1):=by
   rw [h3,Nat.mul_add,←h1,←h2,h3]
  have h5:(m+1)*pasc (m+1) (k+1)=(m+1-(k+1))*pasc (m+1) (k+1)+(k+1)*pasc (m+1) (k+1):=by rw [←Nat.add_mul,e]
  rw [Nat.mul_comm (pasc (m+1) (k+1)),Nat.mul_comm (pasc (m+1) (k+1+1))]
  omega
def ch (n k:Int):Int:=if n<0∨40<n then -1 else if k<0∨n<k then 0 else (pasc n.toNat k.toNat:Nat)
theorem ch_small {n k:Int} (h0:0≤n) (h1:n≤10):0≤ch n k∧ch n k≤1024:=by
 unfold ch
 rw [if_neg (by omega)]
 split
 ·omega
 ·have h:=pasc_le n.toNat k.toNat
  have h2:2 ^ n.toNat≤2 ^ 10:=Nat.pow_le_pow_right (by omega) (by omega)
  omega
theorem ch_tiny {n k:Int} (h0:0≤n) (h1:n≤6):0≤ch n k∧ch n k≤64:=by
 unfold ch
 rw [if_neg (by omega)]
 split
 ·omega
 ·have h:=pasc_le n.toNat k.toNat
  have h2:2 ^ n.toNat≤2 ^ 6:=Nat.pow_le_pow_right (by omega) (by omega)
  omega
def hasB (j m:Int):Bool:=inB j 0 24 && inB m (-j) j && decide ((j+m) % 2=0)
theorem hasB_iff {j m:Int}:hasB j m=true↔(0≤j∧j≤24)∧(-j≤m∧m≤j)∧(j+m) % 2=0:=by
 simp only [hasB,Bool.and_eq_true,inB_iff,decide_eq_true_eq,and_assoc]
def cplB (a b c m n:Int):Bool:=inB a 0 6 && inB b 0 6 && inB c 0 6 && triB a b c && hasB a m && hasB b n
theorem cplB_iff {a b c m n:Int}:cplB a b c m n=true↔((0≤a∧a≤6)∧(0≤b∧b≤6)∧(0≤c∧c≤6))∧triB a b c=true∧hasB a m=true∧hasB b n=true:=by
 simp only [cplB,Bool.and_eq_true,inB_iff,and_assoc]
def cTm (a b c m n:Int) (k:Nat):Int:=ch ((a+b-c) / 2) k*ch ((a-b+c) / 2) ((a-m) / 2-k)*ch ((b-a+c) / 2) ((b+n) / 2-k)
def cSum (a b c m n:Int):Nat→Int
 | 0=>0
 | k+1=>cSum a b c m n k+(if k % 2=1 then -(cTm a b c m n k) else cTm a b c m n k)
theorem mul3_bd {u v z:Int} (hu:0≤u∧u≤64) (hv:0≤v∧v≤64) (hz:0≤z∧z≤64):(0≤u*v∧u*v≤4096)∧(0≤u*v*z∧u*v*z≤262144):=by
 have h1:0≤u*v:=Int.mul_nonneg hu.1 hv.1
 have h2:u*v≤64*64:=Int.mul_le_mul hu.2 hv.2 hv.1 (by omega)
 have h3:0≤u*v*z:=Int.mul_nonneg h1 hz.1
 have h4:u*v*z≤4096*64:=Int.mul_le_mul (by omega) hz.2 hz.1 (by omega)
 omega
theorem cSum_bd {a b c m n:Int} (h:∀k,0≤cTm a b c m n k∧cTm a b c m n k≤262144):∀k:Nat,-(262144*(k:Int))≤cSum a b c m n k∧cSum a b c m n k≤262144*(k:Int)
 | 0=>by simp [cSum]
 | k+1=>by
  have h1:=cSum_bd h k
  have h2:=h k
  unfold cSum
  split <;> omega
def csR (a b c m n:Int):Int:=if (cplB a b c m n && hasB c (m+n))=true then cSum a b c m n (((a+b-c) / 2).toNat+1) else 0
theorem csR_bd (a b c m n:Int):-2097152≤csR a b c m n∧csR a b c m n≤2097152:=by
 unfold csR
 split
 ·rename_i h
  rw [Bool.and_eq_true] at h
  obtain ⟨⟨h1,h2,h3⟩,h4,h5,h6⟩:=cplB_iff.1 h.1
  have h7:=triB_iff.1 h4
  have hb:=cSum_bd (a:=a) (b:=b) (c:=c) (m:=m) (n:=n) (fun k=>(mul3_bd (ch_tiny (by omega) (by omega)) (ch_tiny (by omega) (by omega)) (ch_tiny (by omega) (by omega))).2) (((a+b-c) / 2).toNat+1)
  omega
 ·omega
end
section
open Go.RowKit
attribute [local go_sem ↓] Go.wp_at_zero Go.wp_at_succ
theorem own_setI {w:World} {base g n c i:Nat} {e:TypeId} {v:Value} {xs:List Value} (h:w.ownsRow base e 1 (.slice (some ⟨g,0,none⟩) n c) n xs) (hi:i<n) :
 (w.setCell ⟨g,i,none⟩ v).ownsRow base e 1 (.slice (some ⟨g,0,none⟩) n c) n (xs.set i v):=by
 refine ⟨by rw [List.length_set];exact h.1,?_⟩
 rcases h.2 with ⟨hv,h0⟩ | ⟨g',cap,cur,hv,hb,hh,h1,h2,h3,h4⟩
 ·omega
 ·injection hv with hv _ hc
  injection hv with hv
  injection hv with hv
  subst hv hc
  refine .inr ⟨g,c,cur.setIfInBounds i v,rfl,hb,Blk.set (t:=e) hh i v,h1,h2,by simpa using h3,?_⟩
  rw [Array.toList_setIfInBounds,List.take_set,h4]
theorem own_new1 (w:World) (e:TypeId) (v:Value):(w.alloc (.cells #[v] e)).ownsRow w.heap.size e 1 (.slice (some ⟨w.heap.size,0,none⟩) 1 1) 1 [v] :=
 ⟨rfl,.inr ⟨w.heap.size,1,#[v],rfl,Nat.le_refl _,Blk.new w e #[v],Nat.le_refl _,by unfold maxLen;omega,rfl,rfl⟩⟩
theorem own_at {w:World} {base g n c:Nat} {e:TypeId} {xs:List Value} (h:w.ownsRow base e 1 (.slice (some ⟨g,0,none⟩) n c) n xs) {i:Nat} (hi:i<n):w.cell? ⟨g,i,none⟩=xs[i]?∧w.frozen? ⟨g,i,none⟩=false:=by
 rcases h.2 with ⟨hv,h0⟩ | ⟨g',cap,cur,hv,hb,hh,h1,h2,h3,h4⟩
 ·omega
 ·injection hv with hv _ hc
  injection hv with hv
  injection hv with hv
  subst hv hc
  have hh':Blk w g e cur:=hh
  refine ⟨?_,hh'.frozen i⟩
  rw [hh'.cell,←h4,List.getElem?_take,if_pos (by omega)]
  simp
theorem own_nn {w:World} {base n c:Nat} {e:TypeId} {A:Option Addr} {xs:List Value} (h:w.ownsRow base e 1 (.slice A n c) n xs) (hn:0<n):∃g,A=some ⟨g,0,none⟩∧base≤g∧n≤c:=by
 rcases h.2 with ⟨hv,h0⟩ | ⟨g',cap,cur,hv,hb,hh,h1,h2,h3,h4⟩
 ·omega
 ·injection hv with hv _ hc
  exact ⟨g',hv,hb,by rw [hc];exact h1⟩
def mrow (m q:Nat):List Value:=(List.range (m+1)).map fun j=>.int .i64 (if j≤q then (pasc (m-1) j:Nat) else (pasc m j:Nat):Nat)
def prow (r:Nat):List Value:=(List.range (r+1)).map fun j=>.int .i64 ((pasc r j:Nat):Int)
theorem mrow_top {m:Nat} (h:1≤m):prow (m-1)++[.int .i64 0]=mrow m m:=by
 obtain ⟨r,rfl⟩:∃r,m=r+1:=⟨m-1,by omega⟩
 unfold prow mrow
 simp only [Nat.add_sub_cancel]
 rw [List.range_succ (n:=r+1),List.map_append,List.map_cons,List.map_nil]
 congr 1
 ·apply List.map_congr_left
  intro j hj
  have:=List.mem_range.1 hj
  rw [if_pos (by omega)]
 ·rw [if_pos (Nat.le_refl _),pasc_gt r (r+1) (by omega)];rfl
theorem mrow_zero (m:Nat):mrow m 0=prow m:=by
 unfold prow mrow
 apply List.map_congr_left
 intro j hj
 split
 ·rename_i h0
  obtain rfl:j=0:=by omega
  rw [pasc_zero,pasc_zero]
 ·rfl
theorem mrow_set {m q:Nat} (hq:q+1≤m):(mrow m (q+1)).set (q+1) (.int .i64 ((pasc m (q+1):Nat):Int))=mrow m q:=by
 unfold mrow
 apply List.ext_getElem?
 intro j
 rw [List.getElem?_set]
 simp only [List.length_map,List.length_range,List.getElem?_map]
 by_cases hj:q+1=j
 ·subst hj
  rw [if_pos rfl,if_pos (by omega),List.getElem?_range (by omega)]
  simp only [Option.map_some]
  rw [if_neg (by omega)]
 ·rw [if_neg hj]
  rcases Nat.lt_or_ge j (m+1) with h | h
  ·rw [List.getElem?_range h]
   simp only [Option.map_some]
   by_cases h2:j≤q
   ·rw [if_pos h2,if_pos (by omega)]
   ·rw [if_neg h2,if_neg (by omega)]
  ·simp [h]
theorem mrow_at {m q j:Nat} (hj:j≤q) (hq:q≤m):(mrow m q)[j]?=some (.int .i64 ((pasc (m-1) j:Nat):Int)):=by
 unfold mrow
 rw [List.getElem?_map,List.getElem?_range (by omega)]
 simp [hj]
theorem prow_at {r j:Nat} (hj:j≤r):(prow r)[j]?=some (.int .i64 ((pasc r j:Nat):Int)):=by
 unfold prow
 rw [List.getElem?_map,List.getElem?_range (by omega)];rfl
theorem pasc_40 {n:Nat} (h:n≤40) (k:Nat):pasc n k≤1099511627776:=Nat.le_trans (pasc_le n k) (Nat.pow_le_pow_right (by omega) h)
def slen:Value→Nat
 | .slice _ m _=>m
 | _=>0
theorem implChoose_in (n k:Nat) (w:World) (hn:n≤40) (hk:k≤n) :
 Calls Tryz.prog 68 #[.int .i64 n,.int .i64 k] w fun e w'=>e=.returned (.int .i64 ((pasc n k:Nat):Int))∧Below w.heap.size w w':=by
 have HO:=Lib.hid (own_new1 w 3 (.int .i64 1))
 have HB:=Lib.hid (bel_alloc (Below.refl w.heap.size w) (.cells #[.int .i64 1] 3))
 have e1:decide (40<n)=false:=by simpa using hn
 have e2:decide (n<k)=false:=by simpa using hk
 have e0:¬((n:Int)<0):=by omega
 go_enter Tryz.func68,Tryz.ntmps68
 go_wp2_with fail
 clear e1 e2 e0
 go_loopw [5] (fun v wr=>∃(m c:Nat) (A:Option Addr),1≤m∧m≤n+1∧v=.slice A m c∧Hid (wr.ownsRow w.heap.size 3 1 (.slice A m c) m (prow (m-1)))∧Hid (Below w.heap.size w wr)) (fun v _=>n+1-slen v)
 case atStart=>exact ⟨1,1,_,Nat.le_refl _,by omega,rfl,HO.out,HB.out⟩
 case round =>
  clear HO HB
  obtain ⟨m,c,A,h1,h2,rfl,HO,HB⟩:=hrel
  by_cases hlt:m≤n
  ·go_wp2_with (at_builtin;refine wpList_app1 _ rfl (.tmp 27) (.tmp 28) _ rfl w.heap.size 3 1 8 elInt A c m (prow (m-1)) rfl (HO.out.alloc _) wr.heap.size #[.int .i64 0] rfl (Blk.new wr _ _) rfl ?h1 (by omega) (by omega) (by have:=HB.out.size;simp;omega) ?_)
   case h1=>exact rfl
   intro A' c' w3 hown3 hc3 hb3
   have HO3:Hid (w3.ownsRow w.heap.size 3 1 (.slice A' (m+1) c') (m+1) (mrow m m)):=by unfold Hid;rw [←mrow_top h1];exact hown3
   have HB3:=Lib.hid ((HB.out.alloc HB.out.size (.cells #[.int .i64 0] 3)).trans hb3)
   clear hown3 hb3 HO HB
   obtain ⟨g,rfl,hg,hc⟩:=own_nn HO3.out (by omega)
   go_wp2_with fail
   go_loopw [6] (fun v wr=>∃(q:Nat),q≤m∧v=.int .i64 q∧Hid (wr.ownsRow w.heap.size 3 1 (.slice (some ⟨g,0,none⟩) (m+1) c') (m+1) (mrow m q))∧Hid (Below w.heap.size w wr)) (fun v _=>(RowKit.intOf v).toNat)
   case atStart=>exact ⟨m,Nat.le_refl _,by go_num,HO3.out,HB3.out⟩
   case round =>
    clear HO3 HB3
    obtain ⟨q,hq,rfl,HO,HB⟩:=hrel
    by_cases hq0:q=0
    ·subst hq0
     have HOz:=HO.out
     rw [mrow_zero] at HOz
     have HZ:=Lib.hid HOz
     clear HOz
     go_wp2_with fail
     go_roundw
     case rel=>exact ⟨m+1,c',some ⟨g,0,none⟩,by omega,by omega,rfl,HZ.out,HB.out⟩
     case measure=>simp [slen];omega
    ·obtain ⟨p,rfl⟩:∃p,q=p+1:=⟨q-1,by omega⟩
     obtain ⟨c1,f1⟩:=own_at HO.out (i:=p+1) (by omega)
     obtain ⟨c2,_⟩:=own_at HO.out (i:=p) (by omega)
     rw [mrow_at (Nat.le_refl _) hq] at c1
     rw [mrow_at (by omega) hq] at c2
     have hb1:=pasc_40 (n:=m-1) (by omega) (p+1)
     have hb2:=pasc_40 (n:=m-1) (by omega) p
     have HE:Hid (((pasc (m-1) (p+1):Nat):Int)+((pasc (m-1) p:Nat):Int)=((pasc m (p+1):Nat):Int)):=by
      obtain ⟨r,rfl⟩:∃r,m=r+1:=⟨m-1,by omega⟩
      unfold Hid
      rw [pasc_succ,Nat.add_sub_cancel];omega
     have HW:Hid ((wr.drew.setCell ⟨g,p+1,none⟩ (.int .i64 ((pasc m (p+1):Nat):Int))).ownsRow w.heap.size 3 1 (.slice (some ⟨g,0,none⟩) (m+1) c') (m+1) (mrow m p)):=by
      unfold Hid
      rw [←mrow_set hq]
      exact own_setI (w:=wr.drew) HO.out (by omega)
     have HBW:=Lib.hid (bel_set (g:=g) (i:=p+1) (u:=.int .i64 ((pasc m (p+1):Nat):Int)) (bel_drew HB.out) hg)
     generalize pasc (m-1) (p+1)=x at *
     generalize pasc (m-1) p=y at *
     generalize pasc m (p+1)=z at *
     have d0:decide (0<p+1)=true:=by simp
     have u1:IntKind.i64.wrap (((p+1:Nat):Int)-1)=(p:Int):=(IntWalk.i64_in _ (by omega)).trans (by omega)
     have u2:IntKind.i64.wrap ((x:Int)+(y:Int))=(z:Int):=(IntWalk.i64_in _ (by omega)).trans HE.out
     have i0:(0:Int)≤(p:Int):=by omega
     have i1:(p:Int)<(m:Int)+1:=by omega
     have i2:(0:Int)≤(p:Int)+1:=by omega
     have i3:(p:Int)+1<(m:Int)+1:=by omega
     go_wp2_with fail
     go_region
     all_goals
      clear u1 u2 d0
      go_wp2_with fail
      go_roundw
      case rel=>exact ⟨p,by omega,by go_num,HW.out,HBW.out⟩
      case measure=>simp [RowKit.intOf]
  ·obtain rfl:m=n+1:=by omega
   obtain ⟨g,rfl,hg,hc⟩:=own_nn HO.out (by omega)
   obtain ⟨c1,c2⟩:=own_at HO.out (i:=k) (by omega)
   rw [Nat.add_sub_cancel,prow_at hk] at c1
   have i1:(k:Int)<(n:Int)+1:=by omega
   have i0:(0:Int)≤(k:Int):=by omega
   go_wp2_with fail
   go_ret
   exact ⟨rfl,HB.out⟩
theorem implChoose_any (n k:Int) (w:World) :
 Calls Tryz.prog 68 #[.int .i64 n,.int .i64 k] w fun e w'=>e=.returned (.int .i64 (ch n k))∧Below w.heap.size w w':=by
 by_cases h1:n<0∨40<n
 ·have he:ch n k=-1:=by unfold ch;rw [if_pos h1]
  rw [he];clear he
  have hB:=Below.refl w.heap.size w
  rcases h1 with h1 | h1
  ·go_enter Tryz.func68,Tryz.ntmps68
   go_wp2_with fail
   go_ret
   exact ⟨rfl,hB⟩
  ·have h2:¬n<0:=by omega
   go_enter Tryz.func68,Tryz.ntmps68
   go_wp2_with fail
   go_ret
   exact ⟨rfl,hB⟩
 ·have n0:0≤n:=by omega
  have n1:n≤40:=by omega
  by_cases h2:k<0∨n<k
  ·have he:ch n k=0:=by unfold ch;rw [if_neg h1,if_pos h2]
   rw [he];clear he h1
   have hB:=Below.refl w.heap.size w
   rcases h2 with h2 | h2
   ·go_enter Tryz.func68,Tryz.ntmps68
    go_wp2_with fail
    go_ret
    exact ⟨rfl,hB⟩
   ·have h3:¬k<0:=by omega
    go_enter Tryz.func68,Tryz.ntmps68
    go_wp2_with fail
    go_ret
    exact ⟨rfl,hB⟩
  ·have he:ch n k=((pasc n.toNat k.toNat:Nat):Int):=by unfold ch;rw [if_neg h1,if_neg h2]
   rw [he];clear he
   obtain ⟨a,rfl⟩:=Int.eq_ofNat_of_zero_le n0
   obtain ⟨b,rfl⟩:=Int.eq_ofNat_of_zero_le (a:=k) (by omega)
   exact implChoose_in a b w (by omega) (by omega)
theorem specChoose_any (n k:Int) (w:World) :
 Calls Tryz.prog 73 #[.int .i64 n,.int .i64 k] w fun e w'=>e=.returned (.int .i64 (ch n k))∧w=w':=by
 have HI:=Lib.hid (fun W=>l6In_any n 0 40 W)
 cases hin:inB n 0 40
 ·have h1:=inB_not.1 hin
  have he:ch n k=-1:=by unfold ch;rw [if_pos (by omega)]
  rw [he];rw [hin] at HI;clear he hin h1
  go_enter Tryz.func73,Tryz.ntmps73
  go_wp2_with fail
  refine (HI.out _).mono ?_
  rintro e w1 ⟨rfl,rfl⟩
  go_wp2_with fail
  go_ret
  exact ⟨rfl,rfl⟩
 have hb:=inB_iff.1 hin
 rw [hin] at HI;clear hin
 by_cases h2:k<0∨n<k
 ·have he:ch n k=0:=by unfold ch;rw [if_neg (by omega),if_pos h2]
  rw [he];clear he
  rcases h2 with h2 | h2
  ·go_enter Tryz.func73,Tryz.ntmps73
   go_wp2_with fail
   refine (HI.out _).mono ?_
   rintro e w1 ⟨rfl,rfl⟩
   go_wp2_with fail
   go_ret
   exact ⟨rfl,rfl⟩
  ·have h3:¬k<0:=by omega
   go_enter Tryz.func73,Tryz.ntmps73
   go_wp2_with fail
   refine (HI.out _).mono ?_
   rintro e w1 ⟨rfl,rfl⟩
   go_wp2_with fail
   go_ret
   exact ⟨rfl,rfl⟩
 have he:ch n k=((pasc n.toNat k.toNat:Nat):Int):=by unfold ch;rw [if_neg (by omega),if_neg h2]
 rw [he];clear he
 obtain ⟨a,rfl⟩:=Int.eq_ofNat_of_zero_le hb.1
 obtain ⟨b,rfl⟩:=Int.eq_ofNat_of_zero_le (a:=k) (by omega)
 simp only [Int.toNat_natCast]
 have hn:a≤40:=by omega
 have hk:b≤a:=by omega
 have e2:decide (a<b)=false:=by simpa using hk
 have e3:¬((b:Int)<0):=by omega
 clear h2 hb
 go_enter Tryz.func73,Tryz.ntmps73
 go_wp2_with fail
 refine (HI.out _).mono ?_
 rintro e w1 ⟨rfl,rfl⟩
 go_wp2_with fail
 clear e2 e3
 go_loop [5,6] (fun v i=>∃(q:Nat),q≤b∧i=.int .i64 q∧v=.int .i64 ((pasc a q:Nat):Int)) (fun _ i=>b-(RowKit.intOf i).toNat)
 case atStart=>exact ⟨0,Nat.zero_le _,rfl,by rw [pasc_zero];rfl⟩
 case round =>
  obtain ⟨q,hq,rfl,rfl⟩:=hrel
  by_cases hlt:q<b
  ·have hb1:=pasc_40 hn q
   have hb2:=pasc_40 hn (q+1)
   have hst:=pasc_step a q (by omega)
   have HE:Hid (((pasc a q:Nat):Int)*((a:Int)-(q:Int))=((pasc a (q+1):Nat):Int)*((q:Int)+1)):=by
    unfold Hid
    have:((pasc a q*(a-q):Nat):Int)=((pasc a (q+1)*(q+1):Nat):Int):=by rw [hst]
    rw [Int.natCast_mul,Int.natCast_mul,Int.natCast_sub (by omega)] at this
    simpa using this
   have hbd:((pasc a q:Nat):Int)*((a:Int)-(q:Int))≤1099511627776*40:=Int.mul_le_mul (by omega) (by omega) (by omega) (by omega)
   have hbd0:0≤((pasc a q:Nat):Int)*((a:Int)-(q:Int)):=Int.mul_nonneg (by omega) (by omega)
   have u1:IntKind.i64.wrap (((pasc a q:Nat):Int)*((a:Int)-(q:Int)))=((pasc a (q+1):Nat):Int)*((q:Int)+1):=(IntWalk.i64_in _ (by omega)).trans HE.out
   have hq1:(((pasc a (q+1):Nat):Int)*((q:Int)+1)).tdiv ((q:Int)+1)=((pasc a (q+1):Nat):Int):=Int.mul_tdiv_cancel _ (by omega)
   have hq2:(((pasc a (q+1):Nat):Int)*((q:Int)+1)) / ((q:Int)+1)=((pasc a (q+1):Nat):Int):=Int.mul_ediv_cancel _ (by omega)
   clear hst hbd hbd0
   generalize pasc a q=x at *
   obtain ⟨y,hy⟩:∃y,pasc a (q+1)=y:=⟨_,rfl⟩
   rw [hy] at HE hb2 u1 hq1 hq2
   have HY:=Lib.hid hy;clear hy
   have HQ2:=Lib.hid hq2;have HQ1:=Lib.hid hq1;clear hq1 hq2
   go_wp2_with fail
   go_round
   case rel=>exact ⟨q+1,by omega,by go_num,by rw [HY.out];first | (rw [HQ2.out,IntWalk.wrap64_in _ ⟨by omega,by omega⟩]) | (rw [HQ1.out,IntWalk.wrap64_in _ ⟨by omega,by omega⟩])⟩
   case measure=>simp [RowKit.intOf];omega
  ·obtain rfl:q=b:=by omega
   go_wp2_with fail
   go_ret
   exact ⟨rfl,rfl⟩
end
section
open Go.RowKit
attribute [local go_sem ↓] Go.wp_at_zero Go.wp_at_succ
theorem tmod2 (x:Int):(x.tmod 2==0)=decide (x % 2=0):=by
 rw [Bool.eq_iff_iff,beq_iff_eq,decide_eq_true_eq]
 rw [←Int.dvd_iff_tmod_eq_zero,Int.dvd_iff_emod_eq_zero]
theorem has_any (j m:Int) (w:World) (h0:0≤j) (h1:j≤24) :
 Calls Tryz.prog 110 #[.int .i64 j,.int .i64 m] w fun e w'=>e=.returned (.bool (hasB j m))∧w=w':=by
 have hj:inB j 0 24=true:=inB_iff.2 ⟨h0,h1⟩
 obtain ⟨r,hr⟩:∃r,hasB j m=r:=⟨_,rfl⟩
 rw [hr]
 have HR:=Lib.hid hr;clear hr
 by_cases c1:-j≤m
 ·by_cases c2:m≤j
  ·have ht:=tmod2 (m-j)
   have he:r=decide ((m-j) % 2=0):=by
    rw [←HR.out]
    simp only [hasB,hj,inB_iff.2 ⟨c1,c2⟩,Bool.true_and]
    exact decide_eq_decide.2 (by omega)
   have HE:=Lib.hid he;clear he HR hj
   rw [←HE.out] at ht
   have u1:IntKind.i64.wrap (m-j)=m-j:=IntWalk.i64_in _ (by omega)
   go_enter Tryz.func110,Tryz.ntmps110
   go_wp2_with fail
   all_goals
    go_ret
    refine ⟨ret_bool ?_,rfl⟩
    first | rfl | (rw [HE.out];simp_all;done) | (rw [HE.out,←tmod2];simp_all;done) | (rw [HE.out,Bool.eq_iff_iff];simp;omega)
  ·have he:r=false:=by rw [←HR.out];simp [hasB,inB,c2]
   have HE:=Lib.hid he;clear he HR hj
   go_enter Tryz.func110,Tryz.ntmps110
   go_wp2_with fail
   all_goals
    go_ret
    exact ⟨ret_bool (by rw [HE.out]),rfl⟩
 ·have he:r=false:=by rw [←HR.out];simp [hasB,inB,c1]
  have HE:=Lib.hid he;clear he HR hj
  go_enter Tryz.func110,Tryz.ntmps110
  go_wp2_with fail
  all_goals
   go_ret
   exact ⟨ret_bool (by rw [HE.out]),rfl⟩
theorem hasB_no {j m:Int} (h:inB j 0 24=false):hasB j m=false:=by simp [hasB,h]
theorem implSpinHas_any (j m:Int) (w:World) :
 Calls Tryz.prog 66 #[.int .i64 j,.int .i64 m] w fun e w'=>e=.returned (.bool (hasB j m))∧w=w':=by
 have HV:=Lib.hid (fun W=>implSpinValid_any j W)
 cases hv:inB j 0 24
 ·have he:=hasB_no (m:=m) hv
  rw [he];rw [hv] at HV;clear he hv
  go_enter Tryz.func66,Tryz.ntmps66
  go_wp2_with fail
  refine (HV.out _).mono ?_
  rintro e w1 ⟨rfl,rfl⟩
  go_wp2_with fail
  go_ret
  exact ⟨rfl,rfl⟩
 ·have hb:=inB_iff.1 hv
  have HH:=Lib.hid (fun W=>has_any j m W hb.1 hb.2)
  rw [hv] at HV;clear hv
  generalize hasB j m=r at *
  go_enter Tryz.func66,Tryz.ntmps66
  go_wp2_with fail
  refine (HV.out _).mono ?_
  rintro e w1 ⟨rfl,rfl⟩
  go_wp2_with fail
  refine (HH.out _).mono ?_
  rintro e w1 ⟨rfl,rfl⟩
  go_wp2_with fail
  go_ret
  exact ⟨rfl,rfl⟩
theorem specSpinHas_any (j m:Int) (w:World) :
 Calls Tryz.prog 72 #[.int .i64 j,.int .i64 m] w fun e w'=>e=.returned (.bool (hasB j m))∧w=w':=by
 have HV:=Lib.hid (fun W=>specSpinValid_any j W)
 cases hv:inB j 0 24
 ·have he:=hasB_no (m:=m) hv
  rw [he];rw [hv] at HV;clear he hv
  go_enter Tryz.func72,Tryz.ntmps72
  go_wp2_with fail
  refine (HV.out _).mono ?_
  rintro e w1 ⟨rfl,rfl⟩
  go_wp2_with fail
  go_ret
  exact ⟨rfl,rfl⟩
 have hb:=inB_iff.1 hv
 have HL:=Lib.hid (fun W=>l6In_any m (-j) j W)
 cases hv2:inB m (-j) j
 ·have he:hasB j m=false:=by simp [hasB,hv2]
  rw [he];rw [hv] at HV;rw [hv2] at HL;clear he hv hv2
  go_enter Tryz.func72,Tryz.ntmps72
  go_wp2_with fail
  refine (HV.out _).mono ?_
  rintro e w1 ⟨rfl,rfl⟩
  go_wp2_with fail
  refine (HL.out _).mono ?_
  rintro e w1 ⟨rfl,rfl⟩
  go_wp2_with fail
  go_ret
  exact ⟨rfl,rfl⟩
 have hb2:=inB_iff.1 hv2
 have he:hasB j m=decide ((j+m) % 2=0):=by simp [hasB,hv,hv2]
 rw [he];rw [hv] at HV;rw [hv2] at HL;clear he hv hv2
 have u1:IntKind.i64.wrap (j+m)=j+m:=IntWalk.i64_in _ (by omega)
 go_enter Tryz.func72,Tryz.ntmps72
 go_wp2_with fail
 refine (HV.out _).mono ?_
 rintro e w1 ⟨rfl,rfl⟩
 go_wp2_with fail
 refine (HL.out _).mono ?_
 rintro e w1 ⟨rfl,rfl⟩
 go_wp2_with fail
 all_goals
  go_ret
  refine ⟨ret_bool ?_,rfl⟩
  first | rfl | (simp_all;done) | (rw [Bool.eq_iff_iff];simp;omega)
end
section
open Go.RowKit
attribute [local go_sem ↓] Go.wp_at_zero Go.wp_at_succ
theorem coupleSpin_any (j:Int) (w:World) :
 Calls Tryz.prog 141 #[.int .i64 j] w fun e w'=>e=.returned (.bool (inB j 0 6))∧w=w':=by
 go_enter Tryz.func141,Tryz.ntmps141
 go_wp2
 all_goals
  go_ret
  exact ⟨ret_bool (by simp [inB, *] <;> omega),rfl⟩
def tr6 (a b c:Int):Bool:=inB a 0 6 && inB b 0 6 && inB c 0 6 && triB a b c
theorem triadValid_any (a b c:Int) (w:World) :
 Calls Tryz.prog 109 #[.int .i64 a,.int .i64 b,.int .i64 c] w fun e w'=>e=.returned (.bool (tr6 a b c))∧w=w':=by
 obtain ⟨r,hr⟩:∃r,tr6 a b c=r:=⟨_,rfl⟩
 rw [hr]
 have HR:=Lib.hid hr;clear hr
 have H0:=Lib.hid (fun W=>coupleSpin_any a W)
 have H1:=Lib.hid (fun W=>coupleSpin_any b W)
 have H2:=Lib.hid (fun W=>coupleSpin_any c W)
 have H3:=Lib.hid (fun W=>SpinTriangle_all a b c W)
 cases h0:inB a 0 6
 ·have he:r=false:=by rw [←HR.out];simp [tr6,h0]
  have HE:=Lib.hid he;clear he HR
  rw [h0] at H0
  clear h0
  go_enter Tryz.func109,Tryz.ntmps109
  go_wp2_with fail
  refine (H0.out _).mono ?_
  rintro e w1 ⟨rfl,rfl⟩
  go_wp2_with fail
  go_ret
  exact ⟨ret_bool HE.out.symm,rfl⟩
 cases h1:inB b 0 6
 ·have he:r=false:=by rw [←HR.out];simp [tr6,h1]
  have HE:=Lib.hid he;clear he HR
  rw [h0] at H0
  rw [h1] at H1
  clear h0 h1
  go_enter Tryz.func109,Tryz.ntmps109
  go_wp2_with fail
  refine (H0.out _).mono ?_
  rintro e w1 ⟨rfl,rfl⟩
  go_wp2_with fail
  refine (H1.out _).mono ?_
  rintro e w1 ⟨rfl,rfl⟩
  go_wp2_with fail
  go_ret
  exact ⟨ret_bool HE.out.symm,rfl⟩
 cases h2:inB c 0 6
 ·have he:r=false:=by rw [←HR.out];simp [tr6,h2]
  have HE:=Lib.hid he;clear he HR
  rw [h0] at H0
  rw [h1] at H1
  rw [h2] at H2
  clear h0 h1 h2
  go_enter Tryz.func109,Tryz.ntmps109
  go_wp2_with fail
  refine (H0.out _).mono ?_
  rintro e w1 ⟨rfl,rfl⟩
  go_wp2_with fail
  refine (H1.out _).mono ?_
  rintro e w1 ⟨rfl,rfl⟩
  go_wp2_with fail
  refine (H2.out _).mono ?_
  rintro e w1 ⟨rfl,rfl⟩
  go_wp2_with fail
  go_ret
  exact ⟨ret_bool HE.out.symm,rfl⟩
 cases h3:triB a b c
 ·have he:r=false:=by rw [←HR.out];simp [tr6,h3]
  have HE:=Lib.hid he;clear he HR
  rw [h0] at H0
  rw [h1] at H1
  rw [h2] at H2
  rw [h3] at H3
  clear h0 h1 h2 h3
  go_enter Tryz.func109,Tryz.ntmps109
  go_wp2_with fail
  refine (H0.out _).mono ?_
  rintro e w1 ⟨rfl,rfl⟩
  go_wp2_with fail
  refine (H1.out _).mono ?_
  rintro e w1 ⟨rfl,rfl⟩
  go_wp2_with fail
  refine (H2.out _).mono ?_
  rintro e w1 ⟨rfl,rfl⟩
  go_wp2_with fail
  refine (H3.out _).mono ?_
  rintro e w1 ⟨rfl,rfl⟩
  go_wp2_with fail
  go_ret
  exact ⟨ret_bool HE.out.symm,rfl⟩
 have he:r=true:=by rw [←HR.out];simp [tr6,h0,h1,h2,h3]
 have HE:=Lib.hid he;clear he HR
 rw [h0] at H0
 rw [h1] at H1
 rw [h2] at H2
 rw [h3] at H3
 clear h0 h1 h2 h3
 go_enter Tryz.func109,Tryz.ntmps109
 go_wp2_with fail
 refine (H0.out _).mono ?_
 rintro e w1 ⟨rfl,rfl⟩
 go_wp2_with fail
 refine (H1.out _).mono ?_
 rintro e w1 ⟨rfl,rfl⟩
 go_wp2_with fail
 refine (H2.out _).mono ?_
 rintro e w1 ⟨rfl,rfl⟩
 go_wp2_with fail
 refine (H3.out _).mono ?_
 rintro e w1 ⟨rfl,rfl⟩
 go_wp2_with fail
 go_ret
 exact ⟨ret_bool HE.out.symm,rfl⟩
theorem cplB_tr (a b c m n:Int):cplB a b c m n=(tr6 a b c && hasB a m && hasB b n):=rfl
theorem coupleValid_any (a b c m n:Int) (w:World) :
 Calls Tryz.prog 65 #[.int .i64 a,.int .i64 b,.int .i64 c,.int .i64 m,.int .i64 n] w fun e w'=>e=.returned (.bool (cplB a b c m n))∧w=w':=by
 obtain ⟨r,hr⟩:∃r,cplB a b c m n=r:=⟨_,rfl⟩
 rw [hr]
 have HR:=Lib.hid hr;clear hr
 have H0:=Lib.hid (fun W=>triadValid_any a b c W)
 have H1:=Lib.hid (fun W=>implSpinHas_any a m W)
 have H2:=Lib.hid (fun W=>implSpinHas_any b n W)
 cases h0:tr6 a b c
 ·have he:r=false:=by rw [←HR.out];simp [cplB_tr,h0]
  have HE:=Lib.hid he;clear he HR
  rw [h0] at H0
  clear h0
  go_enter Tryz.func65,Tryz.ntmps65
  go_wp2_with fail
  refine (H0.out _).mono ?_
  rintro e w1 ⟨rfl,rfl⟩
  go_wp2_with fail
  go_ret
  exact ⟨ret_bool HE.out.symm,rfl⟩
 cases h1:hasB a m
 ·have he:r=false:=by rw [←HR.out];simp [cplB_tr,h1]
  have HE:=Lib.hid he;clear he HR
  rw [h0] at H0
  rw [h1] at H1
  clear h0 h1
  go_enter Tryz.func65,Tryz.ntmps65
  go_wp2_with fail
  refine (H0.out _).mono ?_
  rintro e w1 ⟨rfl,rfl⟩
  go_wp2_with fail
  refine (H1.out _).mono ?_
  rintro e w1 ⟨rfl,rfl⟩
  go_wp2_with fail
  go_ret
  exact ⟨ret_bool HE.out.symm,rfl⟩
 cases h2:hasB b n
 ·have he:r=false:=by rw [←HR.out];simp [cplB_tr,h2]
  have HE:=Lib.hid he;clear he HR
  rw [h0] at H0
  rw [h1] at H1
  rw [h2] at H2
  clear h0 h1 h2
  go_enter Tryz.func65,Tryz.ntmps65
  go_wp2_with fail
  refine (H0.out _).mono ?_
  rintro e w1 ⟨rfl,rfl⟩
  go_wp2_with fail
  refine (H1.out _).mono ?_
  rintro e w1 ⟨rfl,rfl⟩
  go_wp2_with fail
  refine (H2.out _).mono ?_
  rintro e w1 ⟨rfl,rfl⟩
  go_wp2_with fail
  go_ret
  exact ⟨ret_bool HE.out.symm,rfl⟩
 have he:r=true:=by rw [←HR.out];simp [cplB_tr,h0,h1,h2]
 have HE:=Lib.hid he;clear he HR
 rw [h0] at H0
 rw [h1] at H1
 rw [h2] at H2
 clear h0 h1 h2
 go_enter Tryz.func65,Tryz.ntmps65
 go_wp2_with fail
 refine (H0.out _).mono ?_
 rintro e w1 ⟨rfl,rfl⟩
 go_wp2_with fail
 refine (H1.out _).mono ?_
 rintro e w1 ⟨rfl,rfl⟩
 go_wp2_with fail
 refine (H2.out _).mono ?_
 rintro e w1 ⟨rfl,rfl⟩
 go_wp2_with fail
 go_ret
 exact ⟨ret_bool HE.out.symm,rfl⟩
theorem l21Ok_any (a b c m n:Int) (w:World) :
 Calls Tryz.prog 71 #[.int .i64 a,.int .i64 b,.int .i64 c,.int .i64 m,.int .i64 n] w fun e w'=>e=.returned (.bool (cplB a b c m n))∧w=w':=by
 obtain ⟨r,hr⟩:∃r,cplB a b c m n=r:=⟨_,rfl⟩
 rw [hr]
 have HR:=Lib.hid hr;clear hr
 have H0:=Lib.hid (fun W=>l6In_any a 0 6 W)
 have H1:=Lib.hid (fun W=>l6In_any b 0 6 W)
 have H2:=Lib.hid (fun W=>l6In_any c 0 6 W)
 have H3:=Lib.hid (fun W=>specTriangle_all a b c W)
 have H4:=Lib.hid (fun W=>specSpinHas_any a m W)
 have H5:=Lib.hid (fun W=>specSpinHas_any b n W)
 cases h0:inB a 0 6
 ·have he:r=false:=by rw [←HR.out];simp [cplB,h0]
  have HE:=Lib.hid he;clear he HR
  rw [h0] at H0
  clear h0
  go_enter Tryz.func71,Tryz.ntmps71
  go_wp2_with fail
  refine (H0.out _).mono ?_
  rintro e w1 ⟨rfl,rfl⟩
  go_wp2_with fail
  go_ret
  exact ⟨ret_bool HE.out.symm,rfl⟩
 cases h1:inB b 0 6
 ·have he:r=false:=by rw [←HR.out];simp [cplB,h1]
  have HE:=Lib.hid he;clear he HR
  rw [h0] at H0
  rw [h1] at H1
  clear h0 h1
  go_enter Tryz.func71,Tryz.ntmps71
  go_wp2_with fail
  refine (H0.out _).mono ?_
  rintro e w1 ⟨rfl,rfl⟩
  go_wp2_with fail
  refine (H1.out _).mono ?_
  rintro e w1 ⟨rfl,rfl⟩
  go_wp2_with fail
  go_ret
  exact ⟨ret_bool HE.out.symm,rfl⟩
 cases h2:inB c 0 6
 ·have he:r=false:=by rw [←HR.out];simp [cplB,h2]
  have HE:=Lib.hid he;clear he HR
  rw [h0] at H0
  rw [h1] at H1
  rw [h2] at H2
  clear h0 h1 h2
  go_enter Tryz.func71,Tryz.ntmps71
  go_wp2_with fail
  refine (H0.out _).mono ?_
  rintro e w1 ⟨rfl,rfl⟩
  go_wp2_with fail
  refine (H1.out _).mono ?_
  rintro e w1 ⟨rfl,rfl⟩
  go_wp2_with fail
  refine (H2.out _).mono ?_
  rintro e w1 ⟨rfl,rfl⟩
  go_wp2_with fail
  go_ret
  exact ⟨ret_bool HE.out.symm,rfl⟩
 cases h3:triB a b c
 ·have he:r=false:=by rw [←HR.out];simp [cplB,h3]
  have HE:=Lib.hid he;clear he HR
  rw [h0] at H0
  rw [h1] at H1
  rw [h2] at H2
  rw [h3] at H3
  clear h0 h1 h2 h3
  go_enter Tryz.func71,Tryz.ntmps71
  go_wp2_with fail
  refine (H0.out _).mono ?_
  rintro e w1 ⟨rfl,rfl⟩
  go_wp2_with fail
  refine (H1.out _).mono ?_
  rintro e w1 ⟨rfl,rfl⟩
  go_wp2_with fail
  refine (H2.out _).mono ?_
  rintro e w1 ⟨rfl,rfl⟩
  go_wp2_with fail
  refine (H3.out _).mono ?_
  rintro e w1 ⟨rfl,rfl⟩
  go_wp2_with fail
  go_ret
  exact ⟨ret_bool HE.out.symm,rfl⟩
 cases h4:hasB a m
 ·have he:r=false:=by rw [←HR.out];simp [cplB,h4]
  have HE:=Lib.hid he;clear he HR
  rw [h0] at H0
  rw [h1] at H1
  rw [h2] at H2
  rw [h3] at H3
  rw [h4] at H4
  clear h0 h1 h2 h3 h4
  go_enter Tryz.func71,Tryz.ntmps71
  go_wp2_with fail
  refine (H0.out _).mono ?_
  rintro e w1 ⟨rfl,rfl⟩
  go_wp2_with fail
  refine (H1.out _).mono ?_
  rintro e w1 ⟨rfl,rfl⟩
  go_wp2_with fail
  refine (H2.out _).mono ?_
  rintro e w1 ⟨rfl,rfl⟩
  go_wp2_with fail
  refine (H3.out _).mono ?_
  rintro e w1 ⟨rfl,rfl⟩
  go_wp2_with fail
  refine (H4.out _).mono ?_
  rintro e w1 ⟨rfl,rfl⟩
  go_wp2_with fail
  go_ret
  exact ⟨ret_bool HE.out.symm,rfl⟩
 cases h5:hasB b n
 ·have he:r=false:=by rw [←HR.out];simp [cplB,h5]
  have HE:=Lib.hid he;clear he HR
  rw [h0] at H0
  rw [h1] at H1
  rw [h2] at H2
  rw [h3] at H3
  rw [h4] at H4
  rw [h5] at H5
  clear h0 h1 h2 h3 h4 h5
  go_enter Tryz.func71,Tryz.ntmps71
  go_wp2_with fail
  refine (H0.out _).mono ?_
  rintro e w1 ⟨rfl,rfl⟩
  go_wp2_with fail
  refine (H1.out _).mono ?_
  rintro e w1 ⟨rfl,rfl⟩
  go_wp2_with fail
  refine (H2.out _).mono ?_
  rintro e w1 ⟨rfl,rfl⟩
  go_wp2_with fail
  refine (H3.out _).mono ?_
  rintro e w1 ⟨rfl,rfl⟩
  go_wp2_with fail
  refine (H4.out _).mono ?_
  rintro e w1 ⟨rfl,rfl⟩
  go_wp2_with fail
  refine (H5.out _).mono ?_
  rintro e w1 ⟨rfl,rfl⟩
  go_wp2_with fail
  go_ret
  exact ⟨ret_bool HE.out.symm,rfl⟩
 have he:r=true:=by rw [←HR.out];simp [cplB,h0,h1,h2,h3,h4,h5]
 have HE:=Lib.hid he;clear he HR
 rw [h0] at H0
 rw [h1] at H1
 rw [h2] at H2
 rw [h3] at H3
 rw [h4] at H4
 rw [h5] at H5
 clear h0 h1 h2 h3 h4 h5
 go_enter Tryz.func71,Tryz.ntmps71
 go_wp2_with fail
 refine (H0.out _).mono ?_
 rintro e w1 ⟨rfl,rfl⟩
 go_wp2_with fail
 refine (H1.out _).mono ?_
 rintro e w1 ⟨rfl,rfl⟩
 go_wp2_with fail
 refine (H2.out _).mono ?_
 rintro e w1 ⟨rfl,rfl⟩
 go_wp2_with fail
 refine (H3.out _).mono ?_
 rintro e w1 ⟨rfl,rfl⟩
 go_wp2_with fail
 refine (H4.out _).mono ?_
 rintro e w1 ⟨rfl,rfl⟩
 go_wp2_with fail
 refine (H5.out _).mono ?_
 rintro e w1 ⟨rfl,rfl⟩
 go_wp2_with fail
 go_ret
 exact ⟨ret_bool HE.out.symm,rfl⟩
end
section
open Go.RowKit
attribute [local go_sem ↓] Go.wp_at_zero Go.wp_at_succ
theorem cSum_step (a b c m n:Int) (k:Nat):cSum a b c m n (k+1)=cSum a b c m n k+(if k % 2=1 then -(cTm a b c m n k) else cTm a b c m n k):=rfl
theorem implCoupleSum_any (a b c m n:Int) (w:World) :
 Calls Tryz.prog 70 #[.int .i64 a,.int .i64 b,.int .i64 c,.int .i64 m,.int .i64 n] w fun e w'=>e=.returned (.int .i64 (csR a b c m n))∧Below w.heap.size w w':=by
 have HV:=Lib.hid (fun W=>coupleValid_any a b c m n W)
 have HH:=Lib.hid (fun W=>implSpinHas_any c (m+n) W)
 have hB:=Below.refl w.heap.size w
 cases hv:cplB a b c m n
 ·have he:csR a b c m n=0:=by unfold csR;rw [hv];simp
  rw [he];rw [hv] at HV;clear he hv
  go_enter Tryz.func70,Tryz.ntmps70
  go_wp2_with fail
  refine (HV.out _).mono ?_
  rintro e w1 ⟨rfl,rfl⟩
  go_wp2_with fail
  go_ret
  exact ⟨rfl,hB⟩
 obtain ⟨⟨a6,b6,c6⟩,h4,h5,h6⟩:=cplB_iff.1 hv
 have h7:=triB_iff.1 h4
 have h8:=hasB_iff.1 h5
 have h9:=hasB_iff.1 h6
 have um:IntKind.i64.wrap (m+n)=m+n:=IntWalk.i64_in _ (by omega)
 cases hh:hasB c (m+n)
 ·have he:csR a b c m n=0:=by unfold csR;rw [hh];simp
  rw [he];rw [hv] at HV;rw [hh] at HH;clear he hv hh h4 h5 h6
  go_enter Tryz.func70,Tryz.ntmps70
  go_wp2_with fail
  refine (HV.out _).mono ?_
  rintro e w1 ⟨rfl,rfl⟩
  go_wp2_with fail
  refine (HH.out _).mono ?_
  rintro e w1 ⟨rfl,rfl⟩
  go_wp2_with fail
  go_ret
  exact ⟨rfl,hB⟩
 have he:csR a b c m n=cSum a b c m n (((a+b-c) / 2).toNat+1):=by unfold csR;rw [hv,hh];simp
 rw [he];rw [hv] at HV;rw [hh] at HH;clear he hv hh h4 h5 h6
 obtain ⟨X,hX⟩:∃X:Nat,(a+b-c) / 2=(X:Int):=⟨((a+b-c) / 2).toNat,by omega⟩
 obtain ⟨Y,hY⟩:∃Y,(a-b+c) / 2=Y:=⟨_,rfl⟩
 obtain ⟨Z,hZ⟩:∃Z,(b-a+c) / 2=Z:=⟨_,rfl⟩
 obtain ⟨p,hp⟩:∃p,(a-m) / 2=p:=⟨_,rfl⟩
 obtain ⟨q,hq⟩:∃q,(b+n) / 2=q:=⟨_,rfl⟩
 have HTM:Hid (∀k:Nat,cTm a b c m n k=ch X k*ch Y (p-k)*ch Z (q-k)):=fun k=>by unfold cTm;rw [hX,hY,hZ,hp,hq]
 have HSB:Hid (∀k:Nat,-(262144*(k:Int))≤cSum a b c m n k∧cSum a b c m n k≤262144*(k:Int)):=cSum_bd (fun k=>(mul3_bd (ch_tiny (by omega) (by omega)) (ch_tiny (by omega) (by omega)) (ch_tiny (by omega) (by omega))).2)
 rw [show ((a+b-c) / 2).toNat=X by omega]
 have X6:X≤6:=by omega
 have Y6:0≤Y∧Y≤6:=by omega
 have Z6:0≤Z∧Z≤6:=by omega
 have p6:0≤p∧p≤6:=by omega
 have q6:0≤q∧q≤6:=by omega
 have HS:=Lib.hid (cSum_step a b c m n)
 have HC:=Lib.hid (fun n k W=>implChoose_any n k W)
 go_enter Tryz.func70,Tryz.ntmps70
 go_wp2_with fail
 refine (HV.out _).mono ?_
 rintro e w1 ⟨rfl,rfl⟩
 go_wp2_with fail
 refine (HH.out _).mono ?_
 rintro e w1 ⟨rfl,rfl⟩
 go_wp2_with fail
 simp only [hX,hY,hZ]
 clear hX hY hZ
 go_loopw [14,15,52] (fun t s i wr=>∃k:Nat,k≤X+1∧i=.int .i64 k∧t=.int .i64 (cSum a b c m n k)∧s=.int .i64 (if k % 2=1 then -1 else 1)∧Hid (Below w.heap.size w wr)) (fun _ _ i _=>X+1-(RowKit.intOf i).toNat)
 case atStart=>exact ⟨0,Nat.zero_le _,rfl,rfl,rfl,hB⟩
 case round =>
  clear hB
  obtain ⟨k,hk,rfl,rfl,rfl,HB⟩:=hrel
  have hsb:=HSB.out k
  by_cases hlt:k<X+1
  ·obtain ⟨u,hu⟩:∃u,ch X k=u:=⟨_,rfl⟩
   obtain ⟨v,hv⟩:∃v,ch Y (p-k)=v:=⟨_,rfl⟩
   obtain ⟨z,hz⟩:∃z,ch Z (q-k)=z:=⟨_,rfl⟩
   have bu:=ch_tiny (n:=X) (k:=k) (by omega) (by omega)
   have bv:=ch_tiny (n:=Y) (k:=p-k) (by omega) (by omega)
   have bz:=ch_tiny (n:=Z) (k:=q-k) (by omega) (by omega)
   have C1:=Lib.hid (fun W=>HC.out X k W)
   have C2:=Lib.hid (fun W=>HC.out Y (p-k) W)
   have C3:=Lib.hid (fun W=>HC.out Z (q-k) W)
   rw [hu] at bu C1;rw [hv] at bv C2;rw [hz] at bz C3
   have HN:Hid (cSum a b c m n (k+1)=cSum a b c m n k+(if k % 2=1 then -(u*v*z) else u*v*z)):=by unfold Hid;rw [HS.out,HTM.out,hu,hv,hz]
   clear hu hv hz
   obtain ⟨⟨m1,m2⟩,m3,m4⟩:=mul3_bd bu bv bz
   generalize cSum a b c m n k=t at *
   by_cases hpar:k % 2=1
   ·rw [if_pos hpar] at HN
    rw [if_pos hpar]
    have hp2:¬((k+1) % 2=1):=by omega
    have HP2:=Lib.hid hp2;clear hp2 hpar
    have j1:(k:Int)<(X:Int)+1:=by omega
    have j2:IntKind.i64.wrap (p-k)=p-k:=IntWalk.i64_in _ (by omega)
    have j3:IntKind.i64.wrap (q-k)=q-k:=IntWalk.i64_in _ (by omega)
    go_wp2_with fail
    refine (C1.out _).mono ?_
    rintro e w2 ⟨rfl,hb1⟩
    have HB1:=Lib.hid (bel_sub HB.out hb1);clear hb1
    go_wp2_with fail
    refine (C2.out _).mono ?_
    rintro e w3 ⟨rfl,hb2⟩
    have HB2:=Lib.hid (bel_sub HB1.out hb2);clear hb2
    go_wp2_with fail
    refine (C3.out _).mono ?_
    rintro e w4 ⟨rfl,hb3⟩
    have HB3:=Lib.hid (bel_sub HB2.out hb3);clear hb3
    go_wp2_with fail
    go_roundw
    case rel=>exact ⟨k+1,by omega,by go_num,by first | (rw [HN.out];done) | (rw [HN.out,Int.neg_mul,IntWalk.wrap64_in (-(u*v)) ⟨by omega,by omega⟩,Int.neg_mul,IntWalk.wrap64_in (-(u*v*z)) ⟨by omega,by omega⟩,IntWalk.wrap64_in _ ⟨by omega,by omega⟩];done),by first | (rw [if_neg HP2.out];done) | (rw [if_neg HP2.out];first | rfl | go_num),HB3.out⟩
    case measure=>simp [RowKit.intOf];omega
   ·rw [if_neg hpar] at HN
    rw [if_neg hpar]
    have hp2:(k+1) % 2=1:=by omega
    have HP2:=Lib.hid hp2;clear hp2 hpar
    have j1:(k:Int)<(X:Int)+1:=by omega
    have j2:IntKind.i64.wrap (p-k)=p-k:=IntWalk.i64_in _ (by omega)
    have j3:IntKind.i64.wrap (q-k)=q-k:=IntWalk.i64_in _ (by omega)
    go_wp2_with fail
    refine (C1.out _).mono ?_
    rintro e w2 ⟨rfl,hb1⟩
    have HB1:=Lib.hid (bel_sub HB.out hb1);clear hb1
    go_wp2_with fail
    refine (C2.out _).mono ?_
    rintro e w3 ⟨rfl,hb2⟩
    have HB2:=Lib.hid (bel_sub HB1.out hb2);clear hb2
    go_wp2_with fail
    refine (C3.out _).mono ?_
    rintro e w4 ⟨rfl,hb3⟩
    have HB3:=Lib.hid (bel_sub HB2.out hb3);clear hb3
    go_wp2_with fail
    go_roundw
    case rel=>exact ⟨k+1,by omega,by go_num,by first | (rw [HN.out];done) | (rw [HN.out,Int.neg_mul,IntWalk.wrap64_in (-(u*v)) ⟨by omega,by omega⟩,Int.neg_mul,IntWalk.wrap64_in (-(u*v*z)) ⟨by omega,by omega⟩,IntWalk.wrap64_in _ ⟨by omega,by omega⟩];done),by first | (rw [if_pos HP2.out];done) | (rw [if_pos HP2.out];first | rfl | go_num),HB3.out⟩
    case measure=>simp [RowKit.intOf];omega
  ·obtain rfl:k=X+1:=by omega
   have j1:¬(((X+1:Nat):Int)<(X:Int)+1):=by omega
   have j2:¬((X:Int)+1<(X:Int)+1):=by omega
   have j3:¬((X:Int)+1≤(X:Int)):=by omega
   have j4:¬(((X+1:Nat):Int)≤(X:Int)):=by omega
   clear hlt
   go_wp2_with fail
   all_goals
    go_ret
    exact ⟨rfl,HB.out⟩
theorem specCoupleSum_any (a b c m n:Int) (w:World) :
 Calls Tryz.prog 75 #[.int .i64 a,.int .i64 b,.int .i64 c,.int .i64 m,.int .i64 n] w fun e w'=>e=.returned (.int .i64 (csR a b c m n))∧Below w.heap.size w w':=by
 have HV:=Lib.hid (fun W=>l21Ok_any a b c m n W)
 have HH:=Lib.hid (fun W=>specSpinHas_any c (m+n) W)
 have hB:=Below.refl w.heap.size w
 cases hv:cplB a b c m n
 ·have he:csR a b c m n=0:=by unfold csR;rw [hv];simp
  rw [he];rw [hv] at HV;clear he hv
  go_enter Tryz.func75,Tryz.ntmps75
  go_wp2_with fail
  refine (HV.out _).mono ?_
  rintro e w1 ⟨rfl,rfl⟩
  go_wp2_with fail
  go_ret
  exact ⟨rfl,hB⟩
 obtain ⟨⟨a6,b6,c6⟩,h4,h5,h6⟩:=cplB_iff.1 hv
 have h7:=triB_iff.1 h4
 have h8:=hasB_iff.1 h5
 have h9:=hasB_iff.1 h6
 have um:IntKind.i64.wrap (m+n)=m+n:=IntWalk.i64_in _ (by omega)
 cases hh:hasB c (m+n)
 ·have he:csR a b c m n=0:=by unfold csR;rw [hh];simp
  rw [he];rw [hv] at HV;rw [hh] at HH;clear he hv hh h4 h5 h6
  go_enter Tryz.func75,Tryz.ntmps75
  go_wp2_with fail
  refine (HV.out _).mono ?_
  rintro e w1 ⟨rfl,rfl⟩
  go_wp2_with fail
  refine (HH.out _).mono ?_
  rintro e w1 ⟨rfl,rfl⟩
  go_wp2_with fail
  go_ret
  exact ⟨rfl,hB⟩
 have he:csR a b c m n=cSum a b c m n (((a+b-c) / 2).toNat+1):=by unfold csR;rw [hv,hh];simp
 rw [he];rw [hv] at HV;rw [hh] at HH;clear he hv hh h4 h5 h6
 obtain ⟨X,hX⟩:∃X:Nat,(a+b-c) / 2=(X:Int):=⟨((a+b-c) / 2).toNat,by omega⟩
 obtain ⟨Y,hY⟩:∃Y,(a-b+c) / 2=Y:=⟨_,rfl⟩
 obtain ⟨Z,hZ⟩:∃Z,(b-a+c) / 2=Z:=⟨_,rfl⟩
 obtain ⟨p,hp⟩:∃p,(a-m) / 2=p:=⟨_,rfl⟩
 obtain ⟨q,hq⟩:∃q,(b+n) / 2=q:=⟨_,rfl⟩
 have HTM:Hid (∀k:Nat,cTm a b c m n k=ch X k*ch Y (p-k)*ch Z (q-k)):=fun k=>by unfold cTm;rw [hX,hY,hZ,hp,hq]
 have HSB:Hid (∀k:Nat,-(262144*(k:Int))≤cSum a b c m n k∧cSum a b c m n k≤262144*(k:Int)):=cSum_bd (fun k=>(mul3_bd (ch_tiny (by omega) (by omega)) (ch_tiny (by omega) (by omega)) (ch_tiny (by omega) (by omega))).2)
 rw [show ((a+b-c) / 2).toNat=X by omega]
 have X6:X≤6:=by omega
 have Y6:0≤Y∧Y≤6:=by omega
 have Z6:0≤Z∧Z≤6:=by omega
 have p6:0≤p∧p≤6:=by omega
 have q6:0≤q∧q≤6:=by omega
 have HS:=Lib.hid (cSum_step a b c m n)
 have HC:=Lib.hid (fun n k W=>specChoose_any n k W)
 go_enter Tryz.func75,Tryz.ntmps75
 go_wp2_with fail
 refine (HV.out _).mono ?_
 rintro e w1 ⟨rfl,rfl⟩
 go_wp2_with fail
 refine (HH.out _).mono ?_
 rintro e w1 ⟨rfl,rfl⟩
 go_wp2_with fail
 simp only [hX,hY,hZ]
 clear hX hY hZ
 go_loopw [14,15] (fun t i wr=>∃k:Nat,k≤X+1∧i=.int .i64 k∧t=.int .i64 (cSum a b c m n k)∧Hid (Below w.heap.size w wr)) (fun _ i _=>X+1-(RowKit.intOf i).toNat)
 case atStart=>exact ⟨0,Nat.zero_le _,rfl,rfl,hB⟩
 case round =>
  clear hB
  obtain ⟨k,hk,rfl,rfl,HB⟩:=hrel
  have hsb:=HSB.out k
  by_cases hlt:k<X+1
  ·obtain ⟨u,hu⟩:∃u,ch X k=u:=⟨_,rfl⟩
   obtain ⟨v,hv⟩:∃v,ch Y (p-k)=v:=⟨_,rfl⟩
   obtain ⟨z,hz⟩:∃z,ch Z (q-k)=z:=⟨_,rfl⟩
   have bu:=ch_tiny (n:=X) (k:=k) (by omega) (by omega)
   have bv:=ch_tiny (n:=Y) (k:=p-k) (by omega) (by omega)
   have bz:=ch_tiny (n:=Z) (k:=q-k) (by omega) (by omega)
   have C1:=Lib.hid (fun W=>HC.out X k W)
   have C2:=Lib.hid (fun W=>HC.out Y (p-k) W)
   have C3:=Lib.hid (fun W=>HC.out Z (q-k) W)
   rw [hu] at bu C1;rw [hv] at bv C2;rw [hz] at bz C3
   have HN:Hid (cSum a b c m n (k+1)=cSum a b c m n k+(if k % 2=1 then -(u*v*z) else u*v*z)):=by unfold Hid;rw [HS.out,HTM.out,hu,hv,hz]
   clear hu hv hz
   obtain ⟨⟨m1,m2⟩,m3,m4⟩:=mul3_bd bu bv bz
   generalize cSum a b c m n k=t at *
   by_cases hpar:k % 2=1
   ·rw [if_pos hpar] at HN
    have e1:((k:Int) % 2==1)=true:=by simp;omega
    clear hpar
    have j1:(k:Int)<(X:Int)+1:=by omega
    have j2:IntKind.i64.wrap (p-k)=p-k:=IntWalk.i64_in _ (by omega)
    have j3:IntKind.i64.wrap (q-k)=q-k:=IntWalk.i64_in _ (by omega)
    go_wp2_with fail
    refine (C1.out _).mono ?_
    rintro e w2 ⟨rfl,rfl⟩
    go_wp2_with fail
    refine (C2.out _).mono ?_
    rintro e w2 ⟨rfl,rfl⟩
    go_wp2_with fail
    refine (C3.out _).mono ?_
    rintro e w2 ⟨rfl,rfl⟩
    go_wp2_with fail
    go_roundw
    case rel=>exact ⟨k+1,by omega,by go_num,by first | (rw [HN.out];done) | (rw [HN.out,Int.neg_mul,IntWalk.wrap64_in (-(u*v)) ⟨by omega,by omega⟩,Int.neg_mul,IntWalk.wrap64_in (-(u*v*z)) ⟨by omega,by omega⟩,IntWalk.wrap64_in _ ⟨by omega,by omega⟩];done),HB.out⟩
    case measure=>simp [RowKit.intOf];omega
   ·rw [if_neg hpar] at HN
    have e1:((k:Int) % 2==1)=false:=by simp;omega
    clear hpar
    have j1:(k:Int)<(X:Int)+1:=by omega
    have j2:IntKind.i64.wrap (p-k)=p-k:=IntWalk.i64_in _ (by omega)
    have j3:IntKind.i64.wrap (q-k)=q-k:=IntWalk.i64_in _ (by omega)
    go_wp2_with fail
    refine (C1.out _).mono ?_
    rintro e w2 ⟨rfl,rfl⟩
    go_wp2_with fail
    refine (C2.out _).mono ?_
    rintro e w2 ⟨rfl,rfl⟩
    go_wp2_with fail
    refine (C3.out _).mono ?_
    rintro e w2 ⟨rfl,rfl⟩
    go_wp2_with fail
    go_roundw
    case rel=>exact ⟨k+1,by omega,by go_num,by first | (rw [HN.out];done) | (rw [HN.out,Int.neg_mul,IntWalk.wrap64_in (-(u*v)) ⟨by omega,by omega⟩,Int.neg_mul,IntWalk.wrap64_in (-(u*v*z)) ⟨by omega,by omega⟩,IntWalk.wrap64_in _ ⟨by omega,by omega⟩];done),HB.out⟩
    case measure=>simp [RowKit.intOf];omega
  ·obtain rfl:k=X+1:=by omega
   have j1:¬(((X+1:Nat):Int)<(X:Int)+1):=by omega
   have j2:¬((X:Int)+1<(X:Int)+1):=by omega
   have j3:¬((X:Int)+1≤(X:Int)):=by omega
   have j4:¬(((X+1:Nat):Int)≤(X:Int)):=by omega
   clear hlt
   go_wp2_with fail
   all_goals
    go_ret
    exact ⟨rfl,HB.out⟩
end
section
open Go.RowKit
attribute [local go_sem ↓] Go.wp_at_zero Go.wp_at_succ
abbrev RT:=Int × T2
def rtV (r:RT):Value:=.agg #[.int .i64 r.1,.int .i64 r.2.1,.int .i64 r.2.2]
def rtO (r:RT × Bool):Value:=.tuple #[rtV r.1,.bool r.2]
def sgI (n:Int):Int:=if n<0 then -1 else if 0<n then 1 else 0
def rootOk (n num den:Int):Bool:=(inB n (-1000000000) 1000000000 && inB num 1 4000000000000000000 && inB den 1 4000000000000000000) && (decide (n=0) || decide (num≤4000000000000000000 / (n*n)))
def rootOf (n num den:Int):RT × Bool:=if rootOk n num den=true∧(ratOf (n*n*num) den).2=true then ((sgI n,(ratOf (n*n*num) den).1),true) else ((0,(0,0)),false)
theorem sgI_cmp (n:Int):cmpI n 0=sgI n:=rfl
theorem results_rt {P:Program} {fn:Func} {p t1:Tmp} {ty:TypeId} {cs:Array Value} (h:fn.results=#[.cell p ty,.tmp t1]) (tmps:Array Value) (w:World) (g:Nat) (t:TypeId) (d:TypeDesc)
 (hp:tmps.getD p undef=.pointer (some ⟨g,0,none⟩)) (hg:Blk w g t cs)
 (hu:P.underlying ty=some d) (hd:(match d with | .struct _ | .array _ _=>true | _=>false)=true) (hi:(P.info? ty).map (·.size)=some cs.size) :
 (results fn tmps).run P w=.ok (.tuple #[.agg cs,tmps.getD t1 undef]) w:=results_ct0 h tmps w g t d hp hg hu hd hi
theorem sq_bd {n:Int} (h:-1000000000≤n∧n≤1000000000) (h0:n≠0):1≤n*n∧n*n≤1000000000000000000:=by
 have h1:=mul_bd h h
 have h2:0≤n*n:=by rcases Int.le_total 0 n with hn | hn;exact Int.mul_nonneg hn hn;exact Int.mul_nonneg_of_nonpos_of_nonpos hn hn
 have h3:n*n≠0:=fun h=>h0 (by rcases Int.mul_eq_zero.1 h with h | h <;> exact h)
 omega
theorem big_mul {q m:Int} (hq:1≤q) (hm:0≤m) (h:m≤4000000000000000000 / q):0≤q*m∧q*m≤4000000000000000000:=by
 refine ⟨Int.mul_nonneg (by omega) hm,?_⟩
 have h1:q*m≤q*(4000000000000000000 / q):=Int.mul_le_mul_of_nonneg_left h (by omega)
 have h2:q*(4000000000000000000 / q)≤4000000000000000000:=Int.mul_ediv_self_le (by omega)
 omega
theorem l4Sign_any (n:Int) (w:World):Calls Tryz.prog 112 #[.int .i64 n] w fun e w'=>e=.returned (.int .i64 (sgI n))∧w'=w:=by
 by_cases h1:n<0
 ·go_enter Tryz.func112,Tryz.ntmps112
  go_wp2_with fail
  go_ret
  exact ⟨ret_int (by unfold sgI;rw [if_pos h1]),rfl⟩
 ·by_cases h2:0<n
  ·go_enter Tryz.func112,Tryz.ntmps112
   go_wp2_with fail
   go_ret
   exact ⟨ret_int (by unfold sgI;rw [if_neg (by omega),if_pos h2]),rfl⟩
  ·go_enter Tryz.func112,Tryz.ntmps112
   go_wp2_with fail
   go_ret
   exact ⟨ret_int (by unfold sgI;rw [if_neg (by omega),if_neg (by omega)]),rfl⟩
theorem rootOf_bad {n num den:Int} (h:rootOk n num den=false):rootOf n num den=((0,(0,0)),false):=by unfold rootOf;rw [h,if_neg (by simp)]
theorem implRootOf_any (n num den:Int) (w:World) :
 Calls Tryz.prog 69 #[.int .i64 n,.int .i64 num,.int .i64 den] w fun e w'=>e=.returned (rtO (rootOf n num den))∧Below w.heap.size w w':=by
 have HX:=Lib.hid (Blk.new w 52 #[.int .i64 0,.int .i64 0,.int .i64 0])
 have HB:=Lib.hid (bel_alloc (Below.refl w.heap.size w) (.cells #[.int .i64 0,.int .i64 0,.int .i64 0] 52))
 by_cases k0:n < -1000000000
 ·have he:rootOf n num den=((0,(0,0)),false):=rootOf_bad (by
   have:inB n (-1000000000) 1000000000=false∨inB num 1 4000000000000000000=false∨inB den 1 4000000000000000000=false:=by simp only [inB_not];omega
   unfold rootOk;rcases this with h | h | h <;> simp [h])
  rw [he];clear he
  unfold rtO rtV
  go_enter Tryz.func69,Tryz.ntmps69
  go_wp2_with fail
  refine bodyPost_ret (results_rt rfl _ _ w.heap.size _ _ rfl HX.out Tryz.underlying52 rfl (by kernel_rfl)) rfl ?_
  exact ⟨rfl,HB.out⟩
 by_cases k1:1000000000<n
 ·have he:rootOf n num den=((0,(0,0)),false):=rootOf_bad (by
   have:inB n (-1000000000) 1000000000=false∨inB num 1 4000000000000000000=false∨inB den 1 4000000000000000000=false:=by simp only [inB_not];omega
   unfold rootOk;rcases this with h | h | h <;> simp [h])
  rw [he];clear he
  unfold rtO rtV
  go_enter Tryz.func69,Tryz.ntmps69
  go_wp2_with fail
  refine bodyPost_ret (results_rt rfl _ _ w.heap.size _ _ rfl HX.out Tryz.underlying52 rfl (by kernel_rfl)) rfl ?_
  exact ⟨rfl,HB.out⟩
 by_cases k2:num<1
 ·have he:rootOf n num den=((0,(0,0)),false):=rootOf_bad (by
   have:inB n (-1000000000) 1000000000=false∨inB num 1 4000000000000000000=false∨inB den 1 4000000000000000000=false:=by simp only [inB_not];omega
   unfold rootOk;rcases this with h | h | h <;> simp [h])
  rw [he];clear he
  unfold rtO rtV
  go_enter Tryz.func69,Tryz.ntmps69
  go_wp2_with fail
  refine bodyPost_ret (results_rt rfl _ _ w.heap.size _ _ rfl HX.out Tryz.underlying52 rfl (by kernel_rfl)) rfl ?_
  exact ⟨rfl,HB.out⟩
 by_cases k3:4000000000000000000<num
 ·have he:rootOf n num den=((0,(0,0)),false):=rootOf_bad (by
   have:inB n (-1000000000) 1000000000=false∨inB num 1 4000000000000000000=false∨inB den 1 4000000000000000000=false:=by simp only [inB_not];omega
   unfold rootOk;rcases this with h | h | h <;> simp [h])
  rw [he];clear he
  unfold rtO rtV
  go_enter Tryz.func69,Tryz.ntmps69
  go_wp2_with fail
  refine bodyPost_ret (results_rt rfl _ _ w.heap.size _ _ rfl HX.out Tryz.underlying52 rfl (by kernel_rfl)) rfl ?_
  exact ⟨rfl,HB.out⟩
 by_cases k4:den<1
 ·have he:rootOf n num den=((0,(0,0)),false):=rootOf_bad (by
   have:inB n (-1000000000) 1000000000=false∨inB num 1 4000000000000000000=false∨inB den 1 4000000000000000000=false:=by simp only [inB_not];omega
   unfold rootOk;rcases this with h | h | h <;> simp [h])
  rw [he];clear he
  unfold rtO rtV
  go_enter Tryz.func69,Tryz.ntmps69
  go_wp2_with fail
  refine bodyPost_ret (results_rt rfl _ _ w.heap.size _ _ rfl HX.out Tryz.underlying52 rfl (by kernel_rfl)) rfl ?_
  exact ⟨rfl,HB.out⟩
 by_cases k5:4000000000000000000<den
 ·have he:rootOf n num den=((0,(0,0)),false):=rootOf_bad (by
   have:inB n (-1000000000) 1000000000=false∨inB num 1 4000000000000000000=false∨inB den 1 4000000000000000000=false:=by simp only [inB_not];omega
   unfold rootOk;rcases this with h | h | h <;> simp [h])
  rw [he];clear he
  unfold rtO rtV
  go_enter Tryz.func69,Tryz.ntmps69
  go_wp2_with fail
  refine bodyPost_ret (results_rt rfl _ _ w.heap.size _ _ rfl HX.out Tryz.underlying52 rfl (by kernel_rfl)) rfl ?_
  exact ⟨rfl,HB.out⟩
 have hn:-1000000000≤n∧n≤1000000000:=by omega
 have hm:1≤num∧num≤4000000000000000000:=by omega
 have hd:1≤den∧den≤4000000000000000000:=by omega
 clear k0 k1 k2 k3 k4 k5
 have hi:(inB n (-1000000000) 1000000000 && inB num 1 4000000000000000000 && inB den 1 4000000000000000000)=true:=by rw [inB_iff.2 hn,inB_iff.2 hm,inB_iff.2 hd];rfl
 by_cases h0:n=0∨num≤4000000000000000000 / (n*n)
 case neg =>
  have h1:n≠0∧4000000000000000000 / (n*n)<num:=by omega
  have he:rootOf n num den=((0,(0,0)),false):=rootOf_bad (by unfold rootOk;rw [hi];simp [h1])
  rw [he];clear he h0
  unfold rtO rtV
  have hq:=sq_bd hn h1.1
  have e0:(n != 0)=true:=by simpa using h1.1
  have h2:=h1.2
  obtain ⟨Q,hQ⟩:∃Q,n*n=Q:=⟨_,rfl⟩
  rw [hQ] at hq h2
  have e1:4000000000000000000 / Q<num:=h2
  have hq0:¬Q=0:=by omega
  clear h1 h2 hi
  go_enter Tryz.func69,Tryz.ntmps69
  go_wp2_with fail
  refine bodyPost_ret (results_rt rfl _ _ w.heap.size _ _ rfl HX.out Tryz.underlying52 rfl (by kernel_rfl)) rfl ?_
  exact ⟨rfl,HB.out⟩
 have hro:rootOk n num den=true:=by
  unfold rootOk;rw [hi];simp only [Bool.true_and,Bool.or_eq_true,decide_eq_true_eq];exact h0
 have HR:Hid (rootOf n num den=if (ratOf (n*n*num) den).2=true then ((sgI n,(ratOf (n*n*num) den).1),true) else ((0,(0,0)),false)):=by
  unfold Hid rootOf
  rw [hro];simp
 clear hro hi
 rw [HR.out];clear HR
 have hP:0≤n*n*num∧n*n*num≤4000000000000000000:=by
  rcases h0 with h0 | h0
  ·subst h0;simp
  ·by_cases hz:n=0
   ·subst hz;simp
   ·exact big_mul (sq_bd hn hz).1 (by omega) h0
 have HC:=Lib.hid (fun W=>cmp_any n 0 W)
 rw [sgI_cmp] at HC
 have HRO:=Lib.hid (fun W=>implRatOf_any (n*n*num) den W)
 have hNN:0≤n*n∧n*n≤1000000000000000000:=by
  by_cases hz:n=0
  ·subst hz;simp
  ·have:=sq_bd hn hz;omega
 obtain ⟨r,hr⟩:∃r,ratOf (n*n*num) den=r:=⟨_,rfl⟩
 rw [hr] at HRO ⊢
 rw [okV_form] at HRO
 clear hr
 obtain ⟨⟨x,y⟩,ok⟩:=r
 simp only at HRO
 obtain ⟨sg,hsg⟩:∃sg,sgI n=sg:=⟨_,rfl⟩
 rw [hsg] at HC ⊢;clear hsg
 obtain ⟨Q,hQ⟩:∃Q,n*n=Q:=⟨_,rfl⟩
 rw [hQ] at hP h0 HRO hNN
 have HQ:=Lib.hid (fun h:n≠0=>(sq_bd hn h).1)
 rw [hQ] at HQ
 have hcase:(n != 0)=false∨((n != 0)=true∧¬Q=0∧num≤4000000000000000000 / Q):=by
  by_cases hz:n=0
  ·left;simpa using hz
  ·right
   refine ⟨by simpa using hz,by have:=HQ.out hz;omega,?_⟩
   rcases h0 with h0 | h0
   ·exact absurd h0 hz
   ·exact h0
 clear h0 HQ
 rcases hcase with e0 | ⟨e0,hq0,e1⟩
 ·go_enter Tryz.func69,Tryz.ntmps69
  go_wp2_with fail
  refine (HRO.out _).mono ?_
  rintro e w2 ⟨rfl,hb2⟩
  have HX2:=Lib.hid (HX.out.sub hb2)
  have HB2:=Lib.hid (bel_sub HB.out hb2)
  have hlt:=HX2.out.lt
  clear hb2 hP hQ
  cases ok
  ·obtain ⟨x1,x2,x3,f1,f2,f3⟩:=blk3 HX2.out
   have HZ:=Lib.hid ((((HX2.out.set 0 (.int .i64 0)).set 1 (.int .i64 0)).set 2 (.int .i64 0)).alloc (.cells #[.int .i64 x,.int .i64 y] 45))
   have HBZ:=Lib.hid (bel_alloc (bel_set (g:=w.heap.size) (i:=2) (u:=.int .i64 0) (bel_set2 (g:=w.heap.size) (x:=.int .i64 0) (y:=.int .i64 0) HB2.out (Nat.le_refl _)) (Nat.le_refl _)) (.cells #[.int .i64 x,.int .i64 y] 45))
   go_wp2_with fail
   refine bodyPost_ret (results_rt rfl _ _ w.heap.size _ _ rfl HZ.out Tryz.underlying52 rfl (by kernel_rfl)) rfl ?_
   exact ⟨rfl,HBZ.out⟩
  ·go_wp2_with fail
   refine wp_gen fun W3 hW3=>?_
   have HX3:Hid (Blk W3 w.heap.size 52 #[.int .i64 0,.int .i64 0,.int .i64 0]):=by unfold Hid;rw [←hW3.out];exact HX2.out.alloc _
   have HB3:Hid (Below w.heap.size w W3):=by unfold Hid;rw [←hW3.out];exact bel_alloc HB2.out _
   obtain ⟨q1,q2,_,_⟩:_∧_∧_∧_:=blk2 (show Blk W3 w2.heap.size 45 #[.int .i64 x,.int .i64 y] by rw [←hW3.out];exact Blk.new _ _ _)
   obtain ⟨x1,x2,x3,f1,f2,f3⟩:=blk3 HX3.out
   have HZ:=Lib.hid (((HX3.out.drew.set 0 (.int .i64 sg)).set 1 (.int .i64 x)).set 2 (.int .i64 y))
   have HBZ:=Lib.hid (bel_set (g:=w.heap.size) (i:=2) (u:=.int .i64 y) (bel_set2 (g:=w.heap.size) (x:=.int .i64 sg) (y:=.int .i64 x) (bel_drew HB3.out) (Nat.le_refl _)) (Nat.le_refl _))
   go_still_tail 4,(by kernel_rfl)
   still_call (HC.out _)
   repeat still_step
   refine wpStill_nil ?_
   change wpList _ _ _ _ _ W3.drew
   go_wp2_with fail
   refine bodyPost_ret (results_rt rfl _ _ w.heap.size _ _ rfl HZ.out Tryz.underlying52 rfl (by kernel_rfl)) rfl ?_
   exact ⟨rfl,HBZ.out⟩
 ·go_enter Tryz.func69,Tryz.ntmps69
  go_wp2_with fail
  refine (HRO.out _).mono ?_
  rintro e w2 ⟨rfl,hb2⟩
  have HX2:=Lib.hid (HX.out.sub hb2)
  have HB2:=Lib.hid (bel_sub HB.out hb2)
  have hlt:=HX2.out.lt
  clear hb2 hP hQ
  cases ok
  ·obtain ⟨x1,x2,x3,f1,f2,f3⟩:=blk3 HX2.out
   have HZ:=Lib.hid ((((HX2.out.set 0 (.int .i64 0)).set 1 (.int .i64 0)).set 2 (.int .i64 0)).alloc (.cells #[.int .i64 x,.int .i64 y] 45))
   have HBZ:=Lib.hid (bel_alloc (bel_set (g:=w.heap.size) (i:=2) (u:=.int .i64 0) (bel_set2 (g:=w.heap.size) (x:=.int .i64 0) (y:=.int .i64 0) HB2.out (Nat.le_refl _)) (Nat.le_refl _)) (.cells #[.int .i64 x,.int .i64 y] 45))
   go_wp2_with fail
   refine bodyPost_ret (results_rt rfl _ _ w.heap.size _ _ rfl HZ.out Tryz.underlying52 rfl (by kernel_rfl)) rfl ?_
   exact ⟨rfl,HBZ.out⟩
  ·go_wp2_with fail
   refine wp_gen fun W3 hW3=>?_
   have HX3:Hid (Blk W3 w.heap.size 52 #[.int .i64 0,.int .i64 0,.int .i64 0]):=by unfold Hid;rw [←hW3.out];exact HX2.out.alloc _
   have HB3:Hid (Below w.heap.size w W3):=by unfold Hid;rw [←hW3.out];exact bel_alloc HB2.out _
   obtain ⟨q1,q2,_,_⟩:_∧_∧_∧_:=blk2 (show Blk W3 w2.heap.size 45 #[.int .i64 x,.int .i64 y] by rw [←hW3.out];exact Blk.new _ _ _)
   obtain ⟨x1,x2,x3,f1,f2,f3⟩:=blk3 HX3.out
   have HZ:=Lib.hid (((HX3.out.drew.set 0 (.int .i64 sg)).set 1 (.int .i64 x)).set 2 (.int .i64 y))
   have HBZ:=Lib.hid (bel_set (g:=w.heap.size) (i:=2) (u:=.int .i64 y) (bel_set2 (g:=w.heap.size) (x:=.int .i64 sg) (y:=.int .i64 x) (bel_drew HB3.out) (Nat.le_refl _)) (Nat.le_refl _))
   go_still_tail 4,(by kernel_rfl)
   still_call (HC.out _)
   repeat still_step
   refine wpStill_nil ?_
   change wpList _ _ _ _ _ W3.drew
   go_wp2_with fail
   refine bodyPost_ret (results_rt rfl _ _ w.heap.size _ _ rfl HZ.out Tryz.underlying52 rfl (by kernel_rfl)) rfl ?_
   exact ⟨rfl,HBZ.out⟩
theorem specRootOf_any (n num den:Int) (w:World) :
 Calls Tryz.prog 74 #[.int .i64 n,.int .i64 num,.int .i64 den] w fun e w'=>e=.returned (rtO (rootOf n num den))∧Below w.heap.size w w':=by
 have HX:=Lib.hid (Blk.new w 52 #[.int .i64 0,.int .i64 0,.int .i64 0])
 have HB:=Lib.hid (bel_alloc (Below.refl w.heap.size w) (.cells #[.int .i64 0,.int .i64 0,.int .i64 0] 52))
 have HL1:=Lib.hid (fun W=>l6In_any n (-1000000000) 1000000000 W)
 have HL2:=Lib.hid (fun W=>l6In_any num 1 4000000000000000000 W)
 have HL3:=Lib.hid (fun W=>l6In_any den 1 4000000000000000000 W)
 cases k1:inB n (-1000000000) 1000000000
 ·have he:rootOf n num den=((0,(0,0)),false):=rootOf_bad (by unfold rootOk;simp [k1])
  rw [he];clear he
  unfold rtO rtV
  rw [k1] at HL1
  clear k1
  go_enter Tryz.func74,Tryz.ntmps74
  go_wp2_with fail
  refine (HL1.out _).mono ?_
  rintro e w1 ⟨rfl,rfl⟩
  go_wp2_with fail
  refine bodyPost_ret (results_rt rfl _ _ w.heap.size _ _ rfl HX.out Tryz.underlying52 rfl (by kernel_rfl)) rfl ?_
  exact ⟨rfl,HB.out⟩
 cases k2:inB num (1) 4000000000000000000
 ·have he:rootOf n num den=((0,(0,0)),false):=rootOf_bad (by unfold rootOk;simp [k2])
  rw [he];clear he
  unfold rtO rtV
  rw [k1] at HL1
  rw [k2] at HL2
  clear k1 k2
  go_enter Tryz.func74,Tryz.ntmps74
  go_wp2_with fail
  refine (HL1.out _).mono ?_
  rintro e w1 ⟨rfl,rfl⟩
  go_wp2_with fail
  refine (HL2.out _).mono ?_
  rintro e w1 ⟨rfl,rfl⟩
  go_wp2_with fail
  refine bodyPost_ret (results_rt rfl _ _ w.heap.size _ _ rfl HX.out Tryz.underlying52 rfl (by kernel_rfl)) rfl ?_
  exact ⟨rfl,HB.out⟩
 cases k3:inB den (1) 4000000000000000000
 ·have he:rootOf n num den=((0,(0,0)),false):=rootOf_bad (by unfold rootOk;simp [k3])
  rw [he];clear he
  unfold rtO rtV
  rw [k1] at HL1
  rw [k2] at HL2
  rw [k3] at HL3
  clear k1 k2 k3
  go_enter Tryz.func74,Tryz.ntmps74
  go_wp2_with fail
  refine (HL1.out _).mono ?_
  rintro e w1 ⟨rfl,rfl⟩
  go_wp2_with fail
  refine (HL2.out _).mono ?_
  rintro e w1 ⟨rfl,rfl⟩
  go_wp2_with fail
  refine (HL3.out _).mono ?_
  rintro e w1 ⟨rfl,rfl⟩
  go_wp2_with fail
  refine bodyPost_ret (results_rt rfl _ _ w.heap.size _ _ rfl HX.out Tryz.underlying52 rfl (by kernel_rfl)) rfl ?_
  exact ⟨rfl,HB.out⟩
 have hn:=inB_iff.1 k1
 have hm:=inB_iff.1 k2
 have hd:=inB_iff.1 k3
 have hi:(inB n (-1000000000) 1000000000 && inB num 1 4000000000000000000 && inB den 1 4000000000000000000)=true:=by rw [k1,k2,k3];rfl
 rw [k1] at HL1;rw [k2] at HL2;rw [k3] at HL3
 clear k1 k2 k3
 by_cases h0:n=0∨num≤4000000000000000000 / (n*n)
 case neg =>
  have h1:n≠0∧4000000000000000000 / (n*n)<num:=by omega
  have he:rootOf n num den=((0,(0,0)),false):=rootOf_bad (by unfold rootOk;rw [hi];simp [h1])
  rw [he];clear he h0
  unfold rtO rtV
  have hq:=sq_bd hn h1.1
  have e0:(n != 0)=true:=by simpa using h1.1
  have h2:=h1.2
  obtain ⟨Q,hQ⟩:∃Q,n*n=Q:=⟨_,rfl⟩
  rw [hQ] at hq h2
  have e1:4000000000000000000 / Q<num:=h2
  have hq0:¬Q=0:=by omega
  clear h1 h2 hi
  go_enter Tryz.func74,Tryz.ntmps74
  go_wp2_with fail
  refine (HL1.out _).mono ?_
  rintro e w1 ⟨rfl,rfl⟩
  go_wp2_with fail
  refine (HL2.out _).mono ?_
  rintro e w1 ⟨rfl,rfl⟩
  go_wp2_with fail
  refine (HL3.out _).mono ?_
  rintro e w1 ⟨rfl,rfl⟩
  go_wp2_with fail
  refine bodyPost_ret (results_rt rfl _ _ w.heap.size _ _ rfl HX.out Tryz.underlying52 rfl (by kernel_rfl)) rfl ?_
  exact ⟨rfl,HB.out⟩
 have hro:rootOk n num den=true:=by
  unfold rootOk;rw [hi];simp only [Bool.true_and,Bool.or_eq_true,decide_eq_true_eq];exact h0
 have HR:Hid (rootOf n num den=if (ratOf (n*n*num) den).2=true then ((sgI n,(ratOf (n*n*num) den).1),true) else ((0,(0,0)),false)):=by
  unfold Hid rootOf
  rw [hro];simp
 clear hro hi
 rw [HR.out];clear HR
 have hP:0≤n*n*num∧n*n*num≤4000000000000000000:=by
  rcases h0 with h0 | h0
  ·subst h0;simp
  ·by_cases hz:n=0
   ·subst hz;simp
   ·exact big_mul (sq_bd hn hz).1 (by omega) h0
 have HC:=Lib.hid (fun W=>l4Sign_any n W)
 have HRO:=Lib.hid (fun W=>specRatOf_any (n*n*num) den W (by omega) (by omega) (by omega))
 have hNN:0≤n*n∧n*n≤1000000000000000000:=by
  by_cases hz:n=0
  ·subst hz;simp
  ·have:=sq_bd hn hz;omega
 obtain ⟨r,hr⟩:∃r,ratOf (n*n*num) den=r:=⟨_,rfl⟩
 rw [hr] at HRO ⊢
 rw [okV_form] at HRO
 clear hr
 obtain ⟨⟨x,y⟩,ok⟩:=r
 simp only at HRO
 obtain ⟨sg,hsg⟩:∃sg,sgI n=sg:=⟨_,rfl⟩
 rw [hsg] at HC ⊢;clear hsg
 obtain ⟨Q,hQ⟩:∃Q,n*n=Q:=⟨_,rfl⟩
 rw [hQ] at hP h0 HRO hNN
 have HQ:=Lib.hid (fun h:n≠0=>(sq_bd hn h).1)
 rw [hQ] at HQ
 have hcase:(n != 0)=false∨((n != 0)=true∧¬Q=0∧num≤4000000000000000000 / Q):=by
  by_cases hz:n=0
  ·left;simpa using hz
  ·right
   refine ⟨by simpa using hz,by have:=HQ.out hz;omega,?_⟩
   rcases h0 with h0 | h0
   ·exact absurd h0 hz
   ·exact h0
 clear h0 HQ
 rcases hcase with e0 | ⟨e0,hq0,e1⟩
 ·go_enter Tryz.func74,Tryz.ntmps74
  go_wp2_with fail
  refine (HL1.out _).mono ?_
  rintro e w1 ⟨rfl,rfl⟩
  go_wp2_with fail
  refine (HL2.out _).mono ?_
  rintro e w1 ⟨rfl,rfl⟩
  go_wp2_with fail
  refine (HL3.out _).mono ?_
  rintro e w1 ⟨rfl,rfl⟩
  go_wp2_with fail
  refine (HRO.out _).mono ?_
  rintro e w2 ⟨rfl,hb2⟩
  have HX2:=Lib.hid (HX.out.sub hb2)
  have HB2:=Lib.hid (bel_sub HB.out hb2)
  have hlt:=HX2.out.lt
  clear hb2 hP hQ
  cases ok
  ·obtain ⟨x1,x2,x3,f1,f2,f3⟩:=blk3 HX2.out
   have HZ:=Lib.hid ((((HX2.out.set 0 (.int .i64 0)).set 1 (.int .i64 0)).set 2 (.int .i64 0)).alloc (.cells #[.int .i64 x,.int .i64 y] 45))
   have HBZ:=Lib.hid (bel_alloc (bel_set (g:=w.heap.size) (i:=2) (u:=.int .i64 0) (bel_set2 (g:=w.heap.size) (x:=.int .i64 0) (y:=.int .i64 0) HB2.out (Nat.le_refl _)) (Nat.le_refl _)) (.cells #[.int .i64 x,.int .i64 y] 45))
   go_wp2_with fail
   refine bodyPost_ret (results_rt rfl _ _ w.heap.size _ _ rfl HZ.out Tryz.underlying52 rfl (by kernel_rfl)) rfl ?_
   exact ⟨rfl,HBZ.out⟩
  ·go_wp2_with fail
   refine wp_gen fun W3 hW3=>?_
   have HX3:Hid (Blk W3 w.heap.size 52 #[.int .i64 0,.int .i64 0,.int .i64 0]):=by unfold Hid;rw [←hW3.out];exact HX2.out.alloc _
   have HB3:Hid (Below w.heap.size w W3):=by unfold Hid;rw [←hW3.out];exact bel_alloc HB2.out _
   obtain ⟨q1,q2,_,_⟩:_∧_∧_∧_:=blk2 (show Blk W3 w2.heap.size 45 #[.int .i64 x,.int .i64 y] by rw [←hW3.out];exact Blk.new _ _ _)
   obtain ⟨x1,x2,x3,f1,f2,f3⟩:=blk3 HX3.out
   have HZ:=Lib.hid (((HX3.out.drew.set 0 (.int .i64 sg)).set 1 (.int .i64 x)).set 2 (.int .i64 y))
   have HBZ:=Lib.hid (bel_set (g:=w.heap.size) (i:=2) (u:=.int .i64 y) (bel_set2 (g:=w.heap.size) (x:=.int .i64 sg) (y:=.int .i64 x) (bel_drew HB3.out) (Nat.le_refl _)) (Nat.le_refl _))
   go_still_tail 4,(by kernel_rfl)
   still_call (HC.out _)
   repeat still_step
   refine wpStill_nil ?_
   change wpList _ _ _ _ _ W3.drew
   go_wp2_with fail
   refine bodyPost_ret (results_rt rfl _ _ w.heap.size _ _ rfl HZ.out Tryz.underlying52 rfl (by kernel_rfl)) rfl ?_
   exact ⟨rfl,HBZ.out⟩
 ·go_enter Tryz.func74,Tryz.ntmps74
  go_wp2_with fail
  refine (HL1.out _).mono ?_
  rintro e w1 ⟨rfl,rfl⟩
  go_wp2_with fail
  refine (HL2.out _).mono ?_
  rintro e w1 ⟨rfl,rfl⟩
  go_wp2_with fail
  refine (HL3.out _).mono ?_
  rintro e w1 ⟨rfl,rfl⟩
  go_wp2_with fail
  refine (HRO.out _).mono ?_
  rintro e w2 ⟨rfl,hb2⟩
  have HX2:=Lib.hid (HX.out.sub hb2)
  have HB2:=Lib.hid (bel_sub HB.out hb2)
  have hlt:=HX2.out.lt
  clear hb2 hP hQ
  cases ok
  ·obtain ⟨x1,x2,x3,f1,f2,f3⟩:=blk3 HX2.out
   have HZ:=Lib.hid ((((HX2.out.set 0 (.int .i64 0)).set 1 (.int .i64 0)).set 2 (.int .i64 0)).alloc (.cells #[.int .i64 x,.int .i64 y] 45))
   have HBZ:=Lib.hid (bel_alloc (bel_set (g:=w.heap.size) (i:=2) (u:=.int .i64 0) (bel_set2 (g:=w.heap.size) (x:=.int .i64 0) (y:=.int .i64 0) HB2.out (Nat.le_refl _)) (Nat.le_refl _)) (.cells #[.int .i64 x,.int .i64 y] 45))
   go_wp2_with fail
   refine bodyPost_ret (results_rt rfl _ _ w.heap.size _ _ rfl HZ.out Tryz.underlying52 rfl (by kernel_rfl)) rfl ?_
   exact ⟨rfl,HBZ.out⟩
  ·go_wp2_with fail
   refine wp_gen fun W3 hW3=>?_
   have HX3:Hid (Blk W3 w.heap.size 52 #[.int .i64 0,.int .i64 0,.int .i64 0]):=by unfold Hid;rw [←hW3.out];exact HX2.out.alloc _
   have HB3:Hid (Below w.heap.size w W3):=by unfold Hid;rw [←hW3.out];exact bel_alloc HB2.out _
   obtain ⟨q1,q2,_,_⟩:_∧_∧_∧_:=blk2 (show Blk W3 w2.heap.size 45 #[.int .i64 x,.int .i64 y] by rw [←hW3.out];exact Blk.new _ _ _)
   obtain ⟨x1,x2,x3,f1,f2,f3⟩:=blk3 HX3.out
   have HZ:=Lib.hid (((HX3.out.drew.set 0 (.int .i64 sg)).set 1 (.int .i64 x)).set 2 (.int .i64 y))
   have HBZ:=Lib.hid (bel_set (g:=w.heap.size) (i:=2) (u:=.int .i64 y) (bel_set2 (g:=w.heap.size) (x:=.int .i64 sg) (y:=.int .i64 x) (bel_drew HB3.out) (Nat.le_refl _)) (Nat.le_refl _))
   go_still_tail 4,(by kernel_rfl)
   still_call (HC.out _)
   repeat still_step
   refine wpStill_nil ?_
   change wpList _ _ _ _ _ W3.drew
   go_wp2_with fail
   refine bodyPost_ret (results_rt rfl _ _ w.heap.size _ _ rfl HZ.out Tryz.underlying52 rfl (by kernel_rfl)) rfl ?_
   exact ⟨rfl,HBZ.out⟩
end
section
open Go.RowKit
attribute [local go_sem ↓] Go.wp_at_zero Go.wp_at_succ
def clR (a b c m n:Int):RT × Bool:=if cplB a b c m n=true then (if hasB c (m+n)=true then
 rootOf (csR a b c m n) (ch a ((a+b-c) / 2)*ch b ((a+b-c) / 2)) (ch ((a+b+c) / 2+1) ((a+b-c) / 2)*ch a ((a-m) / 2)*ch b ((b-n) / 2)*ch c ((c-m-n) / 2))
 else ((0,(0,1)),true)) else ((0,(0,0)),false)
theorem mul_to {u v A B:Int} (hu:0≤u∧u≤A) (hv:0≤v∧v≤B):0≤u*v∧u*v≤A*B :=
 ⟨Int.mul_nonneg hu.1 hv.1,Int.mul_le_mul hu.2 hv.2 hv.1 (by omega)⟩
theorem implClebsch_any (a b c m n:Int) (w:World) :
 Calls Tryz.prog 26 #[.int .i64 a,.int .i64 b,.int .i64 c,.int .i64 m,.int .i64 n] w fun e w'=>e=.returned (rtO (clR a b c m n))∧Below w.heap.size w w':=by
 have HX:=Lib.hid (Blk.new w 52 #[.int .i64 0,.int .i64 0,.int .i64 0])
 have HB:=Lib.hid (bel_alloc (Below.refl w.heap.size w) (.cells #[.int .i64 0,.int .i64 0,.int .i64 0] 52))
 have HV:=Lib.hid (fun W=>coupleValid_any a b c m n W)
 cases hv:cplB a b c m n
 ·have he:clR a b c m n=((0,(0,0)),false):=by unfold clR;rw [hv];simp
  rw [he];rw [hv] at HV;clear he hv
  unfold rtO rtV
  go_enter Tryz.func26,Tryz.ntmps26
  go_wp2_with fail
  refine (HV.out _).mono ?_
  rintro e w1 ⟨rfl,rfl⟩
  go_wp2_with fail
  refine bodyPost_ret (results_rt rfl _ _ w.heap.size _ _ rfl HX.out Tryz.underlying52 rfl (by kernel_rfl)) rfl ?_
  exact ⟨rfl,HB.out⟩
 obtain ⟨⟨a6,b6,c6⟩,h4,h5,h6⟩:=cplB_iff.1 hv
 have h7:=triB_iff.1 h4
 have h8:=hasB_iff.1 h5
 have h9:=hasB_iff.1 h6
 have HH:=Lib.hid (fun W=>implSpinHas_any c (m+n) W)
 have um:IntKind.i64.wrap (m+n)=m+n:=IntWalk.i64_in _ (by omega)
 cases hh:hasB c (m+n)
 ·have he:clR a b c m n=((0,(0,1)),true):=by unfold clR;rw [hv,hh];simp
  rw [he];rw [hv] at HV;rw [hh] at HH;clear he hv hh h4 h5 h6
  unfold rtO rtV
  go_enter Tryz.func26,Tryz.ntmps26
  go_wp2_with fail
  refine (HV.out _).mono ?_
  rintro e w1 ⟨rfl,rfl⟩
  go_wp2_with fail
  refine (HH.out _).mono ?_
  rintro e w1 ⟨rfl,rfl⟩
  go_wp2_with fail
  refine (whole_any 0 _).mono ?_
  rintro e w2 ⟨rfl,hb2⟩
  have HX2:=Lib.hid (HX.out.sub hb2)
  have HB2:=Lib.hid (bel_sub HB.out hb2);clear hb2
  obtain ⟨x1,x2,x3,f1,f2,f3⟩:=blk3 HX2.out
  have HZ:=Lib.hid (((HX2.out.set 0 (.int .i64 0)).set 1 (.int .i64 0)).set 2 (.int .i64 1))
  have HBZ:=Lib.hid (bel_set (g:=w.heap.size) (i:=2) (u:=.int .i64 1) (bel_set2 (g:=w.heap.size) (x:=.int .i64 0) (y:=.int .i64 0) HB2.out (Nat.le_refl _)) (Nat.le_refl _))
  go_wp2_with fail
  refine bodyPost_ret (results_rt rfl _ _ w.heap.size _ _ rfl HZ.out Tryz.underlying52 rfl (by kernel_rfl)) rfl ?_
  exact ⟨rfl,HBZ.out⟩
 obtain ⟨X,hX⟩:∃X,(a+b-c) / 2=X:=⟨_,rfl⟩
 obtain ⟨S,hS⟩:∃S,(a+b+c) / 2=S:=⟨_,rfl⟩
 obtain ⟨p,hp⟩:∃p,(a-m) / 2=p:=⟨_,rfl⟩
 obtain ⟨q,hq⟩:∃q,(b-n) / 2=q:=⟨_,rfl⟩
 obtain ⟨t,ht⟩:∃t,(c-m-n) / 2=t:=⟨_,rfl⟩
 have h10:=hasB_iff.1 hh
 have HRV:Hid (clR a b c m n=rootOf (csR a b c m n) (ch a X*ch b X) (ch (S+1) X*ch a p*ch b q*ch c t)):=by unfold Hid clR;rw [hv,hh,if_pos rfl,if_pos rfl,hX,hS,hp,hq,ht]
 rw [HRV.out];clear HRV
 rw [hv] at HV;rw [hh] at HH;clear hv hh h4 h5 h6
 have S9:0≤S∧S≤9:=by omega
 have X9:0≤X∧X≤6:=by omega
 have d1:0≤a+b-c:=by omega
 have d3:0≤a-m:=by omega
 have d4:0≤b-n:=by omega
 have d5:0≤c-m-n:=by omega
 have d6:-6≤m∧m≤6:=by omega
 have d7:-6≤n∧n≤6:=by omega
 clear h7 h8 h9 h10
 have HC:=Lib.hid (fun n k W=>implChoose_any n k W)
 have HCS:=Lib.hid (fun W=>implCoupleSum_any a b c m n W)
 have hcs:=csR_bd a b c m n
 have e1:=ch_small (n:=S+1) (k:=X) (by omega) (by omega)
 have e2:=ch_tiny (n:=a) (k:=p) (by omega) (by omega)
 have e3:=ch_tiny (n:=b) (k:=q) (by omega) (by omega)
 have e4:=ch_tiny (n:=c) (k:=t) (by omega) (by omega)
 have e5:=ch_tiny (n:=a) (k:=X) (by omega) (by omega)
 have e6:=ch_tiny (n:=b) (k:=X) (by omega) (by omega)
 have C1:=Lib.hid (fun W=>HC.out (S+1) X W)
 have C2:=Lib.hid (fun W=>HC.out a p W)
 have C3:=Lib.hid (fun W=>HC.out b q W)
 have C4:=Lib.hid (fun W=>HC.out c t W)
 have C5:=Lib.hid (fun W=>HC.out a X W)
 have C6:=Lib.hid (fun W=>HC.out b X W)
 clear HC
 generalize csR a b c m n=N at *
 generalize ch (S+1) X=y1 at *
 generalize ch a p=y2 at *
 generalize ch b q=y3 at *
 generalize ch c t=y4 at *
 generalize ch a X=y5 at *
 generalize ch b X=y6 at *
 have m1:=mul_to e1 e2
 have m2:=mul_to (u:=y1*y2) (A:=65536) (by omega) e3
 have m3:=mul_to (u:=y1*y2*y3) (A:=4194304) (by omega) e4
 have m4:=mul_to e5 e6
 have HR:=Lib.hid (fun W=>implRootOf_any N (y5*y6) (y1*y2*y3*y4) W)
 obtain ⟨r,hr⟩:∃r,rootOf N (y5*y6) (y1*y2*y3*y4)=r:=⟨_,rfl⟩
 rw [hr] at HR ⊢
 clear hr e1 e2 e3 e4 e5 e6
 obtain ⟨⟨sg,x,y⟩,ok⟩:=r
 unfold rtO rtV at HR ⊢
 simp only at HR ⊢
 go_enter Tryz.func26,Tryz.ntmps26
 go_wp2_with fail
 refine (HV.out _).mono ?_
 rintro e w1 ⟨rfl,rfl⟩
 go_wp2_with fail
 refine (HH.out _).mono ?_
 rintro e w1 ⟨rfl,rfl⟩
 go_wp2_with fail
 refine (C1.out _).mono ?_
 rintro e w2 ⟨rfl,hb0⟩
 have HB_0:=Lib.hid (bel_sub HB.out hb0);have HX_0:=Lib.hid (HX.out.sub hb0);clear hb0
 go_wp2_with fail
 refine (C2.out _).mono ?_
 rintro e w3 ⟨rfl,hb1⟩
 have HB_1:=Lib.hid (bel_sub HB_0.out hb1);have HX_1:=Lib.hid (HX_0.out.sub hb1);clear hb1
 go_wp2_with fail
 refine (C3.out _).mono ?_
 rintro e w4 ⟨rfl,hb2⟩
 have HB_2:=Lib.hid (bel_sub HB_1.out hb2);have HX_2:=Lib.hid (HX_1.out.sub hb2);clear hb2
 go_wp2_with fail
 refine (C4.out _).mono ?_
 rintro e w5 ⟨rfl,hb3⟩
 have HB_3:=Lib.hid (bel_sub HB_2.out hb3);have HX_3:=Lib.hid (HX_2.out.sub hb3);clear hb3
 go_wp2_with fail
 refine (HCS.out _).mono ?_
 rintro e w6 ⟨rfl,hb4⟩
 have HB_4:=Lib.hid (bel_sub HB_3.out hb4);have HX_4:=Lib.hid (HX_3.out.sub hb4);clear hb4
 go_wp2_with fail
 refine (C5.out _).mono ?_
 rintro e w7 ⟨rfl,hb5⟩
 have HB_5:=Lib.hid (bel_sub HB_4.out hb5);have HX_5:=Lib.hid (HX_4.out.sub hb5);clear hb5
 go_wp2_with fail
 refine (C6.out _).mono ?_
 rintro e w8 ⟨rfl,hb6⟩
 have HB_6:=Lib.hid (bel_sub HB_5.out hb6);have HX_6:=Lib.hid (HX_5.out.sub hb6);clear hb6
 go_wp2_with fail
 refine (HR.out _).mono ?_
 rintro e w9 ⟨rfl,hb7⟩
 have HB_7:=Lib.hid (bel_sub HB_6.out hb7);have HX_7:=Lib.hid (HX_6.out.sub hb7);clear hb7
 obtain ⟨x1,x2,x3,f1,f2,f3⟩:=blk3 HX_7.out
 have HZ:=Lib.hid (((HX_7.out.set 0 (.int .i64 sg)).set 1 (.int .i64 x)).set 2 (.int .i64 y))
 have HBZ:=Lib.hid (bel_set (g:=w.heap.size) (i:=2) (u:=.int .i64 y) (bel_set2 (g:=w.heap.size) (x:=.int .i64 sg) (y:=.int .i64 x) HB_7.out (Nat.le_refl _)) (Nat.le_refl _))
 go_wp2_with fail
 refine bodyPost_ret (results_rt rfl _ _ w.heap.size _ _ rfl HZ.out Tryz.underlying52 rfl (by kernel_rfl)) rfl ?_
 exact ⟨rfl,HBZ.out⟩
theorem specClebsch_any (a b c m n:Int) (w:World) :
 Calls Tryz.prog 27 #[.int .i64 a,.int .i64 b,.int .i64 c,.int .i64 m,.int .i64 n] w fun e w'=>e=.returned (rtO (clR a b c m n))∧Below w.heap.size w w':=by
 have HX:=Lib.hid (Blk.new w 52 #[.int .i64 0,.int .i64 0,.int .i64 0])
 have HB:=Lib.hid (bel_alloc (Below.refl w.heap.size w) (.cells #[.int .i64 0,.int .i64 0,.int .i64 0] 52))
 have HV:=Lib.hid (fun W=>l21Ok_any a b c m n W)
 cases hv:cplB a b c m n
 ·have he:clR a b c m n=((0,(0,0)),false):=by unfold clR;rw [hv];simp
  rw [he];rw [hv] at HV;clear he hv
  unfold rtO rtV
  go_enter Tryz.func27,Tryz.ntmps27
  go_wp2_with fail
  refine (HV.out _).mono ?_
  rintro e w1 ⟨rfl,rfl⟩
  go_wp2_with fail
  refine bodyPost_ret (results_rt rfl _ _ w.heap.size _ _ rfl HX.out Tryz.underlying52 rfl (by kernel_rfl)) rfl ?_
  exact ⟨rfl,HB.out⟩
 obtain ⟨⟨a6,b6,c6⟩,h4,h5,h6⟩:=cplB_iff.1 hv
 have h7:=triB_iff.1 h4
 have h8:=hasB_iff.1 h5
 have h9:=hasB_iff.1 h6
 have HH:=Lib.hid (fun W=>specSpinHas_any c (m+n) W)
 have um:IntKind.i64.wrap (m+n)=m+n:=IntWalk.i64_in _ (by omega)
 cases hh:hasB c (m+n)
 ·have he:clR a b c m n=((0,(0,1)),true):=by unfold clR;rw [hv,hh];simp
  rw [he];rw [hv] at HV;rw [hh] at HH;clear he hv hh h4 h5 h6
  unfold rtO rtV
  go_enter Tryz.func27,Tryz.ntmps27
  go_wp2_with fail
  refine (HV.out _).mono ?_
  rintro e w1 ⟨rfl,rfl⟩
  go_wp2_with fail
  refine (HH.out _).mono ?_
  rintro e w1 ⟨rfl,rfl⟩
  go_wp2_with fail
  have HXN:Hid (Blk (w.alloc (.cells #[.int .i64 0,.int .i64 0,.int .i64 1] 52)) w.heap.size 52 #[.int .i64 0,.int .i64 0,.int .i64 1]):=Blk.new _ _ _
  have HBN:=Lib.hid (bel_alloc (Below.refl w.heap.size w) (.cells #[.int .i64 0,.int .i64 0,.int .i64 1] 52))
  refine bodyPost_ret (results_rt rfl _ _ w.heap.size _ _ rfl HXN.out Tryz.underlying52 rfl (by kernel_rfl)) rfl ?_
  exact ⟨rfl,HBN.out⟩
 obtain ⟨X,hX⟩:∃X,(a+b-c) / 2=X:=⟨_,rfl⟩
 obtain ⟨S,hS⟩:∃S,(a+b+c) / 2=S:=⟨_,rfl⟩
 obtain ⟨p,hp⟩:∃p,(a-m) / 2=p:=⟨_,rfl⟩
 obtain ⟨q,hq⟩:∃q,(b-n) / 2=q:=⟨_,rfl⟩
 obtain ⟨t,ht⟩:∃t,(c-m-n) / 2=t:=⟨_,rfl⟩
 have h10:=hasB_iff.1 hh
 have HRV:Hid (clR a b c m n=rootOf (csR a b c m n) (ch a X*ch b X) (ch (S+1) X*ch a p*ch b q*ch c t)):=by unfold Hid clR;rw [hv,hh,if_pos rfl,if_pos rfl,hX,hS,hp,hq,ht]
 rw [HRV.out];clear HRV
 rw [hv] at HV;rw [hh] at HH;clear hv hh h4 h5 h6
 have S9:0≤S∧S≤9:=by omega
 have X9:0≤X∧X≤6:=by omega
 have d1:0≤a+b-c:=by omega
 have d3:0≤a-m:=by omega
 have d4:0≤b-n:=by omega
 have d5:0≤c-m-n:=by omega
 have d6:-6≤m∧m≤6:=by omega
 have d7:-6≤n∧n≤6:=by omega
 clear h7 h8 h9 h10
 have HC:=Lib.hid (fun n k W=>specChoose_any n k W)
 have HCS:=Lib.hid (fun W=>specCoupleSum_any a b c m n W)
 have hcs:=csR_bd a b c m n
 have e1:=ch_small (n:=S+1) (k:=X) (by omega) (by omega)
 have e2:=ch_tiny (n:=a) (k:=p) (by omega) (by omega)
 have e3:=ch_tiny (n:=b) (k:=q) (by omega) (by omega)
 have e4:=ch_tiny (n:=c) (k:=t) (by omega) (by omega)
 have e5:=ch_tiny (n:=a) (k:=X) (by omega) (by omega)
 have e6:=ch_tiny (n:=b) (k:=X) (by omega) (by omega)
 have C1:=Lib.hid (fun W=>HC.out (S+1) X W)
 have C2:=Lib.hid (fun W=>HC.out a p W)
 have C3:=Lib.hid (fun W=>HC.out b q W)
 have C4:=Lib.hid (fun W=>HC.out c t W)
 have C5:=Lib.hid (fun W=>HC.out a X W)
 have C6:=Lib.hid (fun W=>HC.out b X W)
 clear HC
 generalize csR a b c m n=N at *
 generalize ch (S+1) X=y1 at *
 generalize ch a p=y2 at *
 generalize ch b q=y3 at *
 generalize ch c t=y4 at *
 generalize ch a X=y5 at *
 generalize ch b X=y6 at *
 have m1:=mul_to e1 e2
 have m2:=mul_to (u:=y1*y2) (A:=65536) (by omega) e3
 have m3:=mul_to (u:=y1*y2*y3) (A:=4194304) (by omega) e4
 have m4:=mul_to e5 e6
 have HR:=Lib.hid (fun W=>specRootOf_any N (y5*y6) (y1*y2*y3*y4) W)
 obtain ⟨r,hr⟩:∃r,rootOf N (y5*y6) (y1*y2*y3*y4)=r:=⟨_,rfl⟩
 rw [hr] at HR ⊢
 clear hr e1 e2 e3 e4 e5 e6
 obtain ⟨⟨sg,x,y⟩,ok⟩:=r
 unfold rtO rtV at HR ⊢
 simp only at HR ⊢
 go_enter Tryz.func27,Tryz.ntmps27
 go_wp2_with fail
 refine (HV.out _).mono ?_
 rintro e w1 ⟨rfl,rfl⟩
 go_wp2_with fail
 refine (HH.out _).mono ?_
 rintro e w1 ⟨rfl,rfl⟩
 go_wp2_with fail
 refine (C5.out _).mono ?_
 rintro e w1 ⟨rfl,rfl⟩
 go_wp2_with fail
 refine (C6.out _).mono ?_
 rintro e w1 ⟨rfl,rfl⟩
 go_wp2_with fail
 refine (C1.out _).mono ?_
 rintro e w1 ⟨rfl,rfl⟩
 go_wp2_with fail
 refine (C2.out _).mono ?_
 rintro e w1 ⟨rfl,rfl⟩
 go_wp2_with fail
 refine (C3.out _).mono ?_
 rintro e w1 ⟨rfl,rfl⟩
 go_wp2_with fail
 refine (C4.out _).mono ?_
 rintro e w1 ⟨rfl,rfl⟩
 go_wp2_with fail
 refine (HCS.out _).mono ?_
 rintro e w8 ⟨rfl,hb6⟩
 have HB_6:=Lib.hid (bel_sub HB.out hb6);have HX_6:=Lib.hid (HX.out.sub hb6);clear hb6
 go_wp2_with fail
 refine (HR.out _).mono ?_
 rintro e w9 ⟨rfl,hb7⟩
 have HB_7:=Lib.hid (bel_sub HB_6.out hb7);have HX_7:=Lib.hid (HX_6.out.sub hb7);clear hb7
 obtain ⟨x1,x2,x3,f1,f2,f3⟩:=blk3 HX_7.out
 have HZ:=Lib.hid (((HX_7.out.set 0 (.int .i64 sg)).set 1 (.int .i64 x)).set 2 (.int .i64 y))
 have HBZ:=Lib.hid (bel_set (g:=w.heap.size) (i:=2) (u:=.int .i64 y) (bel_set2 (g:=w.heap.size) (x:=.int .i64 sg) (y:=.int .i64 x) HB_7.out (Nat.le_refl _)) (Nat.le_refl _))
 go_wp2_with fail
 refine bodyPost_ret (results_rt rfl _ _ w.heap.size _ _ rfl HZ.out Tryz.underlying52 rfl (by kernel_rfl)) rfl ?_
 exact ⟨rfl,HBZ.out⟩
end
section
open Go.RowKit
attribute [local go_sem ↓] Go.wp_at_zero Go.wp_at_succ
def rtB (r:RT):Bool:=((inB r.1 (-1) 1 && rvB r.2) && decide (0≤r.2.1)) && (decide (r.2.1=0)==decide (r.1=0))
def rootT (r:RT):List UInt8:=if rtB r=true then (if r.1=0 then [48] else if r.1<0 then [45,115,113,114,116,40]++ratT r.2++[41] else [115,113,114,116,40]++ratT r.2++[41]) else []
theorem rootT_len (r:RT):(rootT r).length≤30:=by
 have:=ratT_len r.2
 unfold rootT
 split
 ·split
  ·simp
  ·split <;> simp <;> omega
 ·simp
theorem implRootValid_any (s x y:Int) (w:World) :
 Calls Tryz.prog 76 #[.agg #[.int .i64 s,.int .i64 x,.int .i64 y]] w fun e w'=>e=.returned (.bool (rtB (s,(x,y))))∧Below w.heap.size w w':=by
 have HB:=Lib.hid (bel_alloc (Below.refl w.heap.size w) (.cells #[.int .i64 s,.int .i64 x,.int .i64 y] 52))
 have HX:=Lib.hid (Blk.new w 52 #[.int .i64 s,.int .i64 x,.int .i64 y])
 obtain ⟨r,hr⟩:∃r,rtB (s,(x,y))=r:=⟨_,rfl⟩
 rw [hr]
 have HR:=Lib.hid hr;clear hr
 by_cases h1:-1≤s
 case neg =>
  have he:r=false:=by rw [←HR.out];simp [rtB,inB,h1]
  have HE:=Lib.hid he;clear he HR
  go_enter Tryz.func76,Tryz.ntmps76
  go_wp2_with fail
  go_ret
  exact ⟨ret_bool HE.out.symm,HB.out⟩
 by_cases h2:s≤1
 case neg =>
  have he:r=false:=by rw [←HR.out];simp [rtB,inB,h2]
  have HE:=Lib.hid he;clear he HR
  go_enter Tryz.func76,Tryz.ntmps76
  go_wp2_with fail
  go_ret
  exact ⟨ret_bool HE.out.symm,HB.out⟩
 have hin:inB s (-1) 1=true:=inB_iff.2 ⟨h1,h2⟩
 have HV:=Lib.hid (fun W=>implRatValid_any x y W)
 cases hv:rvB (x,y)
 ·have he:r=false:=by rw [←HR.out];simp [rtB,hv]
  have HE:=Lib.hid he;clear he HR
  rw [hv] at HV;clear hv hin
  go_enter Tryz.func76,Tryz.ntmps76
  go_wp2_with fail
  refine (HV.out _).mono ?_
  rintro e w1 ⟨rfl,hb1⟩
  have HB1:=Lib.hid (bel_sub HB.out hb1);clear hb1
  go_wp2_with fail
  go_ret
  exact ⟨ret_bool HE.out.symm,HB1.out⟩
 have he:r=(decide (0≤x) && (decide (x=0)==decide (s=0))):=by rw [←HR.out];simp [rtB,hv,hin]
 have HE:=Lib.hid he;clear he HR
 rw [hv] at HV;clear hv hin
 have hs:s=-1∨s=0∨s=1:=by omega
 clear h1 h2
 rcases hs with rfl | rfl | rfl
 all_goals
  go_enter Tryz.func76,Tryz.ntmps76
  go_wp2_with fail
  refine (HV.out _).mono ?_
  rintro e w1 ⟨rfl,hb1⟩
  have HB1:=Lib.hid (bel_sub HB.out hb1)
  obtain ⟨x1,x2,x3,_,_,_⟩:=blk3 (HX.out.sub hb1)
  clear hb1
  go_wp2_with fail
  all_goals
   go_ret
   refine ⟨ret_bool ?_,HB1.out⟩
   rw [HE.out]
   (simp_all <;> first | rfl | omega | (rw [Bool.eq_iff_iff];simp))
theorem implRootText_any (s x y:Int) (w:World) (ht:Tab w) :
 Calls Tryz.prog 28 #[.agg #[.int .i64 s,.int .i64 x,.int .i64 y]] w fun e w'=>e=.returned (.string (bs (rootT (s,(x,y)))))∧Below w.heap.size w w':=by
 have HV:=Lib.hid (fun W=>implRootValid_any s x y W)
 have HB:=Lib.hid (bel_alloc (Below.refl w.heap.size w) (.cells #[.int .i64 s,.int .i64 x,.int .i64 y] 52))
 have HX:=Lib.hid (Blk.new w 52 #[.int .i64 s,.int .i64 x,.int .i64 y])
 have HT:=Lib.hid (fun W (hb:Below w.heap.size w W)=>ht.on hb);clear ht
 cases hv:rtB (s,(x,y))
 ·have he:rootT (s,(x,y))=[]:=by unfold rootT;rw [hv];simp
  rw [he,bs_nil];rw [hv] at HV;clear hv he
  go_enter Tryz.func28,Tryz.ntmps28
  go_wp2_with fail
  refine (HV.out _).mono ?_
  rintro e w1 ⟨rfl,hb1⟩
  have HB1:=Lib.hid (bel_sub HB.out hb1);clear hb1
  go_wp2_with fail
  go_ret
  exact ⟨rfl,HB1.out⟩
 rw [hv] at HV
 have HRT:=Lib.hid (fun W (hW:Tab W)=>implRatText_any x y W hW)
 have hz:(bs (ratT (x,y))).size≤23:=by rw [bs_size];exact ratT_len _
 by_cases h0:s=0
 ·have he:rootT (s,(x,y))=[48]:=by unfold rootT;rw [hv,if_pos rfl,if_pos h0]
  rw [he];clear hv he
  subst h0
  go_enter Tryz.func28,Tryz.ntmps28
  go_wp2_with fail
  refine (HV.out _).mono ?_
  rintro e w1 ⟨rfl,hb1⟩
  have HB1:=Lib.hid (bel_sub HB.out hb1)
  obtain ⟨x1,x2,x3,_,_,_⟩:=blk3 (HX.out.sub hb1)
  clear hb1
  go_wp2_with fail
  go_ret
  exact ⟨rfl,HB1.out⟩
 have e0:(s==0)=false:=by simpa using h0
 by_cases h1:s<0
 ·have he:bs (rootT (s,(x,y)))=(⟨#[45,115,113,114,116,40]⟩:ByteArray)++bs (ratT (x,y))++⟨#[41]⟩:=by
   unfold rootT;rw [hv,if_pos rfl,if_neg h0,if_pos h1,←bs_append,←bs_append];rfl
  rw [he];clear hv he
  generalize bs (ratT (x,y))=T at *
  go_enter Tryz.func28,Tryz.ntmps28
  go_wp2_with fail
  refine (HV.out _).mono ?_
  rintro e w1 ⟨rfl,hb1⟩
  have HB1:=Lib.hid (bel_sub HB.out hb1)
  obtain ⟨x1,x2,x3,_,_,_⟩:=blk3 (HX.out.sub hb1)
  clear hb1
  go_wp2_with fail
  refine (HRT.out _ (HT.out _ HB1.out)).mono ?_
  rintro e w2 ⟨rfl,hb2⟩
  have HB2:=Lib.hid (bel_sub HB1.out hb2);clear hb2
  go_wp2_with fail
  go_ret
  exact ⟨rfl,HB2.out⟩
 ·have he:bs (rootT (s,(x,y)))=(⟨#[115,113,114,116,40]⟩:ByteArray)++bs (ratT (x,y))++⟨#[41]⟩:=by
   unfold rootT;rw [hv,if_pos rfl,if_neg h0,if_neg h1,←bs_append,←bs_append];rfl
  rw [he];clear hv he
  generalize bs (ratT (x,y))=T at *
  go_enter Tryz.func28,Tryz.ntmps28
  go_wp2_with fail
  refine (HV.out _).mono ?_
  rintro e w1 ⟨rfl,hb1⟩
  have HB1:=Lib.hid (bel_sub HB.out hb1)
  obtain ⟨x1,x2,x3,_,_,_⟩:=blk3 (HX.out.sub hb1)
  clear hb1
  go_wp2_with fail
  refine (HRT.out _ (HT.out _ HB1.out)).mono ?_
  rintro e w2 ⟨rfl,hb2⟩
  have HB2:=Lib.hid (bel_sub HB1.out hb2);clear hb2
  go_wp2_with fail
  go_ret
  exact ⟨rfl,HB2.out⟩
end
end
end Go.Proofs.YtlgdndnaiogooaaGreatDoor
