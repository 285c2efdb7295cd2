/- Parts of the proof of FnExactExecute: SxP Sx1. -/
import Derived.Test.YtjdfbnlaiiknpaaGreatDoorFnExactExecuteQ10
set_option maxHeartbeats 20000000
set_option maxRecDepth 1000000
set_option linter.unusedSimpArgs false
set_option linter.unusedVariables false
namespace Go.Proofs.YtjdfbnlaiiknpaaGreatDoor
section
open Go.RowKit
def fac:Nat→Nat
 | 0=>1
 | n+1=>(n+1)*fac n
theorem fac_pos:∀n,0<fac n
 | 0=>by decide
 | n+1=>Nat.mul_pos (by omega) (fac_pos n)
theorem fac_mono {m n:Nat} (h:m≤n):fac m≤fac n:=by
 induction n with
 | zero=>rw [Nat.le_zero.1 h];exact Nat.le_refl _
 | succ n ih =>
  rcases Nat.lt_or_ge n m with h1 | h1
  ·rw [show m=n+1 by omega];exact Nat.le_refl _
  ·refine Nat.le_trans (ih h1) ?_
   show fac n≤(n+1)*fac n
   exact Nat.le_mul_of_pos_left _ (by omega)
theorem fac_13 {n:Nat} (h:n≤13):fac n≤6227020800:=Nat.le_trans (fac_mono h) (by decide)
theorem pasc_fac (n:Nat):∀k,k≤n→pasc n k*(fac k*fac (n-k))=fac n
 | 0,_=>by rw [pasc_zero];simp [fac]
 | k+1,h=>by
  have ih:=pasc_fac n k (by omega)
  have hs:=pasc_step n k (by omega)
  have e:fac (n-k)=(n-k)*fac (n-(k+1)):=by
   rw [show n-k=(n-(k+1))+1 by omega];rfl
  have e2:fac (k+1)=(k+1)*fac k:=rfl
  rw [e] at ih
  rw [e2]
  calc pasc n (k+1)*((k+1)*fac k*fac (n-(k+1)))
   = (pasc n (k+1)*(k+1))*(fac k*fac (n-(k+1))):=by simp only [Nat.mul_assoc]
   _=(pasc n k*(n-k))*(fac k*fac (n-(k+1))):=by rw [hs]
   _=pasc n k*(fac k*((n-k)*fac (n-(k+1)))):=by simp only [Nat.mul_assoc,Nat.mul_left_comm]
   _=fac n:=ih
def mulN:Nat→List Nat→Nat
 | _,[]=>1
 | left,g :: gs=>pasc left g*mulN (left-g) gs
def facs:List Nat→Nat
 | []=>1
 | g :: gs=>fac g*facs gs
theorem facs_pos:∀gs,0<facs gs
 | []=>by decide
 | g :: gs=>Nat.mul_pos (fac_pos g) (facs_pos gs)
theorem mulN_fac:∀(gs:List Nat) (left:Nat),gs.sum=left→mulN left gs*facs gs=fac left
 | [],left,h=>by simp at h;subst h;rfl
 | g :: gs,left,h=>by
  rw [List.sum_cons] at h
  have ih:=mulN_fac gs (left-g) (by omega)
  have hp:=pasc_fac left g (by omega)
  unfold mulN facs
  calc pasc left g*mulN (left-g) gs*(fac g*facs gs)
   = pasc left g*(fac g*(mulN (left-g) gs*facs gs)):=by simp only [Nat.mul_assoc,Nat.mul_left_comm]
   _=fac left:=by rw [ih,hp]
def divL:Nat→List Nat→Nat
 | x,[]=>x
 | x,g :: gs=>divL (x / fac g) gs
theorem divL_eq:∀(gs:List Nat) (x:Nat),divL x gs=x / facs gs
 | [],x=>by unfold divL facs;simp
 | g :: gs,x=>by unfold divL facs;rw [divL_eq gs,Nat.div_div_eq_div_mul]
theorem divL_ways {gs:List Nat} {t:Nat} (h:gs.sum=t):divL (fac (t+1)) gs=(t+1)*mulN t gs:=by
 rw [divL_eq]
 have hm:=mulN_fac gs t h
 show (t+1)*fac t / facs gs=_
 rw [←hm,←Nat.mul_assoc,Nat.mul_div_cancel _ (facs_pos gs)]
theorem divL_le:∀(gs:List Nat) (x:Nat),divL x gs≤x
 | [],x=>Nat.le_refl _
 | g :: gs,x=>Nat.le_trans (divL_le gs _) (Nat.div_le_self _ _)
theorem mulN_le {gs:List Nat} {t:Nat} (h:gs.sum=t) (ht:t≤12):(t+1)*mulN t gs≤6227020800:=by
 rw [←divL_ways h]
 exact Nat.le_trans (divL_le _ _) (fac_13 (by omega))
def sxG (a b c d e f:Nat) (t:Nat):List Int :=
 [(t:Int)-((a+b+c) / 2:Nat),(t:Int)-((a+e+f) / 2:Nat),(t:Int)-((d+b+f) / 2:Nat),(t:Int)-((d+e+c) / 2:Nat),((a+b+d+e) / 2:Nat)-(t:Int),((b+c+e+f) / 2:Nat)-(t:Int),((a+c+d+f) / 2:Nat)-(t:Int)]
def sxLow (a b c d e f:Nat):Nat:=max (max (max (max 0 ((a+b+c) / 2)) ((a+e+f) / 2)) ((d+b+f) / 2)) ((d+e+c) / 2)
def sxHi (a b c d e f:Nat):Nat:=min (min ((a+b+d+e) / 2) ((b+c+e+f) / 2)) ((a+c+d+f) / 2)
def sxN (a b c d e f:Nat) (t:Nat):List Nat :=
 [t-(a+b+c) / 2,t-(a+e+f) / 2,t-(d+b+f) / 2,t-(d+e+c) / 2,(a+b+d+e) / 2-t,(b+c+e+f) / 2-t,(a+c+d+f) / 2-t]
def sxTm (a b c d e f:Nat) (t:Nat):Int:=if sxLow a b c d e f≤t∧t≤sxHi a b c d e f then (((t+1)*mulN t (sxN a b c d e f t):Nat):Int) else 0
def sxSum (a b c d e f:Nat):Nat→Int
 | 0=>0
 | t+1=>sxSum a b c d e f t+(if t % 2=1 then -(sxTm a b c d e f t) else sxTm a b c d e f t)
def sxE (a b c d e f:Nat):Prop:=((a≤6∧b≤6∧c≤6)∧d≤6∧e≤6∧f≤6)∧(a+b+c) % 2=0∧(a+e+f) % 2=0∧(d+b+f) % 2=0∧(d+e+c) % 2=0
theorem sxLow_iff {a b c d e f t:Nat}:sxLow a b c d e f≤t↔(a+b+c) / 2≤t∧(a+e+f) / 2≤t∧(d+b+f) / 2≤t∧(d+e+c) / 2≤t:=by
 unfold sxLow
 simp only [Nat.max_le,Nat.zero_le,true_and,and_assoc]
theorem sxHi_iff {a b c d e f t:Nat}:t≤sxHi a b c d e f↔t≤(a+b+d+e) / 2∧t≤(b+c+e+f) / 2∧t≤(a+c+d+f) / 2:=by
 unfold sxHi
 simp only [Nat.le_min,and_assoc]
theorem sx_halves {a b c d e f:Nat} (h:sxE a b c d e f):2*((a+b+c) / 2)=a+b+c∧2*((a+e+f) / 2)=a+e+f∧2*((d+b+f) / 2)=d+b+f∧2*((d+e+c) / 2)=d+e+c∧2*((a+b+d+e) / 2)=a+b+d+e∧2*((b+c+e+f) / 2)=b+c+e+f∧2*((a+c+d+f) / 2)=a+c+d+f:=by
 obtain ⟨_,e1,e2,e3,e4⟩:=h
 refine ⟨?_,?_,?_,?_,?_,?_,?_⟩ <;> omega
theorem sxN_sum {a b c d e f t:Nat} (h:sxE a b c d e f) (h1:sxLow a b c d e f≤t) (h2:t≤sxHi a b c d e f):(sxN a b c d e f t).sum=t:=by
 obtain ⟨q1,q2,q3,q4,q5,q6,q7⟩:=sx_halves h
 obtain ⟨l1,l2,l3,l4⟩:=sxLow_iff.1 h1
 obtain ⟨m1,m2,m3⟩:=sxHi_iff.1 h2
 unfold sxN
 simp only [List.sum_cons,List.sum_nil]
 clear h h1 h2
 generalize (a+b+c) / 2=s0 at *
 generalize (a+e+f) / 2=s1 at *
 generalize (d+b+f) / 2=s2 at *
 generalize (d+e+c) / 2=s3 at *
 generalize (a+b+d+e) / 2=p0 at *
 generalize (b+c+e+f) / 2=p1 at *
 generalize (a+c+d+f) / 2=p2 at *
 have hs:p0+p1+p2=s0+s1+s2+s3:=by omega
 clear q1 q2 q3 q4 q5 q6 q7
 omega
theorem sxHi_12 {a b c d e f:Nat} (h:sxE a b c d e f):sxHi a b c d e f≤12:=by
 obtain ⟨_,_⟩:=h
 have h1:=(sxHi_iff (a:=a) (b:=b) (c:=c) (d:=d) (e:=e) (f:=f)).1 (Nat.le_refl _)
 omega
theorem sxLow_9 {a b c d e f:Nat} (h:sxE a b c d e f):sxLow a b c d e f≤9:=by
 obtain ⟨_,_⟩:=h
 rw [sxLow_iff]
 omega
theorem sxTm_bd {a b c d e f:Nat} (h:sxE a b c d e f) (t:Nat):0≤sxTm a b c d e f t∧sxTm a b c d e f t≤6227020800:=by
 unfold sxTm
 split
 ·rename_i hc
  have:=mulN_le (sxN_sum h hc.1 hc.2) (Nat.le_trans hc.2 (sxHi_12 h))
  omega
 ·omega
theorem sxSum_bd {a b c d e f:Nat} (h:sxE a b c d e f):∀t:Nat,-(6227020800*(t:Int))≤sxSum a b c d e f t∧sxSum a b c d e f t≤6227020800*(t:Int)
 | 0=>by simp [sxSum]
 | t+1=>by
  have h1:=sxSum_bd h t
  have h2:=sxTm_bd h t
  unfold sxSum
  split <;> omega
theorem sxSum_low (a b c d e f:Nat):∀t,t≤sxLow a b c d e f→sxSum a b c d e f t=0
 | 0,_=>rfl
 | t+1,h=>by
  have h1:=sxSum_low a b c d e f t (by omega)
  have h2:sxTm a b c d e f t=0:=by unfold sxTm;rw [if_neg (by omega)]
  unfold sxSum;rw [h1,h2];simp
theorem sxSum_hi (a b c d e f:Nat) (t:Nat) (h:sxHi a b c d e f<t):∀k,sxSum a b c d e f (t+k)=sxSum a b c d e f t
 | 0=>rfl
 | k+1=>by
  have h1:=sxSum_hi a b c d e f t h k
  have h2:sxTm a b c d e f (t+k)=0:=by unfold sxTm;rw [if_neg (by omega)]
  show sxSum a b c d e f (t+k)+(if (t+k) % 2=1 then -(sxTm a b c d e f (t+k)) else sxTm a b c d e f (t+k))=_
  rw [h1,h2];simp
theorem sxSum_end {a b c d e f t:Nat} (h:sxHi a b c d e f<t) (ht:t≤13):sxSum a b c d e f 13=sxSum a b c d e f t:=by
 have:=sxSum_hi a b c d e f t h (13-t)
 rwa [show t+(13-t)=13 by omega] at this
def wyZ (gs:List Int):Int:=if gs.all (fun g=>decide (0≤g))=true then ((mulN (gs.map Int.toNat).sum (gs.map Int.toNat):Nat):Int) else 0
theorem wyZ_six {a b c d e f t:Nat} (h:sxE a b c d e f):((t:Int)+1)*wyZ (sxG a b c d e f t)=sxTm a b c d e f t:=by
 have hall:(sxG a b c d e f t).all (fun g=>decide (0≤g))=true↔sxLow a b c d e f≤t∧t≤sxHi a b c d e f:=by
  rw [sxLow_iff,sxHi_iff]
  unfold sxG
  simp only [List.all_cons,List.all_nil,Bool.and_true,Bool.and_eq_true,decide_eq_true_eq]
  generalize (a+b+c) / 2=s0 at *
  generalize (a+e+f) / 2=s1 at *
  generalize (d+b+f) / 2=s2 at *
  generalize (d+e+c) / 2=s3 at *
  generalize (a+b+d+e) / 2=p0 at *
  generalize (b+c+e+f) / 2=p1 at *
  generalize (a+c+d+f) / 2=p2 at *
  omega
 have hmap:sxLow a b c d e f≤t∧t≤sxHi a b c d e f→(sxG a b c d e f t).map Int.toNat=sxN a b c d e f t:=by
  rw [sxLow_iff,sxHi_iff]
  unfold sxG sxN
  intro hc
  simp only [List.map_cons,List.map_nil,List.cons.injEq,and_true]
  generalize (a+b+c) / 2=s0 at *
  generalize (a+e+f) / 2=s1 at *
  generalize (d+b+f) / 2=s2 at *
  generalize (d+e+c) / 2=s3 at *
  generalize (a+b+d+e) / 2=p0 at *
  generalize (b+c+e+f) / 2=p1 at *
  generalize (a+c+d+f) / 2=p2 at *
  omega
 unfold wyZ sxTm
 by_cases hc:sxLow a b c d e f≤t∧t≤sxHi a b c d e f
 ·rw [if_pos (hall.2 hc),if_pos hc,hmap hc,sxN_sum h hc.1 hc.2]
  push_cast
  rfl
 ·rw [if_neg (fun hx=>hc (hall.1 hx)),if_neg hc,Int.mul_zero]
def dlt (a b c:Nat):Nat:=fac ((a+b+c) / 2+1) / (fac ((a+b-c) / 2)*fac ((a+c-b) / 2)*fac ((b+c-a) / 2))
end
section
open Go.RowKit
attribute [local go_sem ↓] Go.wp_at_zero Go.wp_at_succ
theorem factorial_any (n:Nat) (w:World) (hn:n≤13) :
 Calls Tryz.prog 242 #[.int .i64 (n:Int)] w fun e w'=>e=.returned (.int .i64 ((fac n:Nat):Int))∧w=w':=by
 go_enter Tryz.func242,Tryz.ntmps242
 go_wp2_with fail
 go_loop [3,4] (fun p k=>∃(q r:Nat),k=.int .i64 (q:Int)∧p=.int .i64 (r:Int)∧2≤q∧q≤14∧Hid (r=fac (q-1))∧Hid (q≤n+1∨q=2)) (fun _ k=>15-(RowKit.intOf k).toNat)
 case atStart=>exact ⟨2,1,rfl,rfl,by omega,by omega,rfl,.inr rfl⟩
 case round =>
  obtain ⟨q,r,rfl,rfl,h2,h14,HR,HQ⟩:=hrel
  by_cases hlt:q≤n
  ·have hr2:r*q=fac (q+1-1):=by
    rw [HR.out,show q+1-1=(q-1)+1 by omega,Nat.mul_comm]
    show q*fac (q-1)=(q-1+1)*fac (q-1)
    rw [show q-1+1=q by omega]
   have hb:r*q≤6227020800:=by rw [hr2];exact fac_13 (by omega)
   have HR2:=Lib.hid hr2
   clear hr2
   have m0:(0:Int)≤(r:Int)*(q:Int):=by rw [←Int.natCast_mul];omega
   have m1:(r:Int)*(q:Int)≤6227020800:=by rw [←Int.natCast_mul];omega
   go_wp2_with fail
   go_round
   case rel=>exact ⟨q+1,r*q,by go_num,by rw [Int.natCast_mul],by omega,by omega,HR2.out,.inl (by omega)⟩
   case measure=>simp [RowKit.intOf];omega
  ·have HE:Hid (r=fac n):=by
    unfold Hid
    rw [HR.out]
    rcases HQ.out with h | h
    ·rw [show q-1=n by omega]
    ·subst h
     have:n=0∨n=1:=by omega
     rcases this with rfl | rfl <;> rfl
   go_wp2_with fail
   go_ret
   exact ⟨ret_int (by rw [HE.out]),rfl⟩
def dltS (a b c:Nat):Nat:=((a+b+c) / 2+1)*pasc ((a+b+c) / 2) ((a+b-c) / 2)*pasc ((a+b+c) / 2-(a+b-c) / 2) ((a+c-b) / 2)
theorem dlt_all:∀a b c:Fin 7,triB (a.val:Int) (b.val:Int) (c.val:Int)=true→dltS a.val b.val c.val=dlt a.val b.val c.val∧1≤dlt a.val b.val c.val∧dlt a.val b.val c.val≤16800∧fac ((a.val+b.val-c.val) / 2)*fac ((a.val+c.val-b.val) / 2)*fac ((b.val+c.val-a.val) / 2)≤1000000:=by decide +kernel
theorem dlt_at {a b c:Nat} (ha:a≤6) (hb:b≤6) (hc:c≤6) (h:triB (a:Int) (b:Int) (c:Int)=true):dltS a b c=dlt a b c∧1≤dlt a b c∧dlt a b c≤16800∧fac ((a+b-c) / 2)*fac ((a+c-b) / 2)*fac ((b+c-a) / 2)≤1000000 :=
 dlt_all ⟨a,by omega⟩ ⟨b,by omega⟩ ⟨c,by omega⟩ h
end
end Go.Proofs.YtjdfbnlaiiknpaaGreatDoor
