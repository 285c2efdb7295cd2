/- Parts of the proof of : SxP Sx1 Sx2 Sx3. -/
import Derived.Test.YtjdfbnlaiiknpaaGreatDoorQ26
set_option maxHeartbeats 20000000
set_option maxRecDepth 1000000
set_option linter.unusedSimpArgs false
set_option linter.unusedVariables false
namespace Go.Proofs.YtjdfbnlaiiknpaaGreatDoor
section
open Go.RowKit
def fac:Nat→Nat
 | 0=>1
 | n+1=>(n+1)*fac n
theorem fac_pos:∀n,0<fac n
 | 0=>by decide
 | n+1=>Nat.mul_pos (by omega) (fac_pos n)
theorem fac_mono {m n:Nat} (h:m≤n):fac m≤fac n:=by
 induction n with
 | zero=>rw [Nat.le_zero.1 h];exact Nat.le_refl _
 | succ n ih =>
  rcases Nat.lt_or_ge n m with h1 | h1
  ·rw [show m=n+1 by omega];exact Nat.le_refl _
  ·refine Nat.le_trans (ih h1) ?_
   show fac n≤(n+1)*fac n
   exact Nat.le_mul_of_pos_left _ (by omega)
theorem fac_13 {n:Nat} (h:n≤13):fac n≤6227020800:=Nat.le_trans (fac_mono h) (by decide)
theorem pasc_fac (n:Nat):∀k,k≤n→pasc n k*(fac k*fac (n-k))=fac n
 | 0,_=>by rw [pasc_zero];simp [fac]
 | k+1,h=>by
  have ih:=pasc_fac n k (by omega)
  have hs:=pasc_step n k (by omega)
  have e:fac (n-k)=(n-k)*fac (n-(k+1)):=by
   rw [show n-k=(n-(k+1))+1 by omega];rfl
  have e2:fac (k+1)=(k+1)*fac k:=rfl
  rw [e] at ih
  rw [e2]
  calc pasc n (k+1)*((k+1)*fac k*fac (n-(k+1)))
   = (pasc n (k+1)*(k+1))*(fac k*fac (n-(k+1))):=by simp only [Nat.mul_assoc]
   _=(pasc n k*(n-k))*(fac k*fac (n-(k+1))):=by rw [hs]
   _=pasc n k*(fac k*((n-k)*fac (n-(k+1)))):=by simp only [Nat.mul_assoc,Nat.mul_left_comm]
   _=fac n:=ih
def mulN:Nat→List Nat→Nat
 | _,[]=>1
 | left,g :: gs=>pasc left g*mulN (left-g) gs
def facs:List Nat→Nat
 | []=>1
 | g :: gs=>fac g*facs gs
theorem facs_pos:∀gs,0<facs gs
 | []=>by decide
 | g :: gs=>Nat.mul_pos (fac_pos g) (facs_pos gs)
theorem mulN_fac:∀(gs:List Nat) (left:Nat),gs.sum=left→mulN left gs*facs gs=fac left
 | [],left,h=>by simp at h;subst h;rfl
 | g :: gs,left,h=>by
  rw [List.sum_cons] at h
  have ih:=mulN_fac gs (left-g) (by omega)
  have hp:=pasc_fac left g (by omega)
  unfold mulN facs
  calc pasc left g*mulN (left-g) gs*(fac g*facs gs)
   = pasc left g*(fac g*(mulN (left-g) gs*facs gs)):=by simp only [Nat.mul_assoc,Nat.mul_left_comm]
   _=fac left:=by rw [ih,hp]
def divL:Nat→List Nat→Nat
 | x,[]=>x
 | x,g :: gs=>divL (x / fac g) gs
theorem divL_eq:∀(gs:List Nat) (x:Nat),divL x gs=x / facs gs
 | [],x=>by unfold divL facs;simp
 | g :: gs,x=>by unfold divL facs;rw [divL_eq gs,Nat.div_div_eq_div_mul]
theorem divL_ways {gs:List Nat} {t:Nat} (h:gs.sum=t):divL (fac (t+1)) gs=(t+1)*mulN t gs:=by
 rw [divL_eq]
 have hm:=mulN_fac gs t h
 show (t+1)*fac t / facs gs=_
 rw [←hm,←Nat.mul_assoc,Nat.mul_div_cancel _ (facs_pos gs)]
theorem divL_le:∀(gs:List Nat) (x:Nat),divL x gs≤x
 | [],x=>Nat.le_refl _
 | g :: gs,x=>Nat.le_trans (divL_le gs _) (Nat.div_le_self _ _)
theorem mulN_le {gs:List Nat} {t:Nat} (h:gs.sum=t) (ht:t≤12):(t+1)*mulN t gs≤6227020800:=by
 rw [←divL_ways h]
 exact Nat.le_trans (divL_le _ _) (fac_13 (by omega))
def sxG (a b c d e f:Nat) (t:Nat):List Int :=
 [(t:Int)-((a+b+c) / 2:Nat),(t:Int)-((a+e+f) / 2:Nat),(t:Int)-((d+b+f) / 2:Nat),(t:Int)-((d+e+c) / 2:Nat),((a+b+d+e) / 2:Nat)-(t:Int),((b+c+e+f) / 2:Nat)-(t:Int),((a+c+d+f) / 2:Nat)-(t:Int)]
def sxLow (a b c d e f:Nat):Nat:=max (max (max (max 0 ((a+b+c) / 2)) ((a+e+f) / 2)) ((d+b+f) / 2)) ((d+e+c) / 2)
def sxHi (a b c d e f:Nat):Nat:=min (min ((a+b+d+e) / 2) ((b+c+e+f) / 2)) ((a+c+d+f) / 2)
def sxN (a b c d e f:Nat) (t:Nat):List Nat :=
 [t-(a+b+c) / 2,t-(a+e+f) / 2,t-(d+b+f) / 2,t-(d+e+c) / 2,(a+b+d+e) / 2-t,(b+c+e+f) / 2-t,(a+c+d+f) / 2-t]
def sxTm (a b c d e f:Nat) (t:Nat):Int:=if sxLow a b c d e f≤t∧t≤sxHi a b c d e f then (((t+1)*mulN t (sxN a b c d e f t):Nat):Int) else 0
def sxSum (a b c d e f:Nat):Nat→Int
 | 0=>0
 | t+1=>sxSum a b c d e f t+(if t % 2=1 then -(sxTm a b c d e f t) else sxTm a b c d e f t)
def sxE (a b c d e f:Nat):Prop:=((a≤6∧b≤6∧c≤6)∧d≤6∧e≤6∧f≤6)∧(a+b+c) % 2=0∧(a+e+f) % 2=0∧(d+b+f) % 2=0∧(d+e+c) % 2=0
theorem sxLow_iff {a b c d e f t:Nat}:sxLow a b c d e f≤t↔(a+b+c) / 2≤t∧(a+e+f) / 2≤t∧(d+b+f) / 2≤t∧(d+e+c) / 2≤t:=by
 unfold sxLow
 simp only [Nat.max_le,Nat.zero_le,true_and,and_assoc]
theorem sxHi_iff {a b c d e f t:Nat}:t≤sxHi a b c d e f↔t≤(a+b+d+e) / 2∧t≤(b+c+e+f) / 2∧t≤(a+c+d+f) / 2:=by
 unfold sxHi
 simp only [Nat.le_min,and_assoc]
theorem sx_halves {a b c d e f:Nat} (h:sxE a b c d e f):2*((a+b+c) / 2)=a+b+c∧2*((a+e+f) / 2)=a+e+f∧2*((d+b+f) / 2)=d+b+f∧2*((d+e+c) / 2)=d+e+c∧2*((a+b+d+e) / 2)=a+b+d+e∧2*((b+c+e+f) / 2)=b+c+e+f∧2*((a+c+d+f) / 2)=a+c+d+f:=by
 obtain ⟨_,e1,e2,e3,e4⟩:=h
 refine ⟨?_,?_,?_,?_,?_,?_,?_⟩ <;> omega
theorem sxN_sum {a b c d e f t:Nat} (h:sxE a b c d e f) (h1:sxLow a b c d e f≤t) (h2:t≤sxHi a b c d e f):(sxN a b c d e f t).sum=t:=by
 obtain ⟨q1,q2,q3,q4,q5,q6,q7⟩:=sx_halves h
 obtain ⟨l1,l2,l3,l4⟩:=sxLow_iff.1 h1
 obtain ⟨m1,m2,m3⟩:=sxHi_iff.1 h2
 unfold sxN
 simp only [List.sum_cons,List.sum_nil]
 clear h h1 h2
 generalize (a+b+c) / 2=s0 at *
 generalize (a+e+f) / 2=s1 at *
 generalize (d+b+f) / 2=s2 at *
 generalize (d+e+c) / 2=s3 at *
 generalize (a+b+d+e) / 2=p0 at *
 generalize (b+c+e+f) / 2=p1 at *
 generalize (a+c+d+f) / 2=p2 at *
 have hs:p0+p1+p2=s0+s1+s2+s3:=by omega
 clear q1 q2 q3 q4 q5 q6 q7
 omega
theorem sxHi_12 {a b c d e f:Nat} (h:sxE a b c d e f):sxHi a b c d e f≤12:=by
 obtain ⟨_,_⟩:=h
 have h1:=(sxHi_iff (a:=a) (b:=b) (c:=c) (d:=d) (e:=e) (f:=f)).1 (Nat.le_refl _)
 omega
theorem sxLow_9 {a b c d e f:Nat} (h:sxE a b c d e f):sxLow a b c d e f≤9:=by
 obtain ⟨_,_⟩:=h
 rw [sxLow_iff]
 omega
theorem sxTm_bd {a b c d e f:Nat} (h:sxE a b c d e f) (t:Nat):0≤sxTm a b c d e f t∧sxTm a b c d e f t≤6227020800:=by
 unfold sxTm
 split
 ·rename_i hc
  have:=mulN_le (sxN_sum h hc.1 hc.2) (Nat.le_trans hc.2 (sxHi_12 h))
  omega
 ·omega
theorem sxSum_bd {a b c d e f:Nat} (h:sxE a b c d e f):∀t:Nat,-(6227020800*(t:Int))≤sxSum a b c d e f t∧sxSum a b c d e f t≤6227020800*(t:Int)
 | 0=>by simp [sxSum]
 | t+1=>by
  have h1:=sxSum_bd h t
  have h2:=sxTm_bd h t
  unfold sxSum
  split <;> omega
theorem sxSum_low (a b c d e f:Nat):∀t,t≤sxLow a b c d e f→sxSum a b c d e f t=0
 | 0,_=>rfl
 | t+1,h=>by
  have h1:=sxSum_low a b c d e f t (by omega)
  have h2:sxTm a b c d e f t=0:=by unfold sxTm;rw [if_neg (by omega)]
  unfold sxSum;rw [h1,h2];simp
theorem sxSum_hi (a b c d e f:Nat) (t:Nat) (h:sxHi a b c d e f<t):∀k,sxSum a b c d e f (t+k)=sxSum a b c d e f t
 | 0=>rfl
 | k+1=>by
  have h1:=sxSum_hi a b c d e f t h k
  have h2:sxTm a b c d e f (t+k)=0:=by unfold sxTm;rw [if_neg (by omega)]
  show sxSum a b c d e f (t+k)+(if (t+k) % 2=1 then -(sxTm a b c d e f (t+k)) else sxTm a b c d e f (t+k))=_
  rw [h1,h2];simp
theorem sxSum_end {a b c d e f t:Nat} (h:sxHi a b c d e f<t) (ht:t≤13):sxSum a b c d e f 13=sxSum a b c d e f t:=by
 have:=sxSum_hi a b c d e f t h (13-t)
 rwa [show t+(13-t)=13 by omega] at this
def wyZ (gs:List Int):Int:=if gs.all (fun g=>decide (0≤g))=true then ((mulN (gs.map Int.toNat).sum (gs.map Int.toNat):Nat):Int) else 0
theorem wyZ_six {a b c d e f t:Nat} (h:sxE a b c d e f):((t:Int)+1)*wyZ (sxG a b c d e f t)=sxTm a b c d e f t:=by
 have hall:(sxG a b c d e f t).all (fun g=>decide (0≤g))=true↔sxLow a b c d e f≤t∧t≤sxHi a b c d e f:=by
  rw [sxLow_iff,sxHi_iff]
  unfold sxG
  simp only [List.all_cons,List.all_nil,Bool.and_true,Bool.and_eq_true,decide_eq_true_eq]
  generalize (a+b+c) / 2=s0 at *
  generalize (a+e+f) / 2=s1 at *
  generalize (d+b+f) / 2=s2 at *
  generalize (d+e+c) / 2=s3 at *
  generalize (a+b+d+e) / 2=p0 at *
  generalize (b+c+e+f) / 2=p1 at *
  generalize (a+c+d+f) / 2=p2 at *
  omega
 have hmap:sxLow a b c d e f≤t∧t≤sxHi a b c d e f→(sxG a b c d e f t).map Int.toNat=sxN a b c d e f t:=by
  rw [sxLow_iff,sxHi_iff]
  unfold sxG sxN
  intro hc
  simp only [List.map_cons,List.map_nil,List.cons.injEq,and_true]
  generalize (a+b+c) / 2=s0 at *
  generalize (a+e+f) / 2=s1 at *
  generalize (d+b+f) / 2=s2 at *
  generalize (d+e+c) / 2=s3 at *
  generalize (a+b+d+e) / 2=p0 at *
  generalize (b+c+e+f) / 2=p1 at *
  generalize (a+c+d+f) / 2=p2 at *
  omega
 unfold wyZ sxTm
 by_cases hc:sxLow a b c d e f≤t∧t≤sxHi a b c d e f
 ·rw [if_pos (hall.2 hc),if_pos hc,hmap hc,sxN_sum h hc.1 hc.2]
  push_cast
  rfl
 ·rw [if_neg (fun hx=>hc (hall.1 hx)),if_neg hc,Int.mul_zero]
def dlt (a b c:Nat):Nat:=fac ((a+b+c) / 2+1) / (fac ((a+b-c) / 2)*fac ((a+c-b) / 2)*fac ((b+c-a) / 2))
end
section
open Go.RowKit
attribute [local go_sem ↓] Go.wp_at_zero Go.wp_at_succ
theorem factorial_any (n:Nat) (w:World) (hn:n≤13) :
 Calls Tryz.prog 242 #[.int .i64 (n:Int)] w fun e w'=>e=.returned (.int .i64 ((fac n:Nat):Int))∧w=w':=by
 go_enter Tryz.func242,Tryz.ntmps242
 go_wp2_with fail
 go_loop [3,4] (fun p k=>∃(q r:Nat),k=.int .i64 (q:Int)∧p=.int .i64 (r:Int)∧2≤q∧q≤14∧Hid (r=fac (q-1))∧Hid (q≤n+1∨q=2)) (fun _ k=>15-(RowKit.intOf k).toNat)
 case atStart=>exact ⟨2,1,rfl,rfl,by omega,by omega,rfl,.inr rfl⟩
 case round =>
  obtain ⟨q,r,rfl,rfl,h2,h14,HR,HQ⟩:=hrel
  by_cases hlt:q≤n
  ·have hr2:r*q=fac (q+1-1):=by
    rw [HR.out,show q+1-1=(q-1)+1 by omega,Nat.mul_comm]
    show q*fac (q-1)=(q-1+1)*fac (q-1)
    rw [show q-1+1=q by omega]
   have hb:r*q≤6227020800:=by rw [hr2];exact fac_13 (by omega)
   have HR2:=Lib.hid hr2
   clear hr2
   have m0:(0:Int)≤(r:Int)*(q:Int):=by rw [←Int.natCast_mul];omega
   have m1:(r:Int)*(q:Int)≤6227020800:=by rw [←Int.natCast_mul];omega
   go_wp2_with fail
   go_round
   case rel=>exact ⟨q+1,r*q,by go_num,by rw [Int.natCast_mul],by omega,by omega,HR2.out,.inl (by omega)⟩
   case measure=>simp [RowKit.intOf];omega
  ·have HE:Hid (r=fac n):=by
    unfold Hid
    rw [HR.out]
    rcases HQ.out with h | h
    ·rw [show q-1=n by omega]
    ·subst h
     have:n=0∨n=1:=by omega
     rcases this with rfl | rfl <;> rfl
   go_wp2_with fail
   go_ret
   exact ⟨ret_int (by rw [HE.out]),rfl⟩
def dltS (a b c:Nat):Nat:=((a+b+c) / 2+1)*pasc ((a+b+c) / 2) ((a+b-c) / 2)*pasc ((a+b+c) / 2-(a+b-c) / 2) ((a+c-b) / 2)
theorem dlt_all:∀a b c:Fin 7,triB (a.val:Int) (b.val:Int) (c.val:Int)=true→dltS a.val b.val c.val=dlt a.val b.val c.val∧1≤dlt a.val b.val c.val∧dlt a.val b.val c.val≤16800∧fac ((a.val+b.val-c.val) / 2)*fac ((a.val+c.val-b.val) / 2)*fac ((b.val+c.val-a.val) / 2)≤1000000:=by decide +kernel
theorem dlt_at {a b c:Nat} (ha:a≤6) (hb:b≤6) (hc:c≤6) (h:triB (a:Int) (b:Int) (c:Int)=true):dltS a b c=dlt a b c∧1≤dlt a b c∧dlt a b c≤16800∧fac ((a+b-c) / 2)*fac ((a+c-b) / 2)*fac ((b+c-a) / 2)≤1000000 :=
 dlt_all ⟨a,by omega⟩ ⟨b,by omega⟩ ⟨c,by omega⟩ h
end
section
open Go.RowKit
attribute [local go_sem ↓] Go.wp_at_zero Go.wp_at_succ
theorem blk6 {w:World} {g:Nat} {t:TypeId} {a b c d e f:Value} (h:Blk w g t #[a,b,c,d,e,f]) :
 (w.cell? ⟨g,0,none⟩=some a∧w.cell? ⟨g,1,none⟩=some b∧w.cell? ⟨g,2,none⟩=some c)∧w.cell? ⟨g,3,none⟩=some d∧w.cell? ⟨g,4,none⟩=some e∧w.cell? ⟨g,5,none⟩=some f :=
 ⟨⟨h.cell 0,h.cell 1,h.cell 2⟩,h.cell 3,h.cell 4,h.cell 5⟩
theorem triads_any (a b c d e f:Int) (w:World) :
 Calls Tryz.prog 203 #[.agg #[.int .i64 a,.int .i64 b,.int .i64 c,.int .i64 d,.int .i64 e,.int .i64 f]] w fun en w'=>en=.returned (.agg #[.int .i64 a,.int .i64 b,.int .i64 c,.int .i64 a,.int .i64 e,.int .i64 f,.int .i64 d,.int .i64 b,.int .i64 f,.int .i64 d,.int .i64 e,.int .i64 c])∧Below w.heap.size w w':=by
 have HS:=Lib.hid ((Blk.new w 198 #[.int .i64 a,.int .i64 b,.int .i64 c,.int .i64 d,.int .i64 e,.int .i64 f]).alloc (.cells #[.int .i64 0,.int .i64 0,.int .i64 0,.int .i64 0,.int .i64 0,.int .i64 0,.int .i64 0,.int .i64 0,.int .i64 0,.int .i64 0,.int .i64 0,.int .i64 0] 202))
 have HZ:=Lib.hid (Blk.new (w.alloc (.cells #[.int .i64 a,.int .i64 b,.int .i64 c,.int .i64 d,.int .i64 e,.int .i64 f] 198)) 202 #[.int .i64 a,.int .i64 b,.int .i64 c,.int .i64 a,.int .i64 e,.int .i64 f,.int .i64 d,.int .i64 b,.int .i64 f,.int .i64 d,.int .i64 e,.int .i64 c])
 have HBZ:=Lib.hid (bel_alloc (bel_alloc (Below.refl w.heap.size w) (.cells #[.int .i64 a,.int .i64 b,.int .i64 c,.int .i64 d,.int .i64 e,.int .i64 f] 198)) (.cells #[.int .i64 a,.int .i64 b,.int .i64 c,.int .i64 a,.int .i64 e,.int .i64 f,.int .i64 d,.int .i64 b,.int .i64 f,.int .i64 d,.int .i64 e,.int .i64 c] 202))
 rw [World.size_alloc] at HZ
 obtain ⟨⟨x0,x1,x2⟩,x3,x4,x5⟩:=blk6 HS.out
 go_enter Tryz.func203,Tryz.ntmps203
 go_wp2_with fail
 refine bodyPost_ret (results_lev1 rfl _ _ (w.heap.size+1) _ _ rfl HZ.out Tryz.underlying202 rfl (by kernel_rfl)) rfl ?_
 exact ⟨rfl,HBZ.out⟩
theorem ix4_0 (x0 x1 x2 x3 x4 x5 x6 x7 x8 x9 x10 x11:Value) (w:World):(Instr.index 202 (.agg #[x0,x1,x2,x3,x4,x5,x6,x7,x8,x9,x10,x11]) (.int .i64 0)).run Tryz.prog w=.ok (.agg #[x0,x1,x2]) w:=by
 simp [Instr.index,run_underlying Tryz.underlying202,asIntOf,go_sem]
theorem ix4_1 (x0 x1 x2 x3 x4 x5 x6 x7 x8 x9 x10 x11:Value) (w:World):(Instr.index 202 (.agg #[x0,x1,x2,x3,x4,x5,x6,x7,x8,x9,x10,x11]) (.int .i64 1)).run Tryz.prog w=.ok (.agg #[x3,x4,x5]) w:=by
 simp [Instr.index,run_underlying Tryz.underlying202,asIntOf,go_sem]
theorem ix4_2 (x0 x1 x2 x3 x4 x5 x6 x7 x8 x9 x10 x11:Value) (w:World):(Instr.index 202 (.agg #[x0,x1,x2,x3,x4,x5,x6,x7,x8,x9,x10,x11]) (.int .i64 2)).run Tryz.prog w=.ok (.agg #[x6,x7,x8]) w:=by
 simp [Instr.index,run_underlying Tryz.underlying202,asIntOf,go_sem]
theorem ix4_3 (x0 x1 x2 x3 x4 x5 x6 x7 x8 x9 x10 x11:Value) (w:World):(Instr.index 202 (.agg #[x0,x1,x2,x3,x4,x5,x6,x7,x8,x9,x10,x11]) (.int .i64 3)).run Tryz.prog w=.ok (.agg #[x9,x10,x11]) w:=by
 simp [Instr.index,run_underlying Tryz.underlying202,asIntOf,go_sem]
theorem ix3_0 (x0 x1 x2:Value) (w:World):(Instr.index 234 (.agg #[x0,x1,x2]) (.int .i64 0)).run Tryz.prog w=.ok x0 w:=by
 simp [Instr.index,run_underlying Tryz.underlying234,asIntOf,go_sem]
theorem ix3_1 (x0 x1 x2:Value) (w:World):(Instr.index 234 (.agg #[x0,x1,x2]) (.int .i64 1)).run Tryz.prog w=.ok x1 w:=by
 simp [Instr.index,run_underlying Tryz.underlying234,asIntOf,go_sem]
theorem ix3_2 (x0 x1 x2:Value) (w:World):(Instr.index 234 (.agg #[x0,x1,x2]) (.int .i64 2)).run Tryz.prog w=.ok x2 w:=by
 simp [Instr.index,run_underlying Tryz.underlying234,asIntOf,go_sem]
def sxB (a b c d e f:Int):Bool:=tr6 a b c && (tr6 a e f && (tr6 d b f && tr6 d e c))
def exK (a b c d e f:Int):Nat→Bool
 | 0=>true
 | 1=>tr6 a b c
 | 2=>tr6 a b c && tr6 a e f
 | 3=>tr6 a b c && (tr6 a e f && tr6 d b f)
 | _=>sxB a b c d e f
theorem exists_any (a b c d e f:Int) (w:World) :
 Calls Tryz.prog 202 #[.agg #[.int .i64 a,.int .i64 b,.int .i64 c,.int .i64 d,.int .i64 e,.int .i64 f]] w fun en w'=>en=.returned (.bool (sxB a b c d e f))∧Below w.heap.size w w':=by
 have HT:=Lib.hid (fun W=>triads_any a b c d e f W)
 have HB0:=Lib.hid (bel_alloc (Below.refl w.heap.size w) (.cells #[.int .i64 a,.int .i64 b,.int .i64 c,.int .i64 d,.int .i64 e,.int .i64 f] 198))
 go_enter Tryz.func202,Tryz.ntmps202
 go_wp2_with fail
 refine (HT.out _).mono ?_
 rintro en w1 ⟨rfl,hb1⟩
 have HB1:=Lib.hid (bel_sub HB0.out hb1)
 clear hb1 HB0 HT
 go_wp2_with fail
 go_loopw [7] (fun i wr=>∃(k:Nat),k≤4∧i=.int .i64 (k:Int)∧Hid (exK a b c d e f k=true)∧Hid (Below w.heap.size w wr)) (fun i _=>4-(RowKit.intOf i).toNat)
 case atStart=>exact ⟨0,by omega,rfl,rfl,HB1.out⟩
 case round =>
  clear HB1
  obtain ⟨k,hk,rfl,HO,HB⟩:=hrel
  have hk5:k=0∨k=1∨k=2∨k=3∨k=4:=by omega
  clear hk
  rcases hk5 with rfl | rfl | rfl | rfl | rfl
  ·have HK:=Lib.hid (fun W=>triadValid_any a b c W)
   have HB2:=Lib.hid (bel_alloc HB.out (.cells #[.int .i64 a,.int .i64 b,.int .i64 c] 201))
   obtain ⟨y1,y2,y3,_,_,_⟩:=blk3 (Blk.new wr 201 #[.int .i64 a,.int .i64 b,.int .i64 c])
   have hix:=ix4_0 (.int .i64 a) (.int .i64 b) (.int .i64 c) (.int .i64 a) (.int .i64 e) (.int .i64 f) (.int .i64 d) (.int .i64 b) (.int .i64 f) (.int .i64 d) (.int .i64 e) (.int .i64 c)
   have ho:=HO.out
   unfold exK at ho
   cases hv:tr6 a b c
   ·rw [hv] at HK
    have HE:Hid (sxB a b c d e f=false):=by unfold Hid sxB;rw [hv];simp
    clear hv ho
    go_wp2_with fail
    refine (HK.out _).mono ?_
    rintro en w2 ⟨rfl,rfl⟩
    go_wp2_with fail
    go_ret
    exact ⟨ret_bool HE.out.symm,HB2.out⟩
   ·rw [hv] at HK
    have HO2:Hid (exK a b c d e f 1=true):=by
     unfold Hid exK
     simp only [Bool.and_eq_true] at ho ⊢
     simp [ho,hv]
    clear hv ho
    go_wp2_with fail
    refine (HK.out _).mono ?_
    rintro en w2 ⟨rfl,rfl⟩
    go_wp2_with fail
    go_roundw
    case rel=>exact ⟨1,by omega,rfl,HO2.out,HB2.out⟩
    case measure=>simp [RowKit.intOf]
  ·have HK:=Lib.hid (fun W=>triadValid_any a e f W)
   have HB2:=Lib.hid (bel_alloc HB.out (.cells #[.int .i64 a,.int .i64 e,.int .i64 f] 201))
   obtain ⟨y1,y2,y3,_,_,_⟩:=blk3 (Blk.new wr 201 #[.int .i64 a,.int .i64 e,.int .i64 f])
   have hix:=ix4_1 (.int .i64 a) (.int .i64 b) (.int .i64 c) (.int .i64 a) (.int .i64 e) (.int .i64 f) (.int .i64 d) (.int .i64 b) (.int .i64 f) (.int .i64 d) (.int .i64 e) (.int .i64 c)
   have ho:=HO.out
   unfold exK at ho
   cases hv:tr6 a e f
   ·rw [hv] at HK
    have HE:Hid (sxB a b c d e f=false):=by unfold Hid sxB;rw [hv];simp
    clear hv ho
    go_wp2_with fail
    refine (HK.out _).mono ?_
    rintro en w2 ⟨rfl,rfl⟩
    go_wp2_with fail
    go_ret
    exact ⟨ret_bool HE.out.symm,HB2.out⟩
   ·rw [hv] at HK
    have HO2:Hid (exK a b c d e f 2=true):=by
     unfold Hid exK
     simp only [Bool.and_eq_true] at ho ⊢
     simp [ho,hv]
    clear hv ho
    go_wp2_with fail
    refine (HK.out _).mono ?_
    rintro en w2 ⟨rfl,rfl⟩
    go_wp2_with fail
    go_roundw
    case rel=>exact ⟨2,by omega,rfl,HO2.out,HB2.out⟩
    case measure=>simp [RowKit.intOf]
  ·have HK:=Lib.hid (fun W=>triadValid_any d b f W)
   have HB2:=Lib.hid (bel_alloc HB.out (.cells #[.int .i64 d,.int .i64 b,.int .i64 f] 201))
   obtain ⟨y1,y2,y3,_,_,_⟩:=blk3 (Blk.new wr 201 #[.int .i64 d,.int .i64 b,.int .i64 f])
   have hix:=ix4_2 (.int .i64 a) (.int .i64 b) (.int .i64 c) (.int .i64 a) (.int .i64 e) (.int .i64 f) (.int .i64 d) (.int .i64 b) (.int .i64 f) (.int .i64 d) (.int .i64 e) (.int .i64 c)
   have ho:=HO.out
   unfold exK at ho
   cases hv:tr6 d b f
   ·rw [hv] at HK
    have HE:Hid (sxB a b c d e f=false):=by unfold Hid sxB;rw [hv];simp
    clear hv ho
    go_wp2_with fail
    refine (HK.out _).mono ?_
    rintro en w2 ⟨rfl,rfl⟩
    go_wp2_with fail
    go_ret
    exact ⟨ret_bool HE.out.symm,HB2.out⟩
   ·rw [hv] at HK
    have HO2:Hid (exK a b c d e f 3=true):=by
     unfold Hid exK
     simp only [Bool.and_eq_true] at ho ⊢
     simp [ho,hv]
    clear hv ho
    go_wp2_with fail
    refine (HK.out _).mono ?_
    rintro en w2 ⟨rfl,rfl⟩
    go_wp2_with fail
    go_roundw
    case rel=>exact ⟨3,by omega,rfl,HO2.out,HB2.out⟩
    case measure=>simp [RowKit.intOf]
  ·have HK:=Lib.hid (fun W=>triadValid_any d e c W)
   have HB2:=Lib.hid (bel_alloc HB.out (.cells #[.int .i64 d,.int .i64 e,.int .i64 c] 201))
   obtain ⟨y1,y2,y3,_,_,_⟩:=blk3 (Blk.new wr 201 #[.int .i64 d,.int .i64 e,.int .i64 c])
   have hix:=ix4_3 (.int .i64 a) (.int .i64 b) (.int .i64 c) (.int .i64 a) (.int .i64 e) (.int .i64 f) (.int .i64 d) (.int .i64 b) (.int .i64 f) (.int .i64 d) (.int .i64 e) (.int .i64 c)
   have ho:=HO.out
   unfold exK at ho
   cases hv:tr6 d e c
   ·rw [hv] at HK
    have HE:Hid (sxB a b c d e f=false):=by unfold Hid sxB;rw [hv];simp
    clear hv ho
    go_wp2_with fail
    refine (HK.out _).mono ?_
    rintro en w2 ⟨rfl,rfl⟩
    go_wp2_with fail
    go_ret
    exact ⟨ret_bool HE.out.symm,HB2.out⟩
   ·rw [hv] at HK
    have HO2:Hid (exK a b c d e f 4=true):=by
     unfold Hid exK sxB
     simp only [Bool.and_eq_true] at ho ⊢
     simp [ho,hv]
    clear hv ho
    go_wp2_with fail
    refine (HK.out _).mono ?_
    rintro en w2 ⟨rfl,rfl⟩
    go_wp2_with fail
    go_roundw
    case rel=>exact ⟨4,by omega,rfl,HO2.out,HB2.out⟩
    case measure=>simp [RowKit.intOf]
  ·have HE:Hid (sxB a b c d e f=true):=HO.out
   go_wp2_with fail
   go_ret
   exact ⟨ret_bool HE.out.symm,HB.out⟩
end
section
open Go.RowKit
attribute [local go_sem ↓] Go.wp_at_zero Go.wp_at_succ
theorem div_wrap {x k:Nat} (h:x≤1000000000000000000):wrap64 ((x:Int) / (k:Int))=((x / k:Nat):Int):=by
 have:=Nat.div_le_self x k
 rw [←Int.natCast_ediv]
 generalize x / k=q at *
 exact IntWalk.wrap64_in _ ⟨by omega,by omega⟩
theorem td2 (s:Nat):(2*(s:Int)).tdiv 2=(s:Int):=by rw [Int.mul_comm];exact Int.mul_tdiv_cancel _ (by decide)
theorem implDelta_any (a b c:Nat) (w:World) (ha:a≤6) (hb:b≤6) (hc:c≤6) (h:triB (a:Int) (b:Int) (c:Int)=true) :
 Calls Tryz.prog 204 #[.int .i64 (a:Int),.int .i64 (b:Int),.int .i64 (c:Int)] w fun e w'=>e=.returned (.int .i64 ((dlt a b c:Nat):Int))∧w=w':=by
 have HT:=Lib.hid (fun W=>SpinTriangle_all (a:Int) (b:Int) (c:Int) W)
 rw [h] at HT
 have hd:=(dlt_at ha hb hc h).2
 have ht:=triB_iff.1 h
 obtain ⟨s,hs⟩:∃s,(a+b+c) / 2=s:=⟨_,rfl⟩
 obtain ⟨x,hx⟩:∃x,(a+b-c) / 2=x:=⟨_,rfl⟩
 obtain ⟨y,hy⟩:∃y,(a+c-b) / 2=y:=⟨_,rfl⟩
 obtain ⟨z,hz⟩:∃z,(b+c-a) / 2=z:=⟨_,rfl⟩
 have e1:((a:Int)+b+c)=2*(s:Int):=by omega
 have e2:((a:Int)+b-c)=2*(x:Int):=by omega
 have e3:((a:Int)-b+c)=2*(y:Int):=by omega
 have e4:((b:Int)+c-a)=2*(z:Int):=by omega
 have hs9:s≤9:=by omega
 have hD:dlt a b c=fac (s+1) / (fac x*fac y*fac z):=by unfold dlt;rw [hs,hx,hy,hz]
 rw [hx,hy,hz,hD] at hd
 rw [hD]
 have HF1:=Lib.hid (fun W=>factorial_any (s+1) W (by omega))
 have HF2:=Lib.hid (fun W=>factorial_any x W (by omega))
 have HF3:=Lib.hid (fun W=>factorial_any y W (by omega))
 have HF4:=Lib.hid (fun W=>factorial_any z W (by omega))
 have hf1:=fac_13 (n:=s+1) (by omega)
 have p2:=fac_pos x
 have p3:=fac_pos y
 have p4:=fac_pos z
 obtain ⟨-,-,hm⟩:=hd
 clear hs hx hy hz ht h
 obtain ⟨F1,hF1⟩:∃F,fac (s+1)=F:=⟨_,rfl⟩
 obtain ⟨F2,hF2⟩:∃F,fac x=F:=⟨_,rfl⟩
 obtain ⟨F3,hF3⟩:∃F,fac y=F:=⟨_,rfl⟩
 obtain ⟨F4,hF4⟩:∃F,fac z=F:=⟨_,rfl⟩
 rw [hF1] at HF1 hf1 ⊢
 rw [hF2] at HF2 p2 hm ⊢
 rw [hF3] at HF3 p3 hm ⊢
 rw [hF4] at HF4 p4 hm ⊢
 have p23:1≤F2*F3:=Nat.mul_pos p2 p3
 have p234:1≤F2*F3*F4:=Nat.mul_pos p23 p4
 have hm2:F2*F3≤1000000:=Nat.le_trans (Nat.le_mul_of_pos_right _ p4) hm
 obtain ⟨G,hG⟩:∃G,F2*F3=G:=⟨_,rfl⟩
 obtain ⟨K,hK⟩:∃K,G*F4=K:=⟨_,rfl⟩
 rw [hG] at hm p234 p23 hm2 ⊢
 rw [hK] at hm p234 ⊢
 have w1:IntKind.i64.wrap ((F2:Int)*(F3:Int))=(G:Int):=by rw [←Int.natCast_mul,hG];exact IntWalk.i64_in _ (by omega)
 have w2:IntKind.i64.wrap ((G:Int)*(F4:Int))=(K:Int):=by rw [←Int.natCast_mul,hK];exact IntWalk.i64_in _ (by omega)
 have q1:(2*(s:Int)).tdiv 2=(s:Int):=td2 s
 have q2:(2*(x:Int)).tdiv 2=(x:Int):=td2 x
 have q3:(2*(y:Int)).tdiv 2=(y:Int):=td2 y
 have q4:(2*(z:Int)).tdiv 2=(z:Int):=td2 z
 have HQ:Hid (wrap64 ((F1:Int) / (K:Int))=((F1 / K:Nat):Int)):=div_wrap (by omega)
 rw [show (((s+1:Nat)):Int)=(s:Int)+1 by omega] at HF1
 clear hD hF1 hF2 hF3 hF4 hG hK
 go_enter Tryz.func204,Tryz.ntmps204
 go_wp2_with fail
 refine (HT.out _).mono ?_
 rintro e w' ⟨rfl,rfl⟩
 go_wp2_with fail
 refine (HF1.out _).mono ?_
 rintro e w' ⟨rfl,rfl⟩
 go_wp2_with fail
 refine (HF2.out _).mono ?_
 rintro e w' ⟨rfl,rfl⟩
 go_wp2_with fail
 refine (HF3.out _).mono ?_
 rintro e w' ⟨rfl,rfl⟩
 go_wp2_with fail
 refine (HF4.out _).mono ?_
 rintro e w' ⟨rfl,rfl⟩
 go_wp2_with fail
 go_ret
 exact ⟨ret_int HQ.out,rfl⟩
theorem specDelta_any (a b c:Nat) (w:World) (ha:a≤6) (hb:b≤6) (hc:c≤6) (h:triB (a:Int) (b:Int) (c:Int)=true) :
 Calls Tryz.prog 115 #[.int .i64 (a:Int),.int .i64 (b:Int),.int .i64 (c:Int)] w fun e w'=>e=.returned (.int .i64 ((dlt a b c:Nat):Int))∧Below w.heap.size w w':=by
 have HT:=Lib.hid (fun W=>specTriangle_all (a:Int) (b:Int) (c:Int) W)
 rw [h] at HT
 have hd:=dlt_at ha hb hc h
 have ht:=triB_iff.1 h
 obtain ⟨s,hs⟩:∃s,(a+b+c) / 2=s:=⟨_,rfl⟩
 obtain ⟨x,hx⟩:∃x,(a+b-c) / 2=x:=⟨_,rfl⟩
 obtain ⟨y,hy⟩:∃y,(a+c-b) / 2=y:=⟨_,rfl⟩
 have e1:((a:Int)+b+c)=2*(s:Int):=by omega
 have e2:((a:Int)+b-c)=2*(x:Int):=by omega
 have e3:((a:Int)-b+c)=2*(y:Int):=by omega
 have hs9:s≤9:=by omega
 have hxs:x≤s:=by omega
 have hys:y≤s-x:=by omega
 have hD:dlt a b c=(s+1)*pasc s x*pasc (s-x) y:=by rw [←hd.1];unfold dltS;rw [hs,hx,hy]
 have hbd:=hd.2.2.1
 rw [hD] at hbd ⊢
 have HC1:=Lib.hid (fun W=>specChoose_any (s:Int) (x:Int) W)
 have HC2:=Lib.hid (fun W=>specChoose_any ((s-x:Nat):Int) (y:Int) W)
 rw [show ch (s:Int) (x:Int)=((pasc s x:Nat):Int) by unfold ch;rw [if_neg (by omega),if_neg (by omega)];simp] at HC1
 rw [show ch ((s-x:Nat):Int) (y:Int)=((pasc (s-x) y:Nat):Int) by unfold ch;rw [if_neg (by omega),if_neg (by omega)];simp] at HC2
 rw [show ((s-x:Nat):Int)=(s:Int)-(x:Int) by omega] at HC2
 have q1:=td2 s
 have q2:=td2 x
 have q3:=td2 y
 clear hs hx hy ht h hd hD
 obtain ⟨P1,hP1⟩:∃P,pasc s x=P:=⟨_,rfl⟩
 obtain ⟨P2,hP2⟩:∃P,pasc (s-x) y=P:=⟨_,rfl⟩
 have hp2:1≤P2:=by
  rw [←hP2]
  have:=pasc_fac (s-x) y hys
  rcases Nat.eq_zero_or_pos (pasc (s-x) y) with h0 | h0
  ·rw [h0,Nat.zero_mul] at this
   have:=fac_pos (s-x);omega
  ·exact h0
 rw [hP1] at HC1 hbd ⊢
 rw [hP2] at HC2 hbd ⊢
 obtain ⟨G,hG⟩:∃G,(s+1)*P1=G:=⟨_,rfl⟩
 rw [hG] at hbd ⊢
 have hGb:G≤16800:=Nat.le_trans (Nat.le_mul_of_pos_right _ hp2) hbd
 have w1:IntKind.i64.wrap (((s:Int)+1)*(P1:Int))=(G:Int):=by
  rw [show ((s:Int)+1)=((s+1:Nat):Int) by omega,←Int.natCast_mul,hG];exact IntWalk.i64_in _ (by omega)
 have HW:Hid (wrap64 ((G:Int)*(P2:Int))=((G*P2:Nat):Int)):=by unfold Hid;rw [←Int.natCast_mul];exact IntWalk.wrap64_in _ ⟨by omega,by omega⟩
 clear hP1 hP2 hG
 have HB:=Lib.hid (Below.refl w.heap.size w)
 go_enter Tryz.func115,Tryz.ntmps115
 go_wp2_with fail
 refine (HT.out _).mono ?_
 rintro e w' ⟨rfl,rfl⟩
 go_wp2_with fail
 refine (HC1.out _).mono ?_
 rintro e w' ⟨rfl,rfl⟩
 go_wp2_with fail
 refine (HC2.out _).mono ?_
 rintro e w' ⟨rfl,rfl⟩
 go_wp2_with fail
 go_ret
 exact ⟨ret_int (by first | exact HW.out | (rw [Int.natCast_mul])),HB.out⟩
end
end Go.Proofs.YtjdfbnlaiiknpaaGreatDoor
