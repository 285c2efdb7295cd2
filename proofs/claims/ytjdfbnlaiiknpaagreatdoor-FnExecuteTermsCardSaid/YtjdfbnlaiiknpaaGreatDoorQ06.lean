/- Parts of the proof of : Rat3 Rat4 Rat5 Lt3. -/
import Derived.Test.YtjdfbnlaiiknpaaGreatDoorQ05
set_option maxHeartbeats 20000000
set_option maxRecDepth 1000000
set_option linter.unusedSimpArgs false
set_option linter.unusedVariables false
namespace Go.Proofs.YtjdfbnlaiiknpaaGreatDoor
section
open Go.RowKit
attribute [local go_sem ↓] Go.wp_at_zero Go.wp_at_succ
theorem specMake_any (num den:Int) (w:World) (n0:den≠0) (n1:-4000000000000000000≤num) (n2:num≤4000000000000000000) (n3:-4000000000000000000≤den) (n4:den≤4000000000000000000) :
 Calls Tryz.prog 216 #[.int .i64 num,.int .i64 den] w fun e w'=>e=.returned (okV (mkB num den))∧Below w.heap.size w w':=by
 obtain ⟨r,hr⟩:∃r,mkB num den=r:=⟨_,rfl⟩
 rw [hr]
 have HE:=Lib.hid hr.symm;clear hr
 have HD:=Lib.hid (Blk.new w 97 #[.int .i64 0,.int .i64 0])
 have HB1:=Lib.hid ((Below.refl w.heap.size w).alloc (Nat.le_refl _) (.cells #[.int .i64 0,.int .i64 0] 97))
 have hgp:0<Nat.gcd num.natAbs den.natAbs:=Nat.gcd_pos_of_pos_right _ (by omega)
 have hgl:Nat.gcd num.natAbs den.natAbs≤den.natAbs:=Nat.le_of_dvd (by omega) (Nat.gcd_dvd_right _ _)
 have HA1:=Lib.hid (fun W=>specAbs_any num W (by omega) (by omega))
 have HA2:=Lib.hid (fun W=>specAbs_any den W (by omega) (by omega))
 have HGC:=Lib.hid (fun W=>specGcd_any num.natAbs den.natAbs W (by omega) (by omega))
 have hgb:((Nat.gcd num.natAbs den.natAbs:Nat):Int)≤4000000000000000000:=by omega
 generalize hgg:Nat.gcd num.natAbs den.natAbs=g at *
 have dz:(den==0)=false:=by simpa using n0
 by_cases hd:den<0
 ·have hs:sg num den=-(g:Int):=by unfold sg;rw [if_pos hd,hgg]
  have q1b:=tdiv_small (x:=num) (g:=(g:Int)) (b:=4000000000000000000) (by omega)
  have q2b:=tdiv_small (x:=den) (g:=(g:Int)) (b:=4000000000000000000) (by omega)
  have hmk:mk0 num den=(-num.tdiv (g:Int),-den.tdiv (g:Int)):=by unfold mk0;rw [hs,Int.tdiv_neg,Int.tdiv_neg]
  have u7:¬((g:Int)=0):=by omega
  have u1:IntKind.i64.wrap (-num.tdiv (g:Int))=-num.tdiv (g:Int):=IntWalk.i64_in _ (by omega)
  have u2:IntKind.i64.wrap (-den.tdiv (g:Int))=-den.tdiv (g:Int):=IntWalk.i64_in _ (by omega)
  have HMK:=Lib.hid hmk
  clear hs hmk
  go_enter Tryz.func216,Tryz.ntmps216
  go_wp2_with fail
  refine (HA1.out _).mono ?_
  rintro e w1 ⟨rfl,rfl⟩
  go_wp2_with fail
  refine (HA2.out _).mono ?_
  rintro e w1 ⟨rfl,rfl⟩
  go_wp2_with fail
  refine (HGC.out _).mono ?_
  rintro e w1 ⟨rfl,rfl⟩
  go_wp2_with fail
  have HW:Hid (Blk (w.alloc (.cells #[.int .i64 0,.int .i64 0] 97)) w.heap.size 97 #[.int .i64 0,.int .i64 0]):=HD.out
  have HBW:Hid (Below w.heap.size w (w.alloc (.cells #[.int .i64 0,.int .i64 0] 97))):=HB1.out
  have hsz:(w.alloc (.cells #[.int .i64 0,.int .i64 0] 97)).heap.size=w.heap.size+1:=by simp
  generalize w.alloc (.cells #[.int .i64 0,.int .i64 0] 97)=W at *
  go_region
  clear u1 u2
  generalize -num.tdiv (g:Int)=q1 at *
  generalize -den.tdiv (g:Int)=q2 at *
  have HX:Hid (Blk (W.alloc (.cells #[.int .i64 q1,.int .i64 q2] 97)).drew (w.heap.size+1) 97 #[.int .i64 q1,.int .i64 q2]):=by
   have:=Blk.new W 97 #[.int .i64 q1,.int .i64 q2]
   rw [hsz] at this;exact this
  have HW2:Hid (Blk (W.alloc (.cells #[.int .i64 q1,.int .i64 q2] 97)).drew w.heap.size 97 #[.int .i64 0,.int .i64 0]):=HW.out.alloc _
  have HBW2:=Lib.hid ((HBW.out.alloc HBW.out.size (.cells #[.int .i64 q1,.int .i64 q2] 97)).drew)
  generalize (W.alloc (.cells #[.int .i64 q1,.int .i64 q2] 97)).drew=W2 at *
  obtain ⟨x1,x2,_,_⟩:=blk2 HX.out
  have HE2:Hid (r=if rvB (q1,q2) then ((q1,q2),true) else ((0,0),false)):=by unfold Hid;rw [HE.out];unfold mkB;rw [HMK.out]
  clear HE HMK HW HBW hsz
  go_wp2_with fail
  refine (specRatValid_any q1 q2 _).mono ?_
  rintro e w3 ⟨rfl,hb3⟩
  have HX3:=Lib.hid (HX.out.sub hb3)
  have HW3:=Lib.hid (HW2.out.sub hb3)
  have HB3:=Lib.hid (HBW2.out.trans (hb3.mono HBW2.out.size))
  clear hb3 x1 x2 HX HW2 HBW2
  obtain ⟨x1,x2,_,_⟩:=blk2 HX3.out
  obtain ⟨y1,y2,y3,y4⟩:=blk2 HW3.out
  cases hv:rvB (q1,q2)
  ·rw [hv] at HE2
   have HZ:=Lib.hid ((HW3.out.set 0 (.int .i64 0)).set 1 (.int .i64 0))
   have HB4:=Lib.hid ((HB3.out.setCell (p:=⟨w.heap.size,0,none⟩) (Nat.le_refl _) (.int .i64 0)).setCell (p:=⟨w.heap.size,1,none⟩) (Nat.le_refl _) (.int .i64 0))
   clear hv
   go_wp2_with fail
   refine bodyPost_ret (results_rat_tmp rfl _ _ w.heap.size _ _ rfl HZ.out Tryz.underlying97 rfl (by kernel_rfl)) rfl ?_
   exact ⟨by rw [HE2.out];rfl,HB4.out⟩
  ·rw [hv] at HE2
   have HZ:=Lib.hid ((HW3.out.set 0 (.int .i64 q1)).set 1 (.int .i64 q2))
   have HB4:=Lib.hid ((HB3.out.setCell (p:=⟨w.heap.size,0,none⟩) (Nat.le_refl _) (.int .i64 q1)).setCell (p:=⟨w.heap.size,1,none⟩) (Nat.le_refl _) (.int .i64 q2))
   clear hv
   go_wp2_with fail
   refine bodyPost_ret (results_rat_tmp rfl _ _ w.heap.size _ _ rfl HZ.out Tryz.underlying97 rfl (by kernel_rfl)) rfl ?_
   exact ⟨by rw [HE2.out];rfl,HB4.out⟩
 ·have hs:sg num den=(g:Int):=by unfold sg;rw [if_neg hd,hgg]
  have q1b:=tdiv_small (x:=num) (g:=(g:Int)) (b:=4000000000000000000) (by omega)
  have q2b:=tdiv_small (x:=den) (g:=(g:Int)) (b:=4000000000000000000) (by omega)
  have hmk:mk0 num den=(num.tdiv ((g:Int)),den.tdiv ((g:Int))):=by unfold mk0;rw [hs]
  have u7:¬((g:Int)=0):=by omega
  have u1:IntKind.i64.wrap (num.tdiv ((g:Int)))=num.tdiv ((g:Int)):=IntWalk.i64_in _ (by omega)
  have u2:IntKind.i64.wrap (den.tdiv ((g:Int)))=den.tdiv ((g:Int)):=IntWalk.i64_in _ (by omega)
  have HMK:=Lib.hid hmk
  clear hs hmk
  go_enter Tryz.func216,Tryz.ntmps216
  go_wp2_with fail
  refine (HA1.out _).mono ?_
  rintro e w1 ⟨rfl,rfl⟩
  go_wp2_with fail
  refine (HA2.out _).mono ?_
  rintro e w1 ⟨rfl,rfl⟩
  go_wp2_with fail
  refine (HGC.out _).mono ?_
  rintro e w1 ⟨rfl,rfl⟩
  go_wp2_with fail
  have HW:Hid (Blk (w.alloc (.cells #[.int .i64 0,.int .i64 0] 97)) w.heap.size 97 #[.int .i64 0,.int .i64 0]):=HD.out
  have HBW:Hid (Below w.heap.size w (w.alloc (.cells #[.int .i64 0,.int .i64 0] 97))):=HB1.out
  have hsz:(w.alloc (.cells #[.int .i64 0,.int .i64 0] 97)).heap.size=w.heap.size+1:=by simp
  generalize w.alloc (.cells #[.int .i64 0,.int .i64 0] 97)=W at *
  go_region
  clear u1 u2
  generalize num.tdiv ((g:Int))=q1 at *
  generalize den.tdiv ((g:Int))=q2 at *
  have HX:Hid (Blk (W.alloc (.cells #[.int .i64 q1,.int .i64 q2] 97)).drew (w.heap.size+1) 97 #[.int .i64 q1,.int .i64 q2]):=by
   have:=Blk.new W 97 #[.int .i64 q1,.int .i64 q2]
   rw [hsz] at this;exact this
  have HW2:Hid (Blk (W.alloc (.cells #[.int .i64 q1,.int .i64 q2] 97)).drew w.heap.size 97 #[.int .i64 0,.int .i64 0]):=HW.out.alloc _
  have HBW2:=Lib.hid ((HBW.out.alloc HBW.out.size (.cells #[.int .i64 q1,.int .i64 q2] 97)).drew)
  generalize (W.alloc (.cells #[.int .i64 q1,.int .i64 q2] 97)).drew=W2 at *
  obtain ⟨x1,x2,_,_⟩:=blk2 HX.out
  have HE2:Hid (r=if rvB (q1,q2) then ((q1,q2),true) else ((0,0),false)):=by unfold Hid;rw [HE.out];unfold mkB;rw [HMK.out]
  clear HE HMK HW HBW hsz
  go_wp2_with fail
  refine (specRatValid_any q1 q2 _).mono ?_
  rintro e w3 ⟨rfl,hb3⟩
  have HX3:=Lib.hid (HX.out.sub hb3)
  have HW3:=Lib.hid (HW2.out.sub hb3)
  have HB3:=Lib.hid (HBW2.out.trans (hb3.mono HBW2.out.size))
  clear hb3 x1 x2 HX HW2 HBW2
  obtain ⟨x1,x2,_,_⟩:=blk2 HX3.out
  obtain ⟨y1,y2,y3,y4⟩:=blk2 HW3.out
  cases hv:rvB (q1,q2)
  ·rw [hv] at HE2
   have HZ:=Lib.hid ((HW3.out.set 0 (.int .i64 0)).set 1 (.int .i64 0))
   have HB4:=Lib.hid ((HB3.out.setCell (p:=⟨w.heap.size,0,none⟩) (Nat.le_refl _) (.int .i64 0)).setCell (p:=⟨w.heap.size,1,none⟩) (Nat.le_refl _) (.int .i64 0))
   clear hv
   go_wp2_with fail
   refine bodyPost_ret (results_rat_tmp rfl _ _ w.heap.size _ _ rfl HZ.out Tryz.underlying97 rfl (by kernel_rfl)) rfl ?_
   exact ⟨by rw [HE2.out];rfl,HB4.out⟩
  ·rw [hv] at HE2
   have HZ:=Lib.hid ((HW3.out.set 0 (.int .i64 q1)).set 1 (.int .i64 q2))
   have HB4:=Lib.hid ((HB3.out.setCell (p:=⟨w.heap.size,0,none⟩) (Nat.le_refl _) (.int .i64 q1)).setCell (p:=⟨w.heap.size,1,none⟩) (Nat.le_refl _) (.int .i64 q2))
   clear hv
   go_wp2_with fail
   refine bodyPost_ret (results_rat_tmp rfl _ _ w.heap.size _ _ rfl HZ.out Tryz.underlying97 rfl (by kernel_rfl)) rfl ?_
   exact ⟨by rw [HE2.out];rfl,HB4.out⟩
end
section
open Go.RowKit
attribute [local go_sem ↓] Go.wp_at_zero Go.wp_at_succ
theorem okV_form (r:T2 × Bool):okV r=.tuple #[.agg #[.int .i64 r.1.1,.int .i64 r.1.2],.bool r.2]:=rfl
theorem specRatOf_any (num den:Int) (w:World) (n0:den≠0) (n1:-4000000000000000000≤num∧num≤4000000000000000000) (n2:-4000000000000000000≤den∧den≤4000000000000000000) :
 Calls Tryz.prog 161 #[.int .i64 num,.int .i64 den] w fun e w'=>e=.returned (okV (ratOf num den))∧Below w.heap.size w w':=by
 have he:ratOf num den=mkB num den:=by
  unfold ratOf
  rw [if_neg]
  rintro (h | h | h)
  ·exact n0 h
  ·rw [inB_iff.2 n1] at h;cases h
  ·rw [inB_iff.2 n2] at h;cases h
 rw [he];clear he
 have HM:=Lib.hid (fun W=>specMake_any num den W n0 n1.1 n1.2 n2.1 n2.2)
 have HD:=Lib.hid (Blk.new w 97 #[.int .i64 0,.int .i64 0])
 have HB1:=Lib.hid ((Below.refl w.heap.size w).alloc (Nat.le_refl _) (.cells #[.int .i64 0,.int .i64 0] 97))
 have h1:=Lib.hid (inB_iff.2 n1)
 have h2:=Lib.hid (inB_iff.2 n2)
 have dz:(den==0)=false:=by simpa using n0
 generalize mkB num den=r at *
 go_enter Tryz.func161,Tryz.ntmps161
 go_wp2_with fail
 refine (l6In_any _ _ _ _).mono ?_
 rintro e w1 ⟨rfl,rfl⟩
 rw [h1.out]
 go_wp2_with fail
 refine (l6In_any _ _ _ _).mono ?_
 rintro e w1 ⟨rfl,rfl⟩
 rw [h2.out]
 go_wp2_with fail
 refine (HM.out _).mono ?_
 rintro e w3 ⟨rfl,hb3⟩
 rw [okV_form]
 have HB3:=Lib.hid (HB1.out.trans (hb3.mono HB1.out.size))
 have HX4:=Lib.hid (HD.out.sub hb3)
 obtain ⟨y1,y2,y3,y4⟩:=blk2 HX4.out
 have HZ:=Lib.hid ((HX4.out.set 0 (.int .i64 r.1.1)).set 1 (.int .i64 r.1.2))
 have HB4:=Lib.hid ((HB3.out.setCell (p:=⟨w.heap.size,0,none⟩) (Nat.le_refl _) (.int .i64 r.1.1)).setCell (p:=⟨w.heap.size,1,none⟩) (Nat.le_refl _) (.int .i64 r.1.2))
 go_wp2_with fail
 refine bodyPost_ret (results_rat_tmp rfl _ _ w.heap.size _ _ rfl HZ.out Tryz.underlying97 rfl (by kernel_rfl)) rfl ?_
 exact ⟨rfl,HB4.out⟩
end
section
open Go.RowKit
attribute [local go_sem ↓] Go.wp_at_zero Go.wp_at_succ
theorem isNaN_any (n:Int) (w:World):Calls Tryz.prog 118 #[.int .i64 n] w fun e w'=>e=.returned (.bool false)∧w'=w:=by
 have e1:(n != n)=false:=by simp
 go_enter Tryz.func118,Tryz.ntmps118
 go_wp2_with fail
 go_ret
 exact ⟨rfl,rfl⟩
def cmpI (a b:Int):Int:=if a<b then -1 else if b<a then 1 else 0
theorem cmp_any (a b:Int) (w:World):Calls Tryz.prog 70 #[.int .i64 a,.int .i64 b] w fun e w'=>e=.returned (.int .i64 (cmpI a b))∧w'=w:=by
 by_cases h1:a<b
 ·go_enter Tryz.func70,Tryz.ntmps70
  go_wp2_with (go_at_call 118;refine (isNaN_any _ _).mono ?_;rintro e w' ⟨rfl,rfl⟩)
  go_ret
  exact ⟨ret_int (by unfold cmpI;rw [if_pos h1]),rfl⟩
 ·by_cases h2:b<a
  ·go_enter Tryz.func70,Tryz.ntmps70
   go_wp2_with (go_at_call 118;refine (isNaN_any _ _).mono ?_;rintro e w' ⟨rfl,rfl⟩)
   go_ret
   exact ⟨ret_int (by unfold cmpI;rw [if_neg (by omega),if_pos h2]),rfl⟩
  ·go_enter Tryz.func70,Tryz.ntmps70
   go_wp2_with (go_at_call 118;refine (isNaN_any _ _).mono ?_;rintro e w' ⟨rfl,rfl⟩)
   go_ret
   exact ⟨ret_int (by unfold cmpI;rw [if_neg (by omega),if_neg (by omega)]),rfl⟩
theorem mul_bd {x y A B:Int} (hx:-A≤x∧x≤A) (hy:-B≤y∧y≤B):-(A*B)≤x*y∧x*y≤A*B:=by
 have h:(x*y).natAbs=x.natAbs*y.natAbs:=Int.natAbs_mul x y
 have h1:x.natAbs≤A.natAbs:=by omega
 have h2:y.natAbs≤B.natAbs:=by omega
 have h3:x.natAbs*y.natAbs≤A.natAbs*B.natAbs:=Nat.mul_le_mul h1 h2
 have h4:(A*B).natAbs=A.natAbs*B.natAbs:=Int.natAbs_mul A B
 have h5:0≤A*B:=Int.mul_nonneg (by omega) (by omega)
 omega
theorem rvB_bd {a b:Int} (h:rvB (a,b)=true):(1≤b∧b≤1000000000)∧(-1000000000≤a∧a≤1000000000):=by
 simp only [rvB,Bool.and_eq_true,inB_iff] at h
 exact h.1
theorem ratOf_ok {n d x1 x2:Int} {ok:Bool} (h:ratOf n d=((x1,x2),ok)):ok=true→(1≤x2∧x2≤1000000000)∧(-1000000000≤x1∧x1≤1000000000):=by
 rintro rfl
 unfold ratOf at h
 split at h
 ·cases h
 ·unfold mkB at h
  split at h
  ·rename_i hv
   injection h with h1 _
   rw [h1] at hv
   exact rvB_bd hv
  ·cases h
theorem whole_any (n:Int) (w:World) :
 Calls Tryz.prog 197 #[.int .i64 n] w fun e w'=>e=.returned (.agg #[.int .i64 n,.int .i64 1])∧Below w.heap.size w w':=by
 go_enter Tryz.func197,Tryz.ntmps197
 go_wp2_with fail
 refine bodyPost_ret (v:=.agg #[.int .i64 n,.int .i64 1]) (by simp [results,Tryz.results197,go_sem]) rfl ⟨rfl,?_⟩
 repeat (first | exact Below.refl _ _ | refine Below.alloc ?_ (by simp;try omega) _ | refine Below.setCell ?_ (by simp;try omega) _)
end
section
open Go.RowKit
attribute [local go_sem ↓] Go.wp_at_zero Go.wp_at_succ
theorem wpList_app1K {P:Program} (w:World) {ops:Array Oper} {rest:List Oper} {o:Oper} {a:Act} {Q:Exit→Act→World→Prop} (hgd:o.guard=none) (s x:Operand) (t:TypeId)
 (ho:o.op=.call { callee:=.builtin .append,args:=#[s,x],argTypes:=#[t,t] })
 (base:Nat) (e:TypeId) (size bytes:Nat) (hE:ElemOk P t e size bytes)
 (A:Option Addr) (c n:Nat) (xs:List Value) (hs:a.eval s=.slice A n c) (hown:w.ownsRow base e size (.slice A n c) n xs)
 (L:Nat) (cs:Array Value) (hx:a.eval x=.slice (some ⟨L,0,none⟩) 1 1) (hL:Blk w L e cs) (hcs:cs.size=size) (h1:∀u∈cs.toList,u.oneCell'=true)
 (hn:n≤1000000) (hby:bytes≤1000000) (hbase:base≤w.heap.size)
 (h:∀A' c' w',w'.ownsRow base e size (.slice A' (n+1) c') (n+1) (xs++cs.toList)→n+1≤c'→Below base w w'→KeepT e w w'→wpList P ops Q rest (a.put o.dst (.slice A' (n+1) c')) w'):wpList P ops Q (o :: rest) a w:=by
 obtain ⟨ht,i,z,hi,hz,hsize,hbytes,hzs,hsz⟩:=hE
 refine wpList_append_own w hgd s x t ho base e i z size bytes ht hi hz hsize hbytes hzs hsz _ n xs hs hown ⟨L,0,none⟩ 1 1 cs.toList hx (by simp [hcs]) ?_ h1 (by unfold maxLen;omega) ?_ hbase ?_
 ·intro j u hj
  have:(⟨L,0,none⟩:Addr).add j=⟨L,j,none⟩:=by unfold Addr.add;split <;> simp_all
  rw [this,hL.cell]
  simpa using hj
 ·calc (n+1)*bytes≤1000001*1000000:=Nat.mul_le_mul (by omega) hby
   _≤_:=by omega
 ·intro v' w' hown' hg _
  obtain ⟨A',c',rfl,hc'⟩:=own_form hown'
  refine h A' c' w' hown' hc' ?_ (keepT_of hown hg)
  exact (Below.refl base w).grown hg hbase (fun k hk=>(hown.lt k hk).1)
def l1T (t:T2) (j:Int):List UInt8:=tmT t++spT j
def lvT (t:T2):List UInt8:=Lib.join ((lvJs t).map (l1T t)) [32]
theorem l1T_len {t:T2} (hv:tvB t=true) (j:Int):(l1T t j).length≤11:=by
 unfold l1T
 rw [List.length_append,tmT_len hv]
 have:=spT_len j
 omega
theorem joinl_len {t:T2} (hv:tvB t=true) (js:List Int):∀k,k≤js.length→(Lib.join ((js.take k).map (l1T t)) [32]).length≤12*k
 | 0,_=>by simp [Lib.join_nil]
 | k+1,h=>by
  have ih:=joinl_len hv js k (by omega)
  rw [List.take_succ_eq_append_getElem (by omega),List.map_append,List.map_cons,List.map_nil,join_snoc,List.length_append]
  have h2:=l1T_len hv js[k]
  split
  ·simp only [List.length_nil];omega
  ·rw [List.length_append];simp only [List.length_cons,List.length_nil];omega
theorem lv_len {t:T2} (hv:tvB t=true):1≤(lvJs t).length∧(lvJs t).length≤9:=by
 have hb:=tvB_iff.1 hv
 unfold lvJs
 rw [if_pos hv,cpl_len]
 omega
end
end Go.Proofs.YtjdfbnlaiiknpaaGreatDoor
