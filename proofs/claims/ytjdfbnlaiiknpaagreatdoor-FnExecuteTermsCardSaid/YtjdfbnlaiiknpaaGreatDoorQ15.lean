/- Parts of the proof of : Sta. -/
import Derived.Test.YtjdfbnlaiiknpaaGreatDoorQ13
import Derived.Test.YtjdfbnlaiiknpaaGreatDoorQ14
import Derived.Deep.DeepCutAuto
set_option maxHeartbeats 20000000
set_option maxRecDepth 1000000
set_option linter.unusedSimpArgs false
set_option linter.unusedVariables false
namespace Go.Proofs.YtjdfbnlaiiknpaaGreatDoor
section
section
open Go.RowKit
def ahd (x y:T2):Bool:=decide (y.1<x.1∨(x.1=y.1∧y.2<x.2))
def Srt (l:List T2):Prop:=l.Pairwise fun x y=>ahd y x=false
def gT (ts:List T2) (k:Nat):T2:=ts[k]?.getD (0,0)
theorem ahd_iff {x y:T2}:ahd x y=true↔(y.1<x.1∨(x.1=y.1∧y.2<x.2)):=by simp [ahd]
theorem ahd_not {x y:T2}:ahd x y=false↔¬(y.1<x.1∨(x.1=y.1∧y.2<x.2)):=by rw [←ahd_iff];simp
theorem ahd_self (x:T2):ahd x x=false:=by rw [ahd_not];omega
theorem nah_trans {x y z:T2} (h1:ahd y x=false) (h2:ahd z y=false):ahd z x=false:=by rw [ahd_not] at *;omega
theorem ahd_nah {x y:T2} (h:ahd x y=true):ahd y x=false:=by rw [ahd_not];rw [ahd_iff] at h;omega
theorem gT_lt {ts:List T2} {k:Nat} (h:k<ts.length):gT ts k=ts[k]:=by simp [gT,h]
theorem gT_left {A B:List T2} {k:Nat} (h:k<A.length):gT (A++B) k=gT A k:=by simp [gT,List.getElem?_append_left h]
theorem gT_right {A B:List T2} {k x:Nat} (h:x=A.length+k):gT (A++B) x=gT B k:=by subst h;simp [gT,List.getElem?_append_right]
theorem Srt.at {l:List T2} (h:Srt l) {i j:Nat} (hij:i≤j) (hj:j<l.length):ahd (gT l j) (gT l i)=false:=by
 rcases Nat.lt_or_ge i j with hlt | hge
 ·rw [gT_lt hj,gT_lt (by omega)]
  exact List.pairwise_iff_getElem.1 h i j (by omega) hj hlt
 ·obtain rfl:i=j:=by omega
  exact ahd_self _
theorem Srt.take_le {l:List T2} (h:Srt l) {k:Nat} (hk:k<l.length):∀u∈l.take (k+1),ahd (gT l k) u=false:=by
 intro u hu
 obtain ⟨i,hi,rfl⟩:=List.mem_iff_getElem.1 hu
 rw [List.length_take] at hi
 have:=h.at (i:=i) (j:=k) (by omega) hk
 rw [gT_lt (k:=i) (by omega)] at this
 simpa using this
theorem Srt.drop_ge {l:List T2} (h:Srt l) {k:Nat} (hk:k<l.length):∀u∈l.drop k,ahd u (gT l k)=false:=by
 intro u hu
 obtain ⟨i,hi,rfl⟩:=List.mem_iff_getElem.1 hu
 rw [List.length_drop] at hi
 have:=h.at (i:=k) (j:=k+i) (by omega) (by omega)
 rw [gT_lt (k:=k+i) (by omega)] at this
 simpa using this
theorem Srt.take {l:List T2} (h:Srt l) (k:Nat):Srt (l.take k):=List.Pairwise.sublist (List.take_sublist k l) h
theorem Srt.drop {l:List T2} (h:Srt l) (k:Nat):Srt (l.drop k):=List.Pairwise.sublist (List.drop_sublist k l) h
theorem srt_app {A B:List T2} (hA:Srt A) (hB:Srt B) (h:∀a∈A,∀b∈B,ahd b a=false):Srt (A++B):=List.pairwise_append.2 ⟨hA,hB,h⟩
theorem mrg_cut {U V Z1 Z2:List T2} (hU:Srt U) (hV:Srt V) {i j:Nat} (hi:i≤U.length) (hj:j≤V.length)
 (h1:0<i→j<V.length→ahd (gT V j) (gT U (i-1))=false) (h2:0<j→i<U.length→ahd (gT V (j-1)) (gT U i)=true)
 (p1:Z1.Perm (U.take i++V.take j)) (p2:Z2.Perm (U.drop i++V.drop j)) (s1:Srt Z1) (s2:Srt Z2):Srt (Z1++Z2)∧(Z1++Z2).Perm (U++V):=by
 constructor
 ·refine srt_app s1 s2 fun x hx y hy=>?_
  have hx:=p1.mem_iff.1 hx
  have hy:=p2.mem_iff.1 hy
  rw [List.mem_append] at hx hy
  rcases hx with hx | hx <;> rcases hy with hy | hy
  ·have h0:0<i:=by
    rcases Nat.eq_zero_or_pos i with h | h
    ·subst h;simp at hx
    ·exact h
   have hl:i<U.length:=by
    rcases Nat.lt_or_ge i U.length with h | h
    ·exact h
    ·rw [List.drop_eq_nil_of_le h] at hy;simp at hy
   have a:=hU.take_le (k:=i-1) (by omega) x (by rw [show i-1+1=i by omega];exact hx)
   have b:=hU.drop_ge hl y hy
   exact nah_trans (nah_trans a (hU.at (i:=i-1) (j:=i) (by omega) hl)) b
  ·have h0:0<i:=by
    rcases Nat.eq_zero_or_pos i with h | h
    ·subst h;simp at hx
    ·exact h
   have hl:j<V.length:=by
    rcases Nat.lt_or_ge j V.length with h | h
    ·exact h
    ·rw [List.drop_eq_nil_of_le h] at hy;simp at hy
   have a:=hU.take_le (k:=i-1) (by omega) x (by rw [show i-1+1=i by omega];exact hx)
   have b:=hV.drop_ge hl y hy
   exact nah_trans (nah_trans a (h1 h0 hl)) b
  ·have h0:0<j:=by
    rcases Nat.eq_zero_or_pos j with h | h
    ·subst h;simp at hx
    ·exact h
   have hl:i<U.length:=by
    rcases Nat.lt_or_ge i U.length with h | h
    ·exact h
    ·rw [List.drop_eq_nil_of_le h] at hy;simp at hy
   have a:=hV.take_le (k:=j-1) (by omega) x (by rw [show j-1+1=j by omega];exact hx)
   have b:=hU.drop_ge hl y hy
   exact nah_trans (nah_trans a (ahd_nah (h2 h0 hl))) b
  ·have h0:0<j:=by
    rcases Nat.eq_zero_or_pos j with h | h
    ·subst h;simp at hx
    ·exact h
   have hl:j<V.length:=by
    rcases Nat.lt_or_ge j V.length with h | h
    ·exact h
    ·rw [List.drop_eq_nil_of_le h] at hy;simp at hy
   have a:=hV.take_le (k:=j-1) (by omega) x (by rw [show j-1+1=j by omega];exact hx)
   have b:=hV.drop_ge hl y hy
   exact nah_trans (nah_trans a (hV.at (i:=j-1) (j:=j) (by omega) hl)) b
 ·refine (p1.append p2).trans ?_
  have e:(U++V).Perm ((U.take i++U.drop i)++(V.take j++V.drop j)):=by rw [List.take_append_drop,List.take_append_drop]
  refine List.Perm.trans ?_ e.symm
  rw [List.append_assoc,List.append_assoc]
  refine List.Perm.append_left _ ?_
  rw [←List.append_assoc,←List.append_assoc]
  exact List.Perm.append_right _ List.perm_append_comm
theorem mrg_one {V:List T2} {u:T2} (hV:Srt V) {j:Nat} (hj:j≤V.length) (h1:0<j→ahd (gT V (j-1)) u=true) (h2:j<V.length→ahd (gT V j) u=false) :
 Srt (V.take j++u :: V.drop j)∧(V.take j++u :: V.drop j).Perm ([u]++V):=by
 refine mrg_cut (U:=[u]) (i:=0) (j:=j) (by simp [Srt]) hV (by simp) hj (fun h=>absurd h (by omega)) (fun h _=>?_) (by simp) (by simp) (hV.take j) ?_
 ·simpa [gT] using h1 h
 ·refine List.Pairwise.cons (fun y hy=>?_) (hV.drop j)
  have hl:j<V.length:=by
   rcases Nat.lt_or_ge j V.length with h | h
   ·exact h
   ·rw [List.drop_eq_nil_of_le h] at hy;simp at hy
  exact nah_trans (h2 hl) (hV.drop_ge hl y hy)
theorem mrg_last {U:List T2} {v:T2} (hU:Srt U) {i:Nat} (hi:i≤U.length) (h1:0<i→ahd v (gT U (i-1))=false) (h2:i<U.length→ahd v (gT U i)=true) :
 Srt (U.take i++v :: U.drop i)∧(U.take i++v :: U.drop i).Perm (U++[v]):=by
 have:=mrg_cut (V:=[v]) (Z1:=U.take i++[v]) (Z2:=U.drop i) (i:=i) (j:=1) hU (by simp [Srt]) hi (by simp) (fun _ h=>absurd h (by simp)) (fun _ h=>?_) (by simp) (by simp) ?_ (hU.drop i)
 ·simpa using this
 ·simpa [gT] using h2 h
 ·refine srt_app (hU.take i) (by simp [Srt]) fun x hx y hy=>?_
  have h0:0<i:=by
   rcases Nat.eq_zero_or_pos i with h | h
   ·subst h;simp at hx
   ·exact h
  simp only [List.mem_singleton] at hy
  subst hy
  exact nah_trans (hU.take_le (k:=i-1) (by omega) x (by rw [show i-1+1=i by omega];exact hx)) (h1 h0)
theorem srt_unique {A B:List T2} (hA:Srt A) (hB:Srt B) (hp:A.Perm B):A=B :=
 List.Perm.eq_of_pairwise (fun x y _ _ h1 h2=>by
  rw [ahd_not] at h1 h2
  obtain ⟨a,b⟩:=x
  obtain ⟨c,d⟩:=y
  simp only at h1 h2
  have e1:a=c:=by omega
  have e2:b=d:=by omega
  rw [e1,e2]) hA hB hp
def Sg (ts:List T2) (x k:Nat):Prop:=Srt ((ts.drop x).take k)
theorem sg_all {ts:List T2} {k:Nat} (h:Sg ts 0 k) (hk:ts.length≤k):Srt ts:=by
 unfold Sg at h
 rwa [List.drop_zero,List.take_of_length_le hk] at h
theorem sg_nil {ts:List T2} {x k:Nat} (h:ts.length≤x):Sg ts x k:=by
 unfold Sg
 rw [List.drop_eq_nil_of_le h]
 simp [Srt]
theorem sg_left {P T T':List T2} {x k:Nat} (h:Sg (P++T) x k) (hk:x+k≤P.length):Sg (P++T') x k:=by
 unfold Sg at *
 rw [List.drop_append_of_le_length (by omega),List.take_append_of_le_length (by rw [List.length_drop];omega)] at *
 exact h
theorem sg_right {P P' S:List T2} {x k:Nat} (hl:P'.length=P.length) (h:Sg (P++S) x k) (hk:P.length≤x):Sg (P'++S) x k:=by
 unfold Sg at *
 rw [List.drop_append,List.drop_eq_nil_of_le hk,List.nil_append] at h
 rw [List.drop_append,List.drop_eq_nil_of_le (by omega),List.nil_append,hl]
 exact h
theorem sg_mid {P Z S:List T2} {k:Nat} (hZ:Srt Z) (h:Z.length=k∨(Z.length≤k∧S=[])):Sg (P++Z++S) P.length k:=by
 unfold Sg
 rw [List.append_assoc,List.drop_left]
 rcases h with h | ⟨h,rfl⟩
 ·rw [List.take_append_of_le_length (by omega),List.take_of_length_le (by omega)];exact hZ
 ·rw [List.append_nil,List.take_of_length_le h];exact hZ
end
section
open Go.RowKit
attribute [local go_sem ↓] Go.wp_at_zero Go.wp_at_succ
def RowT (w:World) (g:Nat) (ts:List T2):Prop:=g<w.heap.size∧∀k,k<ts.length→w.cell? ⟨g,k*2,none⟩=some (.int .i64 (gT ts k).1)∧w.cell? ⟨g,k*2+1,none⟩=some (.int .i64 (gT ts k).2)∧w.frozen? ⟨g,k*2,none⟩=false∧w.frozen? ⟨g,k*2+1,none⟩=false
theorem gT_set {ts:List T2} {i k:Nat} {x:T2} (h:i<ts.length):gT (ts.set i x) k=if i=k then x else gT ts k:=by
 unfold gT
 rw [List.getElem?_set]
 by_cases e:i=k
 ·subst e;simp [h]
 ·simp [e]
theorem RowT.keep {w w':World} {g:Nat} {ts:List T2} (h:RowT w g ts) (hb:w'.heap[g]?=w.heap[g]?) (hs:w.heap.size≤w'.heap.size):RowT w' g ts:=by
 refine ⟨Nat.lt_of_lt_of_le h.1 hs,fun k hk=>?_⟩
 obtain ⟨h1,h2,h3,h4⟩:=h.2 k hk
 have hf:∀o,w'.frozen? ⟨g,o,none⟩=w.frozen? ⟨g,o,none⟩:=fun o=>by unfold World.frozen?;rw [hb]
 exact ⟨(World.cell?_of_block hb).trans h1,(World.cell?_of_block hb).trans h2,(hf _).trans h3,(hf _).trans h4⟩
theorem cs_ne {w:World} {g i k:Nat} {v:Value} (h:i≠k):(w.setCell ⟨g,i,none⟩ v).cell? ⟨g,k,none⟩=w.cell? ⟨g,k,none⟩:=World.cell?_setCell_other _ _ _ _ (fun e=>h (by injection e))
theorem RowT.set2 {w:World} {g i:Nat} {ts:List T2} {x:T2} (h:RowT w g ts) (hi:i<ts.length):RowT ((w.setCell ⟨g,i*2,none⟩ (.int .i64 x.1)).setCell ⟨g,i*2+1,none⟩ (.int .i64 x.2)) g (ts.set i x):=by
 obtain ⟨hg,hc⟩:=h
 refine ⟨by simpa using hg,fun k hk=>?_⟩
 rw [List.length_set] at hk
 obtain ⟨h1,h2,h3,h4⟩:=hc k hk
 obtain ⟨q1,q2,_,_⟩:=hc i hi
 rw [gT_set hi]
 by_cases e:i=k
 ·subst e
  rw [if_pos rfl]
  refine ⟨?_,?_,by simpa using h3,by simpa using h4⟩
  ·exact (cs_ne (by omega)).trans (World.cell?_setCell_same _ _ _ h1)
  ·exact World.cell?_setCell_same _ _ _ ((cs_ne (by omega)).trans h2)
 ·rw [if_neg e]
  refine ⟨?_,?_,by simpa using h3,by simpa using h4⟩
  ·exact (cs_ne (by omega)).trans ((cs_ne (by omega)).trans h1)
  ·exact (cs_ne (by omega)).trans ((cs_ne (by omega)).trans h2)
def swpL (ts:List T2) (a b:Nat):Nat→List T2
 | 0=>ts
 | i+1=>((swpL ts a b i).set (a+i) (gT (swpL ts a b i) (b+i))).set (b+i) (gT (swpL ts a b i) (a+i))
theorem swpL_len (ts:List T2) (a b:Nat):∀i,(swpL ts a b i).length=ts.length
 | 0=>rfl
 | i+1=>by unfold swpL;rw [List.length_set,List.length_set,swpL_len ts a b i]
theorem swpL_at (ts:List T2) (a b n:Nat) (h1:a+n≤b) (h2:b+n≤ts.length):∀i,i≤n→∀k,gT (swpL ts a b i) k=if a≤k∧k<a+i then gT ts (k-a+b) else if b≤k∧k<b+i then gT ts (k-b+a) else gT ts k
 | 0,_,k=>by
  unfold swpL
  rw [if_neg (by omega),if_neg (by omega)]
 | i+1,hi,k=>by
  have ih:=swpL_at ts a b n h1 h2 i (by omega)
  have hl:=swpL_len ts a b i
  unfold swpL
  have hA:gT (swpL ts a b i) (a+i)=gT ts (a+i):=by rw [ih (a+i),if_neg (by omega),if_neg (by omega)]
  have hB:gT (swpL ts a b i) (b+i)=gT ts (b+i):=by rw [ih (b+i),if_neg (by omega),if_neg (by omega)]
  rw [gT_set (by rw [List.length_set,hl];omega),gT_set (by rw [hl];omega),hA,hB,ih k]
  (repeat' split) <;> first | rfl | (exfalso;omega) | (congr 1;omega)
theorem list_gT {A B:List T2} (hl:A.length=B.length) (h:∀k,k<A.length→gT A k=gT B k):A=B:=by
 apply List.ext_getElem hl
 intro i h1 h2
 have:=h i h1
 rwa [gT_lt h1,gT_lt h2] at this
theorem gT_app (A B:List T2) (k:Nat):gT (A++B) k=if k<A.length then gT A k else gT B (k-A.length):=by
 by_cases h:k<A.length
 ·rw [if_pos h,gT_left h]
 ·rw [if_neg h,gT_right (k:=k-A.length) (by omega)]
theorem swpL_parts {P U M V S:List T2} (h:U.length=V.length):swpL (P++U++M++V++S) P.length (P.length+U.length+M.length) U.length=P++V++M++U++S:=by
 apply list_gT
 ·rw [swpL_len];simp only [List.length_append];omega
 ·intro k hk
  rw [swpL_len] at hk
  simp only [List.length_append] at hk
  rw [swpL_at _ P.length (P.length+U.length+M.length) U.length (by omega) (by simp only [List.length_append];omega) _ (Nat.le_refl _)]
  simp only [gT_app,List.length_append]
  (repeat' split) <;> first | rfl | (exfalso;omega) | (congr 1;omega)
def Tur (w w':World) (g:Nat):Prop:=w.grownBy w' (some g)
theorem tur_set {w:World} {g i:Nat} {u:Value}:Tur w (w.setCell ⟨g,i,none⟩ u) g:=⟨rfl,rfl,rfl,by simp [World.setCell],fun k _ hk=>Below.heap_setCell _ _ _ _ (fun e=>hk (by rw [e]))⟩
theorem Tur.trans {a b c:World} {g:Nat} (h:Tur a b g) (k:Tur b c g):Tur a c g:=h.andThen k (fun _ hj=>.inr hj)
theorem swapRange_any (g n c a b m:Nat) (f:Value) (ts:List T2) (w:World) (hn:n≤100000) (hl:ts.length=n) (h1:a+m≤b) (h2:b+m≤n) (hr:RowT w g ts) :
 Calls Tryz.prog 248 #[.slice (some ⟨g,0,none⟩) n c,.int .i64 (a:Int),.int .i64 (b:Int),.int .i64 (m:Int),f] w fun e w' =>
  e=.returned (.tuple #[])∧RowT w' g (swpL ts a b m)∧Tur w w' g:=by
 have HR:=Lib.hid hr
 have HL:=Lib.hid hl
 clear hr hl
 have HG:Hid (Tur w w g):=gb_refl w _
 go_enter Tryz.func248,Tryz.ntmps248
 go_wp2_with fail
 go_loopw [10] (fun i wr=>∃k:Nat,k≤m∧i=.int .i64 (k:Int)∧Hid (RowT wr g (swpL ts a b k))∧Hid (Tur w wr g)) (fun i _=>m-(RowKit.intOf i).toNat)
 case atStart=>exact ⟨0,Nat.zero_le _,rfl,HR.out,HG.out⟩
 case round =>
  clear HR HG
  obtain ⟨k,hk,rfl,HRk,HGk⟩:=hrel
  by_cases hlt:k<m
  ·have hlen:=swpL_len ts a b k
   rw [HL.out] at hlen
   obtain ⟨p1,p2,p3,p4⟩:=HRk.out.2 (a+k) (by omega)
   obtain ⟨q1,q2,q3,q4⟩:=HRk.out.2 (b+k) (by omega)
   have HS1:=Lib.hid (HRk.out.set2 (i:=a+k) (x:=gT (swpL ts a b k) (b+k)) (by omega))
   have HS2:=Lib.hid (HS1.out.set2 (i:=b+k) (x:=gT (swpL ts a b k) (a+k)) (by rw [List.length_set];omega))
   have HSW:Hid (swpL ts a b (k+1)=((swpL ts a b k).set (a+k) (gT (swpL ts a b k) (b+k))).set (b+k) (gT (swpL ts a b k) (a+k))):=rfl
   rw [←HSW.out] at HS2
   obtain ⟨⟨x1,x2⟩,hx⟩:∃x,gT (swpL ts a b k) (a+k)=x:=⟨_,rfl⟩
   obtain ⟨⟨y1,y2⟩,hy⟩:∃x,gT (swpL ts a b k) (b+k)=x:=⟨_,rfl⟩
   rw [hx] at p1 p2 HS2
   rw [hy] at q1 q2 HS2
   clear HS1 HSW hx hy
   simp only at p1 p2 q1 q2 HS2
   have hne:a+k≠b+k:=by omega
   have a1:((a:Int)+(k:Int))=((a+k:Nat):Int):=by omega
   have b1:((b:Int)+(k:Int))=((b+k:Nat):Int):=by omega
   have u1:IntKind.i64.wrap ((a:Int)+(k:Int))=((a+k:Nat):Int):=by rw [IntWalk.i64_in _ (by omega)];omega
   have u2:IntKind.i64.wrap ((b:Int)+(k:Int))=((b+k:Nat):Int):=by rw [IntWalk.i64_in _ (by omega)];omega
   have i1:((a+k:Nat):Int)<(n:Int):=by omega
   have i2:((b+k:Nat):Int)<(n:Int):=by omega
   have i3:(0:Int)≤((a+k:Nat):Int):=by omega
   have i4:(0:Int)≤((b+k:Nat):Int):=by omega
   clear a1 b1
   generalize a+k=s at *
   generalize b+k=t at *
   go_wp2_with fail
   go_region
   have HGN:Hid (Tur w ((((wr.setCell ⟨g,s*2,none⟩ (.int .i64 y1)).setCell ⟨g,s*2+1,none⟩ (.int .i64 y2)).setCell ⟨g,t*2,none⟩ (.int .i64 x1)).setCell ⟨g,t*2+1,none⟩ (.int .i64 x2)).drew g):=gb_drew (((((HGk.out.trans tur_set).trans tur_set).trans tur_set).trans tur_set))
   have HSN:Hid (RowT ((((wr.setCell ⟨g,s*2,none⟩ (.int .i64 y1)).setCell ⟨g,s*2+1,none⟩ (.int .i64 y2)).setCell ⟨g,t*2,none⟩ (.int .i64 x1)).setCell ⟨g,t*2+1,none⟩ (.int .i64 x2)).drew g (swpL ts a b (k+1))):=HS2.out.keep rfl (Nat.le_refl _)
   clear p1 p2 p3 p4 q1 q2 q3 q4 HS2
   generalize ((((wr.setCell ⟨g,s*2,none⟩ (.int .i64 y1)).setCell ⟨g,s*2+1,none⟩ (.int .i64 y2)).setCell ⟨g,t*2,none⟩ (.int .i64 x1)).setCell ⟨g,t*2+1,none⟩ (.int .i64 x2)).drew=w9 at *
   go_wp2_with fail
   go_roundw
   case rel=>exact ⟨k+1,by omega,by go_num,HSN.out,HGN.out⟩
   case measure=>simp [RowKit.intOf];omega
  ·obtain rfl:k=m:=by omega
   go_wp2_with fail
   go_end0
   exact ⟨rfl,HRk.out,HGk.out⟩
theorem swp_mid {w:World} {g n:Nat} {A X M Y B:List T2} (h:X.length=Y.length) (hl:(A++X++M++Y++B).length=n) (c:Nat) (f:Value) (hn:n≤100000) (hr:RowT w g (A++X++M++Y++B)) (a b m:Nat) (ha:a=A.length) (hb:b=A.length+X.length+M.length) (hm:m=X.length) :
 Calls Tryz.prog 248 #[.slice (some ⟨g,0,none⟩) n c,.int .i64 (a:Int),.int .i64 (b:Int),.int .i64 (m:Int),f] w fun e w' =>
  e=.returned (.tuple #[])∧RowT w' g (A++Y++M++X++B)∧Tur w w' g:=by
 subst ha hb hm
 have hl2:=hl
 simp only [List.length_append] at hl2
 have:=swapRange_any g n c A.length (A.length+X.length+M.length) X.length f (A++X++M++Y++B) w hn hl (by omega) (by omega) hr
 rw [swpL_parts h] at this
 exact this
theorem rot_lt {w:World} {g n c x y m:Nat} {f:Value} {A X Y B:List T2} (hX:X.length=x) (hY:Y.length=y) (hxy:x<y) (hm:m=A.length+x) (hl:(A++X++Y++B).length=n) (hn:n≤100000) (hr:RowT w g (A++X++Y++B)) :
 Calls Tryz.prog 248 #[.slice (some ⟨g,0,none⟩) n c,.int .i64 ((m-x:Nat):Int),.int .i64 ((m+y-x:Nat):Int),.int .i64 (x:Int),f] w fun e w' =>
  e=.returned (.tuple #[])∧RowT w' g (A++Y.drop (y-x)++Y.take (y-x)++(X++B))∧Tur w w' g:=by
 have e:A++X++Y++B=A++X++Y.take (y-x)++Y.drop (y-x)++B:=by
  rw [List.append_assoc (A++X) (Y.take (y-x)) (Y.drop (y-x)),List.take_append_drop]
 rw [e] at hr hl
 have:=swp_mid (A:=A) (X:=X) (M:=Y.take (y-x)) (Y:=Y.drop (y-x)) (B:=B) (by rw [hX,List.length_drop,hY];omega) hl c f hn hr (m-x) (m+y-x) x (by omega) (by rw [hX,List.length_take,hY];omega) hX.symm
 rw [List.append_assoc (A++Y.drop (y-x)++Y.take (y-x)) X B] at this
 exact this
theorem rot_gt {w:World} {g n c x y m:Nat} {f:Value} {A X Y B:List T2} (hX:X.length=x) (hY:Y.length=y) (hxy:y<x) (hm:m=A.length+x) (hl:(A++X++Y++B).length=n) (hn:n≤100000) (hr:RowT w g (A++X++Y++B)) :
 Calls Tryz.prog 248 #[.slice (some ⟨g,0,none⟩) n c,.int .i64 ((m-x:Nat):Int),.int .i64 (m:Int),.int .i64 (y:Int),f] w fun e w' =>
  e=.returned (.tuple #[])∧RowT w' g (A++Y++X.drop y++X.take y++B)∧Tur w w' g:=by
 have e:A++X++Y++B=A++X.take y++X.drop y++Y++B:=by
  rw [List.append_assoc A (X.take y) (X.drop y),List.take_append_drop]
 rw [e] at hr hl
 have hx:(X.take y).length=y:=by rw [List.length_take,hX];omega
 exact swp_mid (A:=A) (X:=X.take y) (M:=X.drop y) (Y:=Y) (B:=B) (by rw [hx,hY]) hl c f hn hr (m-x) m y (by omega) (by rw [hx,List.length_drop,hX];omega) hx.symm
theorem rot_eq {w:World} {g n c x m:Nat} {f:Value} {A X Y B:List T2} (hX:X.length=x) (hY:Y.length=x) (hm:m=A.length+x) (hl:(A++X++Y++B).length=n) (hn:n≤100000) (hr:RowT w g (A++X++Y++B)) :
 Calls Tryz.prog 248 #[.slice (some ⟨g,0,none⟩) n c,.int .i64 ((m-x:Nat):Int),.int .i64 (m:Int),.int .i64 (x:Int),f] w fun e w' =>
  e=.returned (.tuple #[])∧RowT w' g (A++Y++X++B)∧Tur w w' g:=by
 have e:A++X++Y++B=A++X++[]++Y++B:=by rw [List.append_nil]
 rw [e] at hr hl
 have:=swp_mid (A:=A) (X:=X) (M:=[]) (Y:=Y) (B:=B) (by rw [hX,hY]) hl c f hn hr (m-x) m x (by omega) (by rw [hX];simp;omega) hX.symm
 rw [List.append_nil] at this
 exact this
theorem rotate_any (g n c:Nat) (f:Value) (P U V S:List T2) (w:World) (hn:n≤100000) (hl:(P++U++V++S).length=n) (hU:1≤U.length) (hV:1≤V.length) (hr:RowT w g (P++U++V++S)) (a m b:Nat) (ha:a=P.length) (hm:m=P.length+U.length) (hb:b=P.length+U.length+V.length) :
 Calls Tryz.prog 221 #[.slice (some ⟨g,0,none⟩) n c,.int .i64 (a:Int),.int .i64 (m:Int),.int .i64 (b:Int),f] w fun e w' =>
  e=.returned (.tuple #[])∧RowT w' g (P++V++U++S)∧Tur w w' g:=by
 have HR:=Lib.hid hr
 clear hr
 have HG:Hid (Tur w w g):=gb_refl w _
 obtain ⟨F,hF⟩:∃F,P++V++U++S=F:=⟨_,rfl⟩
 have hFl:F.length=n:=by rw [←hF,←hl];simp only [List.length_append];omega
 have hl2:=hl
 simp only [List.length_append] at hl2
 rw [hF]
 have u1:IntKind.i64.wrap ((m:Int)-(a:Int))=((U.length:Nat):Int):=by rw [IntWalk.i64_in _ (by omega)];omega
 have u2:IntKind.i64.wrap ((b:Int)-(m:Int))=((V.length:Nat):Int):=by rw [IntWalk.i64_in _ (by omega)];omega
 have HF:=Lib.hid hF
 have HL:=Lib.hid hl
 have HMM:=Lib.hid hm
 have HFL:=Lib.hid hFl
 have b1:a≤m:=by omega
 have b2:m≤b:=by omega
 have b3:b≤n:=by omega
 have HPN:Hid (P.length+U.length+V.length≤n):=by unfold Hid;omega
 clear ha hm hb hl hl2 hF hFl
 obtain ⟨ul,hul⟩:∃ul,U.length=ul:=⟨_,rfl⟩
 obtain ⟨vl,hvl⟩:∃vl,V.length=vl:=⟨_,rfl⟩
 rw [hul] at u1 hU
 rw [hvl] at u2 hV
 have HUL:=Lib.hid hul;have HVL:=Lib.hid hvl
 clear hul hvl
 go_enter Tryz.func221,Tryz.ntmps221
 go_wp2_with fail
 go_loopw [10,11] (fun i j wr=>∃(A X Y B:List T2) (x y:Nat),i=.int .i64 (x:Int)∧j=.int .i64 (y:Int)∧Hid (X.length=x)∧Hid (Y.length=y)∧1≤x∧1≤y∧Hid (m=A.length+x)∧x≤m∧m+y≤n∧Hid (A++Y++X++B=F)∧Hid (RowT wr g (A++X++Y++B))∧Hid (Tur w wr g)) (fun i j _=>(RowKit.intOf i).toNat+(RowKit.intOf j).toNat)
 case atStart=>exact ⟨P,U,V,S,ul,vl,rfl,rfl,HUL.out,HVL.out,hU,hV,by have:=HMM.out;have:=HUL.out;unfold Hid;omega,by have:=HMM.out;have:=HUL.out;omega,by have:=HMM.out;have:=HUL.out;have:=HVL.out;have:=HPN.out;omega,HF.out,HR.out,HG.out⟩
 case round =>
  clear HR HG u1 u2
  obtain ⟨A,X,Y,B,x,y,rfl,rfl,HX,HY,hx1,hy1,HMA,hxm,hAn,HE,HRk,HGk⟩:=hrel
  have HLN:Hid ((A++X++Y++B).length=n):=by
   have:=congrArg List.length HE.out
   rw [HFL.out] at this
   unfold Hid
   simp only [List.length_append] at this ⊢
   omega
  have HRT:=Lib.hid HRk.out
  rcases Nat.lt_trichotomy x y with hlt | heq | hgt
  ·have d0:((x:Int) != (y:Int))=true:=by simp;omega
   have hsw:=rot_lt (c:=c) (f:=f) HX.out HY.out hlt HMA.out HLN.out hn HRT.out
   have e3:((m+y-x:Nat):Int)=(m:Int)+(y:Int)-(x:Int):=by omega
   rw [e3] at hsw
   have HSW:=Lib.hid hsw
   clear hsw e3
   have v1:IntKind.i64.wrap ((m:Int)-(x:Int))=((m-x:Nat):Int):=by rw [IntWalk.i64_in _ (by omega)];omega
   have v4:IntKind.i64.wrap ((y:Int)-(x:Int))=((y-x:Nat):Int):=by rw [IntWalk.i64_in _ (by omega)];omega
   have hi:¬(y:Int)<(x:Int):=by omega
   have HX2:Hid ((Y.drop (y-x)).length=x):=by unfold Hid;rw [List.length_drop,HY.out];omega
   have HY2:Hid ((Y.take (y-x)).length=y-x):=by unfold Hid;rw [List.length_take,HY.out];omega
   have HE2:Hid (A++Y.take (y-x)++Y.drop (y-x)++(X++B)=F):=by
    unfold Hid
    rw [←HE.out,List.append_assoc A (Y.take (y-x)) (Y.drop (y-x)),List.take_append_drop,List.append_assoc (A++Y) X B]
   have ha2:m+(y-x)≤n:=by omega
   have hy2:1≤y-x:=by omega
   generalize Y.drop (y-x)=Y2 at *
   generalize Y.take (y-x)=Y1 at *
   clear HE HX HY HLN HRk HRT
   go_wp2_with fail
   refine HSW.out.mono ?_
   rintro e w2 ⟨rfl,hr2,hg2⟩
   have HR2:=Lib.hid hr2
   have HG2:=Lib.hid (HGk.out.trans hg2)
   clear hr2 hg2 HSW HGk
   go_wp2_with fail
   go_roundw
   case rel=>exact ⟨A,Y2,Y1,X++B,x,y-x,rfl,rfl,HX2.out,HY2.out,hx1,hy2,HMA.out,hxm,ha2,HE2.out,HR2.out,HG2.out⟩
   case measure=>simp [RowKit.intOf];omega
  ·have d0:((x:Int) != (y:Int))=false:=by simp;omega
   have HSW:=Lib.hid (rot_eq (c:=c) (f:=f) HX.out (HY.out.trans heq.symm) HMA.out HLN.out hn HRT.out)
   have v1:IntKind.i64.wrap ((m:Int)-(x:Int))=((m-x:Nat):Int):=by rw [IntWalk.i64_in _ (by omega)];omega
   clear HX HY HLN HRk HRT heq
   go_wp2_with fail
   refine HSW.out.mono ?_
   rintro e w2 ⟨rfl,hr2,hg2⟩
   have HR2:=Lib.hid hr2
   have HG2:=Lib.hid (HGk.out.trans hg2)
   clear hr2 hg2 HSW HGk
   go_wp2_with fail
   go_end0
   exact ⟨rfl,by rw [←HE.out];exact HR2.out,HG2.out⟩
  ·have d0:((x:Int) != (y:Int))=true:=by simp;omega
   have HSW:=Lib.hid (rot_gt (c:=c) (f:=f) HX.out HY.out hgt HMA.out HLN.out hn HRT.out)
   have v1:IntKind.i64.wrap ((m:Int)-(x:Int))=((m-x:Nat):Int):=by rw [IntWalk.i64_in _ (by omega)];omega
   have v4:IntKind.i64.wrap ((x:Int)-(y:Int))=((x-y:Nat):Int):=by rw [IntWalk.i64_in _ (by omega)];omega
   have HX2:Hid ((X.drop y).length=x-y):=by unfold Hid;rw [List.length_drop,HX.out]
   have HY2:Hid ((X.take y).length=y):=by unfold Hid;rw [List.length_take,HX.out];omega
   have HE2:Hid (A++Y++X.take y++X.drop y++B=F):=by
    unfold Hid
    rw [←HE.out,List.append_assoc (A++Y) (X.take y) (X.drop y),List.take_append_drop]
   have HM2:Hid (m=(A++Y).length+(x-y)):=by unfold Hid;rw [List.length_append,HY.out];have:=HMA.out;omega
   have hx2:1≤x-y:=by omega
   have hx3:x-y≤m:=by omega
   generalize X.drop y=X2 at *
   generalize X.take y=X1 at *
   clear HE HX HY HLN HRk HRT
   go_wp2_with fail
   refine HSW.out.mono ?_
   rintro e w2 ⟨rfl,hr2,hg2⟩
   have HR2:=Lib.hid hr2
   have HG2:=Lib.hid (HGk.out.trans hg2)
   clear hr2 hg2 HSW HGk
   go_wp2_with fail
   go_roundw
   case rel=>exact ⟨A++Y,X2,X1,B,x-y,y,rfl,rfl,HX2.out,HY2.out,hx2,hy1,HM2.out,hx3,hAn,HE2.out,HR2.out,HG2.out⟩
   case measure=>simp [RowKit.intOf];omega
end
section
open Go.RowKit Go.Sort
attribute [local go_sem ↓] Go.wp_at_zero Go.wp_at_succ
def encT (x:T2):List Value:=[.int .i64 x.1,.int .i64 x.2]
def cfT (x y:T2):Int:=or2 (Lib.compareInt y.1 x.1) (Lib.compareInt y.2 x.2)
theorem compareTerms_any (x y:T2) (W:World):Calls Tryz.prog 42 #[.agg #[.int .i64 x.1,.int .i64 x.2],.agg #[.int .i64 y.1,.int .i64 y.2]] W fun e w'=>e=.returned (.int .i64 (cfT x y))∧∃q os',w'=grow (W.drewN q) os':=by
 obtain ⟨x1,x2⟩:=x
 obtain ⟨y1,y2⟩:=y
 unfold cfT
 have HC1:=Lib.hid (fun W=>Tryz.cmp_Compare_int y1 x1 W)
 have HC2:=Lib.hid (fun W=>Tryz.cmp_Compare_int y2 x2 W)
 generalize Lib.compareInt y1 x1=c1 at *
 generalize Lib.compareInt y2 x2=c2 at *
 obtain ⟨W2,hW2⟩:∃W2,(W.alloc (.cells #[.int .i64 x1,.int .i64 x2] 39)).alloc (.cells #[.int .i64 y1,.int .i64 y2] 39)=W2:=⟨_,rfl⟩
 have HE:Hid (∀o,∃q os',W2.drew.alloc o=grow (W.drewN q) os'):=fun o=>by
  refine ⟨1,(#[.cells #[.int .i64 x1,.int .i64 x2] 39]++#[.cells #[.int .i64 y1,.int .i64 y2] 39])++#[o],?_⟩
  rw [←hW2,alloc_eq_grow,alloc_eq_grow W,alloc_eq_grow (grow _ _),grow_grow]
  show grow (grow (W.drewN 1) _) _=_
  rw [grow_grow]
 have HX:=Lib.hid ((Blk.new W 39 #[.int .i64 x1,.int .i64 x2]).alloc (.cells #[.int .i64 y1,.int .i64 y2] 39))
 have HY:=Lib.hid (Blk.new (W.alloc (.cells #[.int .i64 x1,.int .i64 x2] 39)) 39 #[.int .i64 y1,.int .i64 y2])
 go_enter Tryz.func42,Tryz.ntmps42
 go_wp2_with fail
 rw [hW2] at HX HY
 obtain ⟨p1,p2,_,_⟩:=blk2 HX.out
 obtain ⟨q1,q2,_,_⟩:=blk2 HY.out
 clear hW2 HX HY
 simp only [World.size_alloc] at q1 q2
 go_still_tail 10,(by kernel_rfl)
 still_call (HC1.out _)
 repeat still_step
 still_call (HC2.out _)
 refine wpStill_nil ?_
 change wpList _ _ _ _ _ W2.drew
 clear p1 p2 q1 q2 HC1 HC2
 generalize W2.drew=W3 at *
 go_wp2_with fail
 refine (or_any W3.heap.size c1 c2 _ (Blk.new _ _ _)).mono ?_
 rintro e w4 ⟨rfl,rfl⟩
 go_wp2_with fail
 go_ret
 exact ⟨rfl,HE.out _⟩
theorem cmpLaysT (blk off size:Nat) (w:World):CmpLays Tryz.prog 42 #[] encT 2 cfT blk off size w :=
 fun _ _ _ _ x y=>compareTerms_any x y _
theorem cfT_ahd (x y:T2):decide (cfT x y<0)=ahd x y:=by
 unfold cfT or2 Lib.compareInt ahd
 rw [decide_eq_decide]
 (repeat' split) <;> omega
theorem rowT_holds {w:World} {g:Nat} {ts:List T2} (h:RowT w g ts):HoldsK encT 2 w g 0 ts.toArray:=by
 intro j hj
 rw [size_flatK] at hj
 simp only [List.size_toArray] at hj
 rw [get_flatK _ _ _ _ (by simpa using hj),Nat.zero_add]
 have hjn:j / 2<ts.length:=by omega
 obtain ⟨c1,c2,c3,c4⟩:=h.2 (j / 2) hjn
 have hg:ts.toArray[j / 2]! = gT ts (j / 2):=by simp [gT,hjn]
 rw [hg]
 have h3:j % 2=0∨j % 2=1:=by omega
 rcases h3 with h' | h'
 ·have e:j=j / 2*2:=by omega
  rw [←e] at c1 c3
  exact ⟨by rw [c1,h'];rfl,c3⟩
 ·have e:j=j / 2*2+1:=by omega
  rw [←e] at c2 c4
  exact ⟨by rw [c2,h'];rfl,c4⟩
theorem holds_rowT {w:World} {g:Nat} {d:Array T2} (h:HoldsK encT 2 w g 0 d) (hg:g<w.heap.size):RowT w g d.toList:=by
 refine ⟨hg,fun k hk=>?_⟩
 simp only [Array.length_toList] at hk
 have e:gT d.toList k=d[k]! := by simp [gT,hk]
 have k1:=h.cell (i:=k) (c:=0) hk (by omega)
 have k2:=h.cell (i:=k) (c:=1) hk (by omega)
 rw [e]
 rw [show 0+k*2+0=k*2 by omega] at k1
 rw [show 0+k*2+1=k*2+1 by omega] at k2
 exact ⟨k1.1,k2.1,k1.2,k2.2⟩
theorem tur_sort {w:World} {g m:Nat} {os:Array Obj} (d:Array T2):Tur w (sortWorldK encT 2 w g 0 m d os) g:=by
 have hsz:(putRow id (Sort.ahead w m) g 0 (flatK encT 2 d)).heap.size=w.heap.size:=by simp [putRow,mapBlock,Sort.ahead]
 refine ⟨rfl,rfl,rfl,?_,fun i hi hne=>?_⟩
 ·show w.heap.size≤((putRow id (Sort.ahead w m) g 0 (flatK encT 2 d)).heap++os).size
  rw [Array.size_append,hsz];omega
 ·have hne':g≠i:=fun e=>hne (by rw [e])
  show ((putRow id (Sort.ahead w m) g 0 (flatK encT 2 d)).heap++os)[i]?=_
  rw [Array.getElem?_append_left (by rw [hsz];exact hi)]
  simp [putRow,mapBlock,Sort.ahead,Array.getElem?_modify,hne']
theorem swoT:SWO (ltOf cfT) where
 irrefl x:=by show decide (cfT x x<0)=false;rw [cfT_ahd];exact ahd_self x
 trans x y z h1 h2:=by
  have h1':ahd x y=true:=by rw [←cfT_ahd];exact h1
  have h2':ahd y z=true:=by rw [←cfT_ahd];exact h2
  show decide (cfT x z<0)=true
  rw [cfT_ahd];rw [ahd_iff] at *;omega
 ntrans x y z h1 h2:=by
  have h1':ahd x y=false:=by rw [←cfT_ahd];exact h1
  have h2':ahd y z=false:=by rw [←cfT_ahd];exact h2
  show decide (cfT x z<0)=false
  rw [cfT_ahd];exact nah_trans h2' h1'
theorem arr_gT (l:List T2) (k:Nat):l.toArray[k]! = gT l k:=by
 by_cases h:k<l.length
 ·simp [gT,h]
 ·simp [gT,h];rfl
theorem ext_mid {P U S:List T2} {d':Array T2} (h:PermIn P.length (P.length+U.length) (P++U++S).toArray d') (hs:SortedIn (ltOf cfT) P.length (P.length+U.length) d') :
 ∃U',U'.Perm U∧Srt U'∧d'.toList=P++U'++S:=by
 obtain ⟨h1,h2,h3⟩:=h
 have hsz:d'.size=P.length+U.length+S.length:=by rw [h1];simp;omega
 have e0:((P++U++S).toArray.extract P.length (P.length+U.length)).toList=U:=by
  simp
 rw [e0] at h3
 have hl:=h3.length_eq
 refine ⟨(d'.extract P.length (P.length+U.length)).toList,h3,?_,?_⟩
 ·unfold Srt
  rw [List.pairwise_iff_getElem]
  intro i j hi hj hij
  have hj2:j<U.length:=by rw [hl] at hj;exact hj
  have:=hs (P.length+i) (P.length+j) (by omega) (by omega) (by omega)
  have hlt:ltOf cfT d'[P.length+j]! d'[P.length+i]! = ahd d'[P.length+j]! d'[P.length+i]! := cfT_ahd _ _
  rw [hlt] at this
  have e1:(d'.extract P.length (P.length+U.length)).toList[i]=d'[P.length+i]! := by
   have:P.length+i<d'.size:=by omega
   simp [this]
  have e2:(d'.extract P.length (P.length+U.length)).toList[j]=d'[P.length+j]! := by
   have:P.length+j<d'.size:=by omega
   simp [this]
  rw [e1,e2];exact this
 ·apply list_gT
  ·simp [hsz];omega
  ·intro k hk
   simp only [Array.length_toList] at hk
   rw [gT_app,gT_app]
   have e:gT d'.toList k=d'[k]! := by simp [gT,hk]
   rw [e]
   have hu:(d'.extract P.length (P.length+U.length)).toList.length=U.length:=hl
   simp only [List.length_append,hu]
   by_cases c1:k<P.length
   ·rw [if_pos (by omega),if_pos c1,h2 k (.inl c1),arr_gT,gT_app,if_pos (by simp;omega),gT_app,if_pos c1]
   ·by_cases c2:k<P.length+U.length
    ·rw [if_pos c2,if_neg c1]
     have:P.length+(k-P.length)<d'.size:=by omega
     have hx:(d'.extract P.length (P.length+U.length)).toList[k-P.length]?=some d'[k]! := by
      rw [Array.getElem?_toList,Array.getElem?_extract,if_pos (by omega),show P.length+(k-P.length)=k by omega]
      simp [hk]
     unfold gT;rw [hx];rfl
    ·rw [if_neg c2,h2 k (.inr (by omega)),arr_gT,gT_app,if_neg (by simp;omega)]
     simp only [List.length_append]
def cmpFn:Value:=.func (.func 42) #[] #[]
theorem insRange_any (g n c a b:Nat) (P U S:List T2) (w:World) (hl:(P++U++S).length=n) (hn:n≤100000) (ha:a=P.length) (hb:b=P.length+U.length) (hr:RowT w g (P++U++S)) :
 Calls Tryz.prog 172 #[.slice (some ⟨g,0,none⟩) n c,.int .i64 (a:Int),.int .i64 (b:Int),cmpFn] w fun e w' =>
  e=.returned (.tuple #[])∧∃U',U'.Perm U∧Srt U'∧RowT w' g (P++U'++S)∧Tur w w' g:=by
 subst ha hb
 have eg:∀args w,(callFunc 42 args).run Tryz.prog w=.ok (.enter 42 args) w:=enters_of Tryz.func42 (by kernel_rfl) rfl
 have hsz:(P++U++S).toArray.size=n:=by simpa using hl
 have hle:P.length+U.length≤(P++U++S).toArray.size:=by rw [hsz,←hl];simp only [List.length_append];omega
 have hcon:=AnyQ.insertionSortCmpFunc Tryz.insTerms 2 Tryz.isAgg39 Tryz.sizeOf39 encT (fun _=>rfl) (fun x v hv=>by simp [encT] at hv;rcases hv with rfl | rfl <;> rfl) cfT 42 #[] g 0 c P.length (P.length+U.length) (P++U++S).toArray w eg (cmpLaysT g 0 _ w) (rowT_holds hr) hr.1 (by omega) hle (by omega)
 rw [hsz] at hcon
 refine hcon.mono ?_
 rintro e w' ⟨rfl,m,os,rfl⟩
 obtain ⟨h1,h2⟩:=Sort.insertionSort_holds (lt:=ltOf cfT) swoT (P++U++S).toArray P.length (P.length+U.length) (by omega) hle
 obtain ⟨U',hp,hs,he⟩:=ext_mid h1 h2
 have hH:=holdsK_sortWorldK encT 2 w g 0 m (P++U++S).toArray (Sort.insertionSort (ltOf cfT) (P++U++S).toArray P.length (P.length+U.length)) os hr.1 (rowT_holds hr) h1.1
 have hR:=holds_rowT hH (lt_sortWorldK encT 2 w g 0 m _ os hr.1)
 rw [he] at hR
 exact ⟨rfl,U',hp,hs,hR,tur_sort _⟩
end
section
open Go.RowKit Go.Sort
attribute [local go_sem ↓] Go.wp_at_zero Go.wp_at_succ
theorem cmp_call (x y:T2) (W:World):Calls Tryz.prog 42 #[.agg #[.int .i64 x.1,.int .i64 x.2],.agg #[.int .i64 y.1,.int .i64 y.2]] W fun e w'=>e=.returned (.int .i64 (cfT x y))∧Below W.heap.size W w' :=
 (compareTerms_any x y W).mono fun _ _ ⟨he,h⟩=>⟨he,grow_below h⟩
theorem tur_below {w w':World} {g:Nat} (h:Below w.heap.size w w'):Tur w w' g:=⟨h.os,h.tape,h.output,h.size,fun i hi _=>h.block i hi⟩
theorem RowT.below {w w':World} {g:Nat} {ts:List T2} (h:RowT w g ts) (hb:Below w.heap.size w w'):RowT w' g ts:=h.keep (hb.block g h.1) hb.size
theorem shift_step {P V S:List T2} {u:T2} {t:Nat} (h:t<V.length) :
 (P++V.take t++[u]++V.drop t++S).length=P.length+1+V.length+S.length∧gT (P++V.take t++[u]++V.drop t++S) (P.length+t)=u∧gT (P++V.take t++[u]++V.drop t++S) (P.length+t+1)=gT V t ∧
  ((P++V.take t++[u]++V.drop t++S).set (P.length+t) (gT V t)).set (P.length+t+1) u=P++V.take (t+1)++[u]++V.drop (t+1)++S:=by
 have hl:(P++V.take t).length=P.length+t:=by rw [List.length_append,List.length_take];omega
 have hd:V.drop t=gT V t :: V.drop (t+1):=by rw [gT_lt h];exact List.drop_eq_getElem_cons h
 have e:P++V.take t++[u]++V.drop t++S=(P++V.take t)++[u]++[]++[gT V t]++(V.drop (t+1)++S):=by rw [hd];simp
 have hg1:gT (P++V.take t++[u]++V.drop t++S) (P.length+t)=u:=by rw [e,←hl];simp [gT]
 have hg2:gT (P++V.take t++[u]++V.drop t++S) (P.length+t+1)=gT V t:=by
  rw [e,List.append_nil,gT_left (by simp only [List.length_append,List.length_singleton,List.length_take];omega),gT_right (k:=0) (by simp only [List.length_append,List.length_singleton,List.length_take];omega)];rfl
 refine ⟨by simp only [List.length_append,List.length_take,List.length_drop,List.length_singleton];omega,hg1,hg2,?_⟩
 have hp:=swpL_parts (P:=P++V.take t) (U:=[u]) (M:=[]) (V:=[gT V t]) (S:=V.drop (t+1)++S) rfl
 rw [←e,hl] at hp
 have hp1:swpL (P++V.take t++[u]++V.drop t++S) (P.length+t) (P.length+t+1) 1=_:=hp
 unfold swpL swpL at hp1
 rw [Nat.add_zero,Nat.add_zero,hg1,hg2] at hp1
 rw [hp1]
 have ht:V.take (t+1)=V.take t++[gT V t]:=by rw [gT_lt h,List.take_succ_eq_append_getElem h]
 rw [ht];simp
theorem symOne_any (g n c:Nat) (P V S:List T2) (u:T2) (w:World) (hn:n≤100000) (hl:(P++[u]++V++S).length=n) (hV:Srt V) (hr:RowT w g (P++[u]++V++S)) (a b:Nat) (ha:a=P.length) (hb:b=P.length+1+V.length) :
 Calls Tryz.prog 173 #[.slice (some ⟨g,0,none⟩) n c,.int .i64 (a:Int),.int .i64 ((a+1:Nat):Int),.int .i64 (b:Int),cmpFn] w fun e w' =>
  e=.returned (.tuple #[])∧∃Z,Z.Perm ([u]++V)∧Srt Z∧RowT w' g (P++Z++S)∧Tur w w' g:=by
 have HR:=Lib.hid hr
 have HG:Hid (Tur w w g):=gb_refl w _
 have HA:=Lib.hid ha
 have HVV:=Lib.hid hV
 obtain ⟨v,hv⟩:∃v,V.length=v:=⟨_,rfl⟩
 have HVL:=Lib.hid hv
 have hbn:b≤n:=by rw [←hl,hb];simp only [List.length_append,List.length_singleton];omega
 have hab:b=a+1+v:=by omega
 have HL:=Lib.hid hl
 have HAB:=Lib.hid hab
 have hab1:a+1≤b:=by omega
 clear hr ha hV hb hv hab hl
 unfold cmpFn
 have e1:(((a+1:Nat):Int)-(a:Int)==1)=true:=by simp;omega
 go_enter Tryz.func173,Tryz.ntmps173
 go_wp2_with fail
 go_loopw [10,11,12] (fun i j _ wr=>∃(x y:Nat),i=.int .i64 (x:Int)∧j=.int .i64 (y:Int)∧a+1≤x∧x≤y∧y≤b∧Hid (a+1<x→ahd (gT V (x-1-(a+1))) u=true)∧Hid (y<b→ahd (gT V (y-(a+1))) u=false)∧Hid (RowT wr g (P++[u]++V++S))∧Hid (Tur w wr g)) (fun i j _ _=>(RowKit.intOf j).toNat-(RowKit.intOf i).toNat)
 case atStart=>exact ⟨a+1,b,rfl,rfl,Nat.le_refl _,hab1,Nat.le_refl _,fun h=>absurd h (by omega),fun h=>absurd h (by omega),HR.out,HG.out⟩
 case round =>
  clear HR HG
  obtain ⟨x,y,rfl,rfl,hx1,hxy,hyb,HXL,HYR,HRk,HGk⟩:=hrel
  by_cases hlt:x<y
  ·obtain ⟨h,hh⟩:∃h:Nat,(x+y) / 2=h:=⟨_,rfl⟩
   have hh1:x≤h∧h<y:=by omega
   have eh:((x:Int)+(y:Int)) / 2=(h:Int):=by omega
   clear hh
   obtain ⟨p1,p2,_,_⟩:=HRk.out.2 h (by rw [HL.out];omega)
   obtain ⟨q1,q2,_,_⟩:=HRk.out.2 a (by rw [HL.out];omega)
   have hgh:gT (P++[u]++V++S) h=gT V (h-(a+1)):=by
    have h1:=HA.out;have h2:=HVL.out;have h3:=HAB.out
    rw [gT_app,if_pos (by simp only [List.length_append,List.length_singleton];omega),gT_app,if_neg (by simp only [List.length_append,List.length_singleton];omega)]
    simp only [List.length_append,List.length_singleton]
    rw [h1]
   have hga:gT (P++[u]++V++S) a=u:=by
    have h1:=HA.out
    rw [List.append_assoc,List.append_assoc,gT_right (k:=0) (by omega)];rfl
   rw [hgh] at p1 p2
   rw [hga] at q1 q2
   have HN1:Hid (ahd (gT V (h-(a+1))) u=decide (cfT (gT V (h-(a+1))) u<0)):=(cfT_ahd _ _).symm
   have HCM:=Lib.hid (cmp_call (gT V (h-(a+1))) u)
   obtain ⟨⟨z1,z2⟩,hz⟩:∃z,gT V (h-(a+1))=z:=⟨_,rfl⟩
   rw [hz] at p1 p2 HN1 HCM
   have HZ:=Lib.hid hz
   clear hz
   obtain ⟨u1,u2⟩:=u
   simp only at p1 p2 q1 q2 HCM
   have k1:=After.cell p1;have k2:=After.cell p2;have k3:=After.cell q1;have k4:=After.cell q2
   have i1:(h:Int)<(n:Int):=by omega
   have i2:(0:Int)≤(h:Int):=by omega
   have i3:(a:Int)<(n:Int):=by omega
   have i4:(0:Int)≤(a:Int):=by omega
   clear hgh hga
   go_wp2_with fail
   refine wp_region_after (by kernel_rfl) (by kernel_rfl) ?_
   repeat (go_big_quiet_step ((go_at_call 42;exact after_call _ (HCM.out _))))
   refine wpQuiet_nil ?_
   intro w9 hw'
   obtain ⟨⟨w9',hb9⟩,hw''⟩:=hw'
   subst hw''
   have HR9:=Lib.hid (HRk.out.below hb9)
   have HG9:=Lib.hid (HGk.out.trans (tur_below hb9))
   clear hb9 k1 k2 k3 k4 p1 p2 q1 q2 HRk HGk HCM
   have u3:IntKind.i64.wrap ((h:Int)+1)=(h:Int)+1:=IntWalk.i64_in _ (by omega)
   by_cases hc:cfT (z1,z2) (u1,u2)<0
   ·have HN2:Hid (ahd (gT V (h+1-1-(a+1))) (u1,u2)=true):=by unfold Hid;rw [show h+1-1-(a+1)=h-(a+1) by omega,HZ.out,HN1.out];exact decide_eq_true hc
    generalize cfT (z1,z2) (u1,u2)=cc at *
    go_wp2_with fail
    go_roundw
    case rel=>exact ⟨h+1,y,by go_num,rfl,by omega,by omega,hyb,fun _=>HN2.out,HYR.out,HR9.out,HG9.out⟩
    case measure=>simp [RowKit.intOf];omega
   ·have HN2:Hid (ahd (gT V (h-(a+1))) (u1,u2)=false):=by unfold Hid;rw [HZ.out,HN1.out];exact decide_eq_false hc
    generalize cfT (z1,z2) (u1,u2)=cc at *
    go_wp2_with fail
    go_roundw
    case rel=>exact ⟨x,h,rfl,rfl,by omega,by omega,by omega,HXL.out,fun _=>HN2.out,HR9.out,HG9.out⟩
    case measure=>simp [RowKit.intOf];omega
  ·obtain rfl:x=y:=by omega
   have HJ:Hid (x-(a+1)≤V.length):=by have:=HVL.out;have:=HAB.out;unfold Hid;omega
   have HR0:Hid (RowT wr g (P++V.take 0++[u]++V.drop 0++S)):=by
    unfold Hid
    rw [List.take_zero,List.drop_zero,List.append_nil];exact HRk.out
   have HM1:=Lib.hid (mrg_one HVV.out HJ.out (fun h=>by have:=HXL.out (by omega);rwa [show x-(a+1)-1=x-1-(a+1) by omega]) (fun h=>HYR.out (by have:=HVL.out;have:=HAB.out;omega)))
   have ux:IntKind.i64.wrap ((x:Int)-1)=(x:Int)-1:=IntWalk.i64_in _ (by omega)
   clear HRk
   go_wp2_with fail
   go_loopw [13] (fun k wx=>∃t s:Nat,k=.int .i64 (s:Int)∧Hid (s=a+t)∧s+1≤x∧Hid (RowT wx g (P++V.take t++[u]++V.drop t++S))∧Hid (Tur w wx g)) (fun k _=>x-(RowKit.intOf k).toNat)
   case atStart=>exact ⟨0,a,rfl,rfl,hx1,HR0.out,HGk.out⟩
   case round =>
    clear HR0 HGk
    obtain ⟨t,s,rfl,HS,hsx,HRt,HGt⟩:=hrel
    by_cases hlt:s+1<x
    ·have htv:t<V.length:=by have:=HJ.out;have:=HS.out;omega
     have hst:=shift_step (P:=P) (V:=V) (S:=S) (u:=u) htv
     rw [←HA.out,←HS.out] at hst
     obtain ⟨_,hg1,hg2,hse⟩:=hst
     have hln:(P++V.take t++[u]++V.drop t++S).length=n:=by
      rw [←HL.out];simp only [List.length_append,List.length_take,List.length_drop];omega
     have HS1:=Lib.hid (HRt.out.set2 (i:=s) (x:=gT V t) (by rw [hln];omega))
     have HS2:=Lib.hid (HS1.out.set2 (i:=s+1) (x:=u) (by rw [List.length_set,hln];omega))
     rw [hse] at HS2
     obtain ⟨p1,p2,p3,p4⟩:=HRt.out.2 s (by rw [hln];omega)
     obtain ⟨q1,q2,q3,q4⟩:=HRt.out.2 (s+1) (by rw [hln];omega)
     rw [hg1] at p1 p2
     rw [hg2] at q1 q2
     clear HS1 hse hg1 hg2 hln htv HRt
     obtain ⟨⟨y1,y2⟩,hy⟩:∃y,gT V t=y:=⟨_,rfl⟩
     rw [hy] at q1 q2 HS2
     clear hy
     obtain ⟨x1,x2⟩:=u
     simp only at p1 p2 q1 q2 HS2
     have HS3:Hid (s+1=a+(t+1)):=by have:=HS.out;unfold Hid;omega
     have hno:(s:Int)<(x:Int)-1:=by omega
     have u2:IntKind.i64.wrap ((s:Int)+1)=((s+1:Nat):Int):=by rw [IntWalk.i64_in _ (by omega)];omega
     have u3:(s:Int)+1=((s+1:Nat):Int):=by omega
     have i1:(s:Int)<(n:Int):=by omega
     have i2:((s+1:Nat):Int)<(n:Int):=by omega
     have i3:(0:Int)≤(s:Int):=by omega
     have i4:(0:Int)≤((s+1:Nat):Int):=by omega
     have hne:s≠s+1:=by omega
     have hs2:s+2≤x:=by omega
     have HX2:Hid (s+1+1≤x):=by unfold Hid;omega
     have HMS:Hid (x-(s+1)<x-s):=by unfold Hid;omega
     have HU3:=Lib.hid u3
     clear u3
     generalize s+1=s' at *
     go_wp2_with fail
     go_region
     have HGN:Hid (Tur w ((((wr.setCell ⟨g,s*2,none⟩ (.int .i64 y1)).setCell ⟨g,s*2+1,none⟩ (.int .i64 y2)).setCell ⟨g,s'*2,none⟩ (.int .i64 x1)).setCell ⟨g,s'*2+1,none⟩ (.int .i64 x2)).drew g):=gb_drew (((((HGt.out.trans tur_set).trans tur_set).trans tur_set).trans tur_set))
     have HSN:Hid (RowT ((((wr.setCell ⟨g,s*2,none⟩ (.int .i64 y1)).setCell ⟨g,s*2+1,none⟩ (.int .i64 y2)).setCell ⟨g,s'*2,none⟩ (.int .i64 x1)).setCell ⟨g,s'*2+1,none⟩ (.int .i64 x2)).drew g (P++V.take (t+1)++[(x1,x2)]++V.drop (t+1)++S)):=HS2.out.keep rfl (Nat.le_refl _)
     clear p1 p2 p3 p4 q1 q2 q3 q4 HS2
     generalize ((((wr.setCell ⟨g,s*2,none⟩ (.int .i64 y1)).setCell ⟨g,s*2+1,none⟩ (.int .i64 y2)).setCell ⟨g,s'*2,none⟩ (.int .i64 x1)).setCell ⟨g,s'*2+1,none⟩ (.int .i64 x2)).drew=w9 at *
     go_wp2_with fail
     go_roundw
     case rel=>exact ⟨t+1,s',by first | rfl | rw [HU3.out],HS3.out,HX2.out,HSN.out,HGN.out⟩
     case measure =>
      have:=HMS.out
      have:=HU3.out
      simp [RowKit.intOf];omega
    ·have hte:x-(a+1)=t:=by have:=HS.out;omega
     have hno:¬((s:Int)<(x:Int)-1):=by omega
     rw [hte] at HM1
     clear hte
     go_wp2_with fail
     refine bodyPost_ret (results_none rfl _ _ _) rfl ?_
     refine ⟨rfl,_,HM1.out.2,HM1.out.1,?_,HGt.out⟩
     have:=HRt.out
     simpa only [List.append_assoc,List.singleton_append] using this
end
section
open Go.RowKit Go.Sort
attribute [local go_sem ↓] Go.wp_at_zero Go.wp_at_succ
theorem unshift_step {P U S:List T2} {v:T2} {t:Nat} (h:t<U.length) :
 gT (P++U.take (t+1)++[v]++U.drop (t+1)++S) (P.length+t)=gT U t∧gT (P++U.take (t+1)++[v]++U.drop (t+1)++S) (P.length+t+1)=v ∧
  ((P++U.take (t+1)++[v]++U.drop (t+1)++S).set (P.length+t+1) (gT U t)).set (P.length+t) v=P++U.take t++[v]++U.drop t++S:=by
 have hl:(P++U.take t).length=P.length+t:=by rw [List.length_append,List.length_take];omega
 have hd:U.drop t=gT U t :: U.drop (t+1):=by rw [gT_lt h];exact List.drop_eq_getElem_cons h
 have ht:U.take (t+1)=U.take t++[gT U t]:=by rw [gT_lt h,List.take_succ_eq_append_getElem h]
 have e:P++U.take (t+1)++[v]++U.drop (t+1)++S=(P++U.take t)++[gT U t]++[]++[v]++(U.drop (t+1)++S):=by rw [ht];simp
 have hg1:gT (P++U.take (t+1)++[v]++U.drop (t+1)++S) (P.length+t)=gT U t:=by
  rw [e,←hl]
  generalize P++U.take t=Q
  simp [gT]
 have hg2:gT (P++U.take (t+1)++[v]++U.drop (t+1)++S) (P.length+t+1)=v:=by
  rw [e,List.append_nil,gT_left (by simp only [List.length_append,List.length_singleton,List.length_take];omega),gT_right (k:=0) (by simp only [List.length_append,List.length_singleton,List.length_take];omega)];rfl
 refine ⟨hg1,hg2,?_⟩
 have hp:=swpL_parts (P:=P++U.take t) (U:=[gT U t]) (M:=[]) (V:=[v]) (S:=U.drop (t+1)++S) rfl
 rw [←e,hl] at hp
 have hp1:swpL (P++U.take (t+1)++[v]++U.drop (t+1)++S) (P.length+t) (P.length+t+1) 1=_:=hp
 unfold swpL swpL at hp1
 simp only [Nat.add_zero] at hp1
 rw [hg1,hg2] at hp1
 rw [List.set_comm _ _ (by omega),hp1,hd];simp
theorem symLast_any (g n c:Nat) (P U S:List T2) (v:T2) (w:World) (hn:n≤100000) (hl:(P++U++[v]++S).length=n) (hU:Srt U) (hr:RowT w g (P++U++[v]++S)) (a m b:Nat) (ha:a=P.length) (hm:m=P.length+U.length) (hb:b=m+1) (h1U:2≤U.length) :
 Calls Tryz.prog 173 #[.slice (some ⟨g,0,none⟩) n c,.int .i64 (a:Int),.int .i64 (m:Int),.int .i64 (b:Int),cmpFn] w fun e w' =>
  e=.returned (.tuple #[])∧∃Z,Z.Perm (U++[v])∧Srt Z∧RowT w' g (P++Z++S)∧Tur w w' g:=by
 have HR:=Lib.hid hr
 have HG:Hid (Tur w w g):=gb_refl w _
 have HA:=Lib.hid ha
 have HUU:=Lib.hid hU
 have HM:Hid (m=a+U.length):=by unfold Hid;omega
 have hmn:m<n:=by rw [←hl,hm];simp only [List.length_append,List.length_singleton];omega
 have ham:a+2≤m:=by omega
 have HL:=Lib.hid hl
 have e1:((m:Int)-(a:Int)==1)=false:=by simp;omega
 have e2:((b:Int)-(m:Int)==1)=true:=by simp;omega
 have hbm:b≤100000:=by omega
 clear hr ha hU hb hl hm h1U
 unfold cmpFn
 go_enter Tryz.func173,Tryz.ntmps173
 go_wp2_with fail
 go_loopw [14,15,16] (fun i j _ wr=>∃(x y:Nat),i=.int .i64 (x:Int)∧j=.int .i64 (y:Int)∧a≤x∧x≤y∧y≤m∧Hid (a<x→ahd v (gT U (x-1-a))=false)∧Hid (y<m→ahd v (gT U (y-a))=true)∧Hid (RowT wr g (P++U++[v]++S))∧Hid (Tur w wr g)) (fun i j _ _=>(RowKit.intOf j).toNat-(RowKit.intOf i).toNat)
 case atStart=>exact ⟨a,m,rfl,rfl,Nat.le_refl _,by omega,Nat.le_refl _,fun h=>absurd h (by omega),fun h=>absurd h (by omega),HR.out,HG.out⟩
 case round =>
  clear HR HG
  obtain ⟨x,y,rfl,rfl,hx1,hxy,hym,HXL,HYR,HRk,HGk⟩:=hrel
  by_cases hlt:x<y
  ·obtain ⟨h,hh⟩:∃h:Nat,(x+y) / 2=h:=⟨_,rfl⟩
   have hh1:x≤h∧h<y:=by omega
   have eh:((x:Int)+(y:Int)) / 2=(h:Int):=by omega
   clear hh
   obtain ⟨p1,p2,_,_⟩:=HRk.out.2 h (by rw [HL.out];omega)
   obtain ⟨q1,q2,_,_⟩:=HRk.out.2 m (by rw [HL.out];omega)
   have hgh:gT (P++U++[v]++S) h=gT U (h-a):=by
    have h1:=HA.out;have h2:=HM.out
    rw [List.append_assoc (P++U),gT_app,if_pos (by simp only [List.length_append];omega),gT_app,if_neg (by omega),h1]
   have hgm:gT (P++U++[v]++S) m=v:=by
    have h1:=HA.out;have h2:=HM.out
    rw [List.append_assoc (P++U),gT_right (k:=0) (by simp only [List.length_append];omega)];rfl
   rw [hgh] at p1 p2
   rw [hgm] at q1 q2
   have HN1:Hid (ahd v (gT U (h-a))=decide (cfT v (gT U (h-a))<0)):=(cfT_ahd _ _).symm
   have HCM:=Lib.hid (cmp_call v (gT U (h-a)))
   obtain ⟨⟨z1,z2⟩,hz⟩:∃z,gT U (h-a)=z:=⟨_,rfl⟩
   rw [hz] at p1 p2 HN1 HCM
   have HZ:=Lib.hid hz
   clear hz
   obtain ⟨v1,v2⟩:=v
   simp only at p1 p2 q1 q2 HCM
   have k1:=After.cell p1;have k2:=After.cell p2;have k3:=After.cell q1;have k4:=After.cell q2
   have i1:(h:Int)<(n:Int):=by omega
   have i2:(0:Int)≤(h:Int):=by omega
   have i3:(m:Int)<(n:Int):=by omega
   have i4:(0:Int)≤(m:Int):=by omega
   clear hgh hgm
   go_wp2_with fail
   refine wp_region_after (by kernel_rfl) (by kernel_rfl) ?_
   repeat (go_big_quiet_step ((go_at_call 42;exact after_call _ (HCM.out _))))
   refine wpQuiet_nil ?_
   intro w9 hw'
   obtain ⟨⟨w9',hb9⟩,hw''⟩:=hw'
   subst hw''
   have HR9:=Lib.hid (HRk.out.below hb9)
   have HG9:=Lib.hid (HGk.out.trans (tur_below hb9))
   clear hb9 k1 k2 k3 k4 p1 p2 q1 q2 HRk HGk HCM
   have u3:IntKind.i64.wrap ((h:Int)+1)=(h:Int)+1:=IntWalk.i64_in _ (by omega)
   have HN2:Hid (ahd (v1,v2) (gT U (h-a))=decide (cfT (v1,v2) (z1,z2)<0)):=by unfold Hid;rw [HZ.out,HN1.out]
   clear HN1
   generalize cfT (v1,v2) (z1,z2)=cc at *
   go_wp2_with fail
   ·rename_i hq
    have hc:¬cc<0:=by simpa using hq
    have HN3:Hid (ahd (v1,v2) (gT U (h+1-1-a))=false):=by unfold Hid;rw [show h+1-1-a=h-a by omega,HN2.out];exact decide_eq_false hc
    go_roundw
    case rel=>exact ⟨h+1,y,by go_num,rfl,by omega,by omega,hym,fun _=>HN3.out,HYR.out,HR9.out,HG9.out⟩
    case measure=>simp [RowKit.intOf];omega
   ·rename_i hq
    have hc:cc<0:=by simpa using hq
    have HN3:Hid (ahd (v1,v2) (gT U (h-a))=true):=by unfold Hid;rw [HN2.out];exact decide_eq_true hc
    go_roundw
    case rel=>exact ⟨x,h,rfl,rfl,by omega,by omega,by omega,HXL.out,fun _=>HN3.out,HR9.out,HG9.out⟩
    case measure=>simp [RowKit.intOf];omega
  ·obtain rfl:x=y:=by omega
   have HJ:Hid (x-a≤U.length):=by have:=HM.out;unfold Hid;omega
   have HR0:Hid (RowT wr g (P++U.take (m-a)++[v]++U.drop (m-a)++S)):=by
    unfold Hid
    have h2:=HM.out
    rw [List.take_of_length_le (by omega),List.drop_of_length_le (by omega),List.append_nil];exact HRk.out
   have HM1:=Lib.hid (mrg_last (v:=v) HUU.out HJ.out (fun h=>by have:=HXL.out (by omega);rwa [show x-a-1=x-1-a by omega]) (fun h=>HYR.out (by have:=HM.out;omega)))
   clear HRk
   go_wp2_with fail
   go_loopw [17] (fun k wx=>∃t s:Nat,k=.int .i64 (s:Int)∧Hid (s=a+t)∧x≤s∧s≤m∧Hid (RowT wx g (P++U.take t++[v]++U.drop t++S))∧Hid (Tur w wx g)) (fun k _=>(RowKit.intOf k).toNat)
   case atStart=>exact ⟨m-a,m,rfl,by unfold Hid;omega,hym,Nat.le_refl _,HR0.out,HGk.out⟩
   case round =>
    clear HR0 HGk
    obtain ⟨t,s,rfl,HS,hxs,hsm,HRt,HGt⟩:=hrel
    by_cases hlt:x<s
    ·obtain ⟨s',rfl⟩:∃s',s=s'+1:=⟨s-1,by omega⟩
     obtain ⟨t',rfl⟩:∃t',t=t'+1:=⟨t-1,by have:=HS.out;omega⟩
     have htv:t'<U.length:=by have:=HM.out;have:=HS.out;omega
     have hst:=unshift_step (P:=P) (U:=U) (S:=S) (v:=v) htv
     have hss:P.length+t'=s':=by have:=HS.out;have:=HA.out;omega
     rw [hss] at hst
     obtain ⟨hg2,hg1,hse⟩:=hst
     have hln:(P++U.take (t'+1)++[v]++U.drop (t'+1)++S).length=n:=by
      rw [←HL.out];simp only [List.length_append,List.length_take,List.length_drop,List.length_singleton];omega
     have HS1:=Lib.hid (HRt.out.set2 (i:=s'+1) (x:=gT U t') (by rw [hln];omega))
     have HS2:=Lib.hid (HS1.out.set2 (i:=s') (x:=v) (by rw [List.length_set,hln];omega))
     rw [hse] at HS2
     obtain ⟨p1,p2,p3,p4⟩:=HRt.out.2 (s'+1) (by rw [hln];omega)
     obtain ⟨q1,q2,q3,q4⟩:=HRt.out.2 s' (by rw [hln];omega)
     rw [hg1] at p1 p2
     rw [hg2] at q1 q2
     clear HS1 hse hg1 hg2 hln htv HRt hss
     obtain ⟨⟨y1,y2⟩,hy⟩:∃y,gT U t'=y:=⟨_,rfl⟩
     rw [hy] at q1 q2 HS2
     clear hy
     obtain ⟨x1,x2⟩:=v
     simp only at p1 p2 q1 q2 HS2
     have HS3:Hid (s'=a+t'):=by have:=HS.out;unfold Hid;omega
     have hno:(x:Int)<((s'+1:Nat):Int):=by omega
     have u2:IntKind.i64.wrap (((s'+1:Nat):Int)-1)=(s':Int):=by rw [IntWalk.i64_in _ (by omega)];omega
     have i1:(s':Int)<(n:Int):=by omega
     have i2:((s'+1:Nat):Int)<(n:Int):=by omega
     have i3:(0:Int)≤(s':Int):=by omega
     have i4:(0:Int)≤((s'+1:Nat):Int):=by omega
     have hne:s'+1≠s':=by omega
     have HX2:Hid (x≤s'):=by unfold Hid;omega
     have HX3:Hid (s'≤m):=by unfold Hid;omega
     have HMS:Hid (s'<s'+1):=by unfold Hid;omega
     have HU3:Hid (((s'+1:Nat):Int)-1=(s':Int)):=by unfold Hid;omega
     clear hlt hxs hsm
     generalize s'+1=s at *
     go_wp2_with fail
     go_region
     have HGN:Hid (Tur w ((((wr.setCell ⟨g,s*2,none⟩ (.int .i64 y1)).setCell ⟨g,s*2+1,none⟩ (.int .i64 y2)).setCell ⟨g,s'*2,none⟩ (.int .i64 x1)).setCell ⟨g,s'*2+1,none⟩ (.int .i64 x2)).drew g):=gb_drew (((((HGt.out.trans tur_set).trans tur_set).trans tur_set).trans tur_set))
     have HSN:Hid (RowT ((((wr.setCell ⟨g,s*2,none⟩ (.int .i64 y1)).setCell ⟨g,s*2+1,none⟩ (.int .i64 y2)).setCell ⟨g,s'*2,none⟩ (.int .i64 x1)).setCell ⟨g,s'*2+1,none⟩ (.int .i64 x2)).drew g (P++U.take t'++[(x1,x2)]++U.drop t'++S)):=HS2.out.keep rfl (Nat.le_refl _)
     clear p1 p2 p3 p4 q1 q2 q3 q4 HS2
     generalize ((((wr.setCell ⟨g,s*2,none⟩ (.int .i64 y1)).setCell ⟨g,s*2+1,none⟩ (.int .i64 y2)).setCell ⟨g,s'*2,none⟩ (.int .i64 x1)).setCell ⟨g,s'*2+1,none⟩ (.int .i64 x2)).drew=w9 at *
     go_wp2_with fail
     go_roundw
     case rel=>exact ⟨t',s',by first | rfl | rw [HU3.out],HS3.out,HX2.out,HX3.out,HSN.out,HGN.out⟩
     case measure =>
      have:=HMS.out
      have:=HU3.out
      simp [RowKit.intOf];omega
    ·obtain rfl:x=s:=by omega
     have hte:x-a=t:=by have:=HS.out;omega
     rw [hte] at HM1
     clear hte
     go_wp2_with fail
     refine bodyPost_ret (results_none rfl _ _ _) rfl ?_
     refine ⟨rfl,_,HM1.out.2,HM1.out.1,?_,HGt.out⟩
     have:=HRt.out
     simpa only [List.append_assoc,List.singleton_append] using this
end
section
open Go.RowKit Go.Sort
attribute [local go_sem ↓] Go.wp_at_zero Go.wp_at_succ
def rotL (P U V S:List T2) (i j:Nat):List T2:=P++U.take i++V.take j++U.drop i++V.drop j++S
theorem rotL_same {P U V S:List T2} {i j:Nat} (h:U.length≤i∨j=0):rotL P U V S i j=P++U++V++S:=by
 unfold rotL
 rcases h with h | h
 ·rw [List.take_of_length_le h,List.drop_of_length_le h];simp
 ·subst h;simp
theorem rotL_from (P U V S:List T2) (i j:Nat):(P++U.take i)++U.drop i++V.take j++(V.drop j++S)=P++U++V++S:=by
 rw [List.append_assoc P,List.take_append_drop,List.append_assoc (P++U),←List.append_assoc (V.take j),List.take_append_drop]
 simp only [List.append_assoc]
theorem rotL_to (P U V S:List T2) (i j:Nat):(P++U.take i)++V.take j++U.drop i++(V.drop j++S)=rotL P U V S i j:=by
 unfold rotL;simp only [List.append_assoc]
theorem rotL_len (P U V S:List T2) (i j:Nat):(rotL P U V S i j).length=(P++U++V++S).length:=by
 unfold rotL;simp only [List.length_append,List.length_take,List.length_drop];omega
def SymPost (g:Nat) (P U V S:List T2) (w:World) (e:Ending) (w':World):Prop:=e=.returned (.tuple #[])∧∃Z,Z.Perm (U++V)∧Srt Z∧RowT w' g (P++Z++S)∧Tur w w' g
def SymAt (N:Nat):Prop:=∀(g n c:Nat) (P U V S:List T2) (w:World),n≤100000→(P++U++V++S).length=n→Srt U→Srt V→1≤U.length→1≤V.length→U.length+V.length≤N→RowT w g (P++U++V++S)→∀a m b:Nat,a=P.length→m=P.length+U.length→b=P.length+U.length+V.length →
 Calls Tryz.prog 173 #[.slice (some ⟨g,0,none⟩) n c,.int .i64 (a:Int),.int .i64 (m:Int),.int .i64 (b:Int),cmpFn] w (SymPost g P U V S w)
theorem sym_none {U V:List T2} (hU:Srt U) (hV:Srt V) (h:U=[]∨V=[]):Srt (U++V):=by
 rcases h with rfl | rfl
 ·simpa using hV
 ·simpa using hU
theorem symGen_any (N:Nat) (IH:SymAt N) (g n c:Nat) (P U V S:List T2) (w:World) (hn:n≤100000) (hl:(P++U++V++S).length=n) (hU:Srt U) (hV:Srt V) (h1:2≤U.length) (h2:2≤V.length) (hN:U.length+V.length≤N+1) (hr:RowT w g (P++U++V++S)) (a m b:Nat) (ha:a=P.length) (hm:m=P.length+U.length) (hb:b=P.length+U.length+V.length) :
 Calls Tryz.prog 173 #[.slice (some ⟨g,0,none⟩) n c,.int .i64 (a:Int),.int .i64 (m:Int),.int .i64 (b:Int),cmpFn] w (SymPost g P U V S w):=by
 have HR:=Lib.hid hr
 have HG:Hid (Tur w w g):=gb_refl w _
 have HA:=Lib.hid ha
 have HUU:=Lib.hid hU;have HVV:=Lib.hid hV
 have HUL:Hid (m=a+U.length):=by unfold Hid;omega
 have HVL:Hid (b=m+V.length):=by unfold Hid;omega
 have hbn:b≤n:=by rw [←hl,hb];simp only [List.length_append];omega
 have ham:a+2≤m:=by omega
 have hmb:m+2≤b:=by omega
 have HL:=Lib.hid hl
 have HNN:Hid (b≤a+N+1):=by unfold Hid;omega
 have e1:((m:Int)-(a:Int)==1)=false:=by simp;omega
 have e2:((b:Int)-(m:Int)==1)=false:=by simp;omega
 clear hr ha hU hV hb hl hm h1 h2 hN
 obtain ⟨mid,hmid⟩:∃mid:Nat,(a+b) / 2=mid:=⟨_,rfl⟩
 have emid:((a:Int)+(b:Int)) / 2=(mid:Int):=by omega
 have hd1:a<mid:=by omega
 have hd2:mid<b:=by omega
 have HD:Hid (a+b≤2*mid+1∧2*mid≤a+b):=by unfold Hid;omega
 clear hmid
 unfold SymPost cmpFn
 go_enter Tryz.func173,Tryz.ntmps173
 obtain ⟨st0,r0,HC,H0⟩:∃st0 r0:Nat,Hid ((mid<m∧st0+b=mid+m∧r0=mid)∨(m≤mid∧st0=a∧r0=m))∧Hid (a≤st0∧st0≤r0∧r0≤m∧r0≤mid):=by
  rcases Nat.lt_or_ge mid m with h | h
  ·exact ⟨mid+m-b,mid,.inl ⟨h,by omega,rfl⟩,by have:=HD.out;unfold Hid;omega⟩
  ·exact ⟨a,m,.inr ⟨h,rfl,rfl⟩,by unfold Hid;omega⟩
 have q1:=H0.out.1
 have q2:=H0.out.2.1
 have q3:=H0.out.2.2.1
 have q4:=H0.out.2.2.2
 have hsb:mid+m≤st0+b:=by have:=HC.out;omega
 go_upto_if 140 with (fail)
 go_cut [20,21] from 141 to 146 (fun s r wx=>s=.int .i64 (st0:Int)∧r=.int .i64 (r0:Int)∧wx=w)
 case first =>
  have h0:=HC.out
  by_cases hmm:mid<m
  ·have hs1:(mid:Int)+(m:Int)-(b:Int)=(st0:Int):=by omega
   have HE:Hid ((mid:Int)=(r0:Int)):=by unfold Hid;omega
   clear h0
   go_wp2_with fail
   go_meet
   exact ⟨rfl,by rw [HE.out],rfl⟩
  ·have HE:Hid ((a:Int)=(st0:Int)∧(m:Int)=(r0:Int)):=by unfold Hid;omega
   clear h0
   go_wp2_with fail
   go_meet
   exact ⟨by rw [HE.out.1],by rw [HE.out.2],rfl⟩
 case rest =>
  obtain ⟨rfl,rfl,hw⟩:=hcut
  have hw2:=hw.symm
  clear hw
  subst hw2
  go_wp2_with fail
  go_loopw [20,21,23] (fun i j _ wr=>∃(x y:Nat),i=.int .i64 (x:Int)∧j=.int .i64 (y:Int)∧st0≤x∧x≤y∧y≤r0∧Hid (st0<x→ahd (gT V (mid-x)) (gT U (x-1-a))=false)∧Hid (y<r0→ahd (gT V (mid-1-y)) (gT U (y-a))=true)∧Hid (RowT wr g (P++U++V++S))∧Hid (Tur w wr g)) (fun i j _ _=>(RowKit.intOf j).toNat-(RowKit.intOf i).toNat)
  case atStart =>
   exact ⟨st0,r0,rfl,rfl,Nat.le_refl _,q2,Nat.le_refl _,fun h=>absurd h (by omega),fun h=>absurd h (by omega),HR.out,HG.out⟩
  case round =>
   clear HR HG
   obtain ⟨x,y,rfl,rfl,hx1,hxy,hyr,HXL,HYR,HRk,HGk⟩:=hrel
   by_cases hlt:x<y
   ·obtain ⟨h,hh⟩:∃h:Nat,(x+y) / 2=h:=⟨_,rfl⟩
    have hh1:x≤h∧h<y:=by omega
    have eh:((x:Int)+(y:Int)) / 2=(h:Int):=by omega
    clear hh
    obtain ⟨e,he⟩:∃e:Nat,mid+m-1-h=e:=⟨_,rfl⟩
    have he1:m≤e∧e<b:=by omega
    have eu:IntKind.i64.wrap ((mid:Int)+(m:Int)-1-(h:Int))=(e:Int):=by rw [IntWalk.i64_in _ (by omega)];omega
    have HEI:Hid (e-m=mid-1-h):=by unfold Hid;omega
    clear he
    obtain ⟨p1,p2,_,_⟩:=HRk.out.2 e (by rw [HL.out];omega)
    obtain ⟨v1,v2,_,_⟩:=HRk.out.2 h (by rw [HL.out];omega)
    have hge:gT (P++U++V++S) e=gT V (mid-1-h):=by
     have h1:=HA.out;have h2:=HUL.out;have h3:=HVL.out
     rw [gT_app,if_pos (by simp only [List.length_append];omega),gT_app,if_neg (by simp only [List.length_append];omega),←HEI.out]
     simp only [List.length_append]
     rw [h2,h1]
    have hgh:gT (P++U++V++S) h=gT U (h-a):=by
     have h1:=HA.out;have h2:=HUL.out;have h3:=HVL.out
     rw [gT_app,if_pos (by simp only [List.length_append];omega),gT_app,if_pos (by simp only [List.length_append];omega),gT_app,if_neg (by omega),h1]
    rw [hge] at p1 p2
    rw [hgh] at v1 v2
    clear hge hgh
    have HN1:Hid (ahd (gT V (mid-1-h)) (gT U (h-a))=decide (cfT (gT V (mid-1-h)) (gT U (h-a))<0)):=(cfT_ahd _ _).symm
    have HCM:=Lib.hid (cmp_call (gT V (mid-1-h)) (gT U (h-a)))
    obtain ⟨⟨z1,z2⟩,hz⟩:∃z,gT V (mid-1-h)=z:=⟨_,rfl⟩
    obtain ⟨⟨y1,y2⟩,hy⟩:∃z,gT U (h-a)=z:=⟨_,rfl⟩
    have HZY:=Lib.hid (And.intro hz hy)
    rw [hz] at p1 p2 HCM HN1
    rw [hy] at v1 v2 HCM HN1
    simp only at p1 p2 v1 v2 HCM
    clear hz hy
    have HN2:Hid (ahd (gT V (mid-1-h)) (gT U (h-a))=decide (cfT (z1,z2) (y1,y2)<0)):=by unfold Hid;rw [HZY.out.1,HZY.out.2];exact HN1.out
    clear HN1 HZY
    have k1:=After.cell p1;have k2:=After.cell p2;have k3:=After.cell v1;have k4:=After.cell v2
    have i1:(h:Int)<(n:Int):=by omega
    have i2:(0:Int)≤(h:Int):=by omega
    have i3:(e:Int)<(n:Int):=by omega
    have i4:(0:Int)≤(e:Int):=by omega
    go_wp2_with fail
    refine wp_region_after (by kernel_rfl) (by kernel_rfl) ?_
    repeat (go_big_quiet_step ((go_at_call 42;exact after_call _ (HCM.out _))))
    refine wpQuiet_nil ?_
    intro w9 hw'
    obtain ⟨⟨w9',hb9⟩,hw''⟩:=hw'
    subst hw''
    have HR9:=Lib.hid (HRk.out.below hb9)
    have HG9:=Lib.hid (HGk.out.trans (tur_below hb9))
    clear hb9 k1 k2 k3 k4 p1 p2 v1 v2 HRk HGk HCM
    have u3:IntKind.i64.wrap ((h:Int)+1)=(h:Int)+1:=IntWalk.i64_in _ (by omega)
    generalize cfT (z1,z2) (y1,y2)=cc at *
    go_wp2_with fail
    ·rename_i hq
     have hc:¬cc<0:=by simpa using hq
     have HN3:Hid (ahd (gT V (mid-(h+1))) (gT U (h+1-1-a))=false):=by unfold Hid;rw [show mid-(h+1)=mid-1-h by omega,show h+1-1-a=h-a by omega,HN2.out];exact decide_eq_false hc
     go_roundw
     case rel=>exact ⟨h+1,y,by go_num,rfl,by omega,by omega,hyr,fun _=>HN3.out,HYR.out,HR9.out,HG9.out⟩
     case measure=>simp [RowKit.intOf];omega
    ·rename_i hq
     have hc:cc<0:=by simpa using hq
     have HN3:Hid (ahd (gT V (mid-1-h)) (gT U (h-a))=true):=by unfold Hid;rw [HN2.out];exact decide_eq_true hc
     go_roundw
     case rel=>exact ⟨x,h,rfl,rfl,by omega,by omega,by omega,HXL.out,fun _=>HN3.out,HR9.out,HG9.out⟩
     case measure=>simp [RowKit.intOf];omega
   ·obtain rfl:x=y:=by omega
    have li:x-a≤U.length:=by have:=HUL.out;omega
    have lj:mid-x≤V.length:=by have:=HVL.out;have:=HC.out;omega
    have HMC:=Lib.hid (fun (Z1 Z2:List T2) (p1:Z1.Perm (U.take (x-a)++V.take (mid-x))) (p2:Z2.Perm (U.drop (x-a)++V.drop (mid-x))) (s1:Srt Z1) (s2:Srt Z2) =>
     mrg_cut (i:=x-a) (j:=mid-x) HUU.out HVV.out li lj
      (fun h1 h2=>by
       have:=HXL.out (by have:=HC.out;have:=HVL.out;omega)
       rwa [show x-a-1=x-1-a by omega])
      (fun h1 h2=>by
       have:=HYR.out (by have:=HC.out;have:=HUL.out;omega)
       rwa [show mid-x-1=mid-1-x by omega]) p1 p2 s1 s2)
    have HLI:Hid (x-a≤U.length∧mid-x≤V.length):=⟨li,lj⟩
    clear li lj HXL HYR
    obtain ⟨en,hen⟩:∃en:Nat,mid+m-x=en:=⟨_,rfl⟩
    have en1:(mid:Int)+(m:Int)-(x:Int)=(en:Int):=by omega
    have en2:m≤en:=by omega
    have en3:mid≤en:=by omega
    have en4:en≤b:=by omega
    have HEN:Hid (en+x=mid+m):=by unfold Hid;omega
    clear hen
    have HRO:=Lib.hid (fun (h1:x<m) (h2:x<mid)=>rotate_any g n c (.func (.func 42) #[] #[]) (P++U.take (x-a)) (U.drop (x-a)) (V.take (mid-x)) (V.drop (mid-x)++S) wr hn
     (by rw [rotL_from];exact HL.out) (by rw [List.length_drop];have:=HUL.out;omega) (by rw [List.length_take];have:=HLI.out;omega) (by rw [rotL_from];exact HRk.out) x m en
     (by rw [List.length_append,List.length_take];have:=HLI.out;have:=HA.out;omega)
     (by rw [List.length_append,List.length_take,List.length_drop];have:=HLI.out;have:=HA.out;have:=HUL.out;omega)
     (by rw [List.length_append,List.length_take,List.length_drop,List.length_take];have:=HLI.out;have:=HA.out;have:=HUL.out;have:=HEN.out;omega))
    have HNR:Hid (m≤x∨mid≤x→RowT wr g (rotL P U V S (x-a) (mid-x))):=fun h=>by
     rw [rotL_same (by have:=HUL.out;omega)];exact HRk.out
    have HLR:Hid ((rotL P U V S (x-a) (mid-x)).length=n):=by unfold Hid;rw [rotL_len];exact HL.out
    clear HRk HL
    go_upto_region 39 with (fail)
    go_cut [185] (fun s wx=>∃rb:Bool,s=.bool rb∧Hid (rb=decide (x<m∧m<en))∧wx=wr)
    case first =>
     by_cases hA:x<m
     ·by_cases hB:m<en
      ·go_wp2_with fail
       go_meet
       exact ⟨true,rfl,by unfold Hid;rw [decide_eq_true (And.intro hA hB)],rfl⟩
      ·go_wp2_with fail
       go_meet
       exact ⟨false,rfl,by unfold Hid;rw [decide_eq_false (fun h=>hB h.2)],rfl⟩
     ·go_wp2_with fail
      go_meet
      exact ⟨false,rfl,by unfold Hid;rw [decide_eq_false (fun h=>hA h.1)],rfl⟩
    case rest =>
     obtain ⟨rb,rfl,HRB,rfl⟩:=hcut
     go_upto_if 185 with (fail)
     go_cut [] from 186 to 191 (fun wx=>Hid (RowT wx g (rotL P U V S (x-a) (mid-x)))∧Hid (Tur w wx g))
     case first =>
      cases rb
      ·have hno:m≤x∨mid≤x:=by
        have h1:=HRB.out
        have h2:=HEN.out
        rcases Nat.lt_or_ge x m with h3 | h3
        ·rcases Nat.lt_or_ge m en with h4 | h4
         ·rw [decide_eq_true (And.intro h3 h4)] at h1;cases h1
         ·exact .inr (by omega)
        ·exact .inl h3
       have HN:=Lib.hid (HNR.out hno)
       clear hno
       go_wp2_with fail
       go_meet
       exact ⟨HN.out,HGk.out⟩
      ·have hyes:x<m∧m<en:=of_decide_eq_true HRB.out.symm
       have HY:=Lib.hid (HRO.out hyes.1 (by have:=HEN.out;omega))
       clear hyes
       go_wp2_with fail
       refine HY.out.mono ?_
       rintro e w2 ⟨rfl,hr2,hg2⟩
       rw [rotL_to] at hr2
       have HR2:=Lib.hid hr2
       have HG2:=Lib.hid (HGk.out.trans hg2)
       clear hr2 hg2
       go_wp2_with fail
       go_meet
       exact ⟨HR2.out,HG2.out⟩
     case rest =>
      obtain ⟨HRr,HGr⟩:=hcut
      clear HRO HNR HRB HGk
      have HI1:=Lib.hid (fun (h1:a<x) (h2:x<mid)=>IH g n c P (U.take (x-a)) (V.take (mid-x)) (U.drop (x-a)++V.drop (mid-x)++S) wc hn
       (by have:=HLR.out;unfold rotL at this;simp only [List.length_append] at this ⊢;omega) (HUU.out.take _) (HVV.out.take _)
       (by rw [List.length_take];have:=HLI.out;omega) (by rw [List.length_take];have:=HLI.out;omega)
       (by rw [List.length_take,List.length_take];have:=HLI.out;have:=HNN.out;omega)
       (by have:=HRr.out;unfold rotL at this;simpa only [List.append_assoc] using this) a x mid HA.out
       (by rw [List.length_take];have:=HLI.out;have:=HA.out;omega)
       (by rw [List.length_take,List.length_take];have:=HLI.out;have:=HA.out;omega))
      unfold SymPost cmpFn at HI1
      have HN1:Hid (x≤a∨mid≤x→Srt (U.take (x-a)++V.take (mid-x))∧RowT wc g (P++(U.take (x-a)++V.take (mid-x))++(U.drop (x-a)++V.drop (mid-x)++S))):=fun h=>by
       refine ⟨sym_none (HUU.out.take _) (HVV.out.take _) ?_,by have:=HRr.out;unfold rotL at this;simpa only [List.append_assoc] using this⟩
       rcases h with h | h
       ·exact .inl (by rw [show x-a=0 by omega];rfl)
       ·exact .inr (by rw [show mid-x=0 by omega];rfl)
      clear HRr
      go_upto_region 41 with (fail)
      go_cut [199] (fun s wx=>∃rb:Bool,s=.bool rb∧Hid (rb=decide (a<x∧x<mid))∧wx=wc)
      case first =>
       by_cases hA:a<x
       ·by_cases hB:x<mid
        ·go_wp2_with fail
         go_meet
         exact ⟨true,rfl,by unfold Hid;rw [decide_eq_true (And.intro hA hB)],rfl⟩
        ·go_wp2_with fail
         go_meet
         exact ⟨false,rfl,by unfold Hid;rw [decide_eq_false (fun h=>hB h.2)],rfl⟩
       ·go_wp2_with fail
        go_meet
        exact ⟨false,rfl,by unfold Hid;rw [decide_eq_false (fun h=>hA h.1)],rfl⟩
      case rest =>
       obtain ⟨rb,rfl,HRB,hw⟩:=hcut
       subst hw
       go_upto_if 199 with (fail)
       go_cut [] from 200 to 205 (fun wx=>∃Z1:List T2,Hid (Z1.Perm (U.take (x-a)++V.take (mid-x)))∧Hid (Srt Z1)∧Hid (RowT wx g (P++Z1++(U.drop (x-a)++V.drop (mid-x)++S)))∧Hid (Tur w wx g))
       case first =>
        cases rb
        ·have hno:x≤a∨mid≤x:=by
          have h1:=HRB.out
          rcases Nat.lt_or_ge a x with h3 | h3
          ·rcases Nat.lt_or_ge x mid with h4 | h4
           ·rw [decide_eq_true (And.intro h3 h4)] at h1;cases h1
           ·exact .inr h4
          ·exact .inl h3
         have HN:=Lib.hid (HN1.out hno)
         clear hno
         go_wp2_with fail
         go_meet
         exact ⟨_,List.Perm.refl _,HN.out.1,HN.out.2,HGr.out⟩
        ·have hyes:a<x∧x<mid:=of_decide_eq_true HRB.out.symm
         have HY:=Lib.hid (HI1.out hyes.1 hyes.2)
         clear hyes
         go_wp2_with fail
         refine HY.out.mono ?_
         rintro e w2 ⟨rfl,Z1,hp1,hs1,hr2,hg2⟩
         have HP1:=Lib.hid hp1
         have HSS:=Lib.hid hs1
         have HR2:=Lib.hid hr2
         have HG2:=Lib.hid (HGr.out.trans hg2)
         clear hp1 hs1 hr2 hg2
         go_wp2_with fail
         go_meet
         exact ⟨Z1,HP1.out,HSS.out,HR2.out,HG2.out⟩
       case rest =>
        obtain ⟨Z1,HP1,HSS,HRz,HGz⟩:=hcut
        clear HI1 HN1 HRB HGr
        have hz1:Z1.length=mid-a:=by
         rw [HP1.out.length_eq,List.length_append,List.length_take,List.length_take];have:=HLI.out;omega
        have HZ1:=Lib.hid hz1
        clear hz1
        have HI2:=Lib.hid (fun (h1:x<m) (h2:en<b)=>IH g n c (P++Z1) (U.drop (x-a)) (V.drop (mid-x)) S wc hn
         (by have:=HLR.out;unfold rotL at this;simp only [List.length_append,List.length_take,List.length_drop] at this ⊢;have:=HZ1.out;have:=HLI.out;omega) (HUU.out.drop _) (HVV.out.drop _)
         (by rw [List.length_drop];have:=HUL.out;omega) (by rw [List.length_drop];have:=HVL.out;have:=HEN.out;omega)
         (by rw [List.length_drop,List.length_drop];have:=HUL.out;have:=HVL.out;have:=HNN.out;have:=HLI.out;omega)
         (by have:=HRz.out;simpa only [List.append_assoc] using this) mid en b
         (by rw [List.length_append];have:=HZ1.out;have:=HA.out;omega)
         (by rw [List.length_append,List.length_drop];have:=HZ1.out;have:=HA.out;have:=HUL.out;have:=HEN.out;omega)
         (by rw [List.length_append,List.length_drop,List.length_drop];have:=HZ1.out;have:=HA.out;have:=HUL.out;have:=HVL.out;have:=HEN.out;have:=HLI.out;omega))
        unfold SymPost cmpFn at HI2
        have HN2:Hid (m≤x∨b≤en→Srt (U.drop (x-a)++V.drop (mid-x))):=fun h=>by
         refine sym_none (HUU.out.drop _) (HVV.out.drop _) ?_
         rcases h with h | h
         ·exact .inl (List.drop_of_length_le (by have:=HUL.out;omega))
         ·exact .inr (List.drop_of_length_le (by have:=HVL.out;have:=HEN.out;omega))
        go_upto_region 43 with (fail)
        go_cut [213] (fun s wx=>∃rb:Bool,s=.bool rb∧Hid (rb=decide (mid<en∧en<b))∧wx=wc)
        case first =>
         by_cases hA:mid<en
         ·by_cases hB:en<b
          ·go_wp2_with fail
           go_meet
           exact ⟨true,rfl,by unfold Hid;rw [decide_eq_true (And.intro hA hB)],rfl⟩
          ·go_wp2_with fail
           go_meet
           exact ⟨false,rfl,by unfold Hid;rw [decide_eq_false (fun h=>hB h.2)],rfl⟩
         ·go_wp2_with fail
          go_meet
          exact ⟨false,rfl,by unfold Hid;rw [decide_eq_false (fun h=>hA h.1)],rfl⟩
        case rest =>
         obtain ⟨rb,rfl,HRB,hw⟩:=hcut
         subst hw
         cases rb
         ·have hno:m≤x∨b≤en:=by
           have h1:=HRB.out
           have h2:=HEN.out
           rcases Nat.lt_or_ge mid en with h3 | h3
           ·rcases Nat.lt_or_ge en b with h4 | h4
            ·rw [decide_eq_true (And.intro h3 h4)] at h1;cases h1
            ·exact .inr h4
           ·exact .inl (by omega)
          have HS2:=Lib.hid (HN2.out hno)
          have HF:=Lib.hid (HMC.out Z1 _ HP1.out (List.Perm.refl _) HSS.out HS2.out)
          clear hno
          go_wp2_with fail
          first | go_end0 | refine bodyPost_ret (results_none rfl _ _ _) rfl ?_
          exact ⟨rfl,_,HF.out.2,HF.out.1,by have:=HRz.out;simpa only [List.append_assoc] using this,HGz.out⟩
         ·have hyes:mid<en∧en<b:=of_decide_eq_true HRB.out.symm
          have HY:=Lib.hid (HI2.out (by have:=HEN.out;omega) hyes.2)
          clear hyes
          go_wp2_with fail
          refine HY.out.mono ?_
          rintro e w2 ⟨rfl,Z2,hp2,hs2,hr2,hg2⟩
          have HF:=Lib.hid (HMC.out Z1 Z2 HP1.out hp2 HSS.out hs2)
          have HR2:=Lib.hid hr2
          have HG2:=Lib.hid (HGz.out.trans hg2)
          clear hp2 hs2 hr2 hg2
          go_wp2_with fail
          first | go_end0 | refine bodyPost_ret (results_none rfl _ _ _) rfl ?_
          exact ⟨rfl,_,HF.out.2,HF.out.1,by have:=HR2.out;simpa only [List.append_assoc] using this,HG2.out⟩
end
section
open Go.RowKit Go.Sort
attribute [local go_sem ↓] Go.wp_at_zero Go.wp_at_succ
theorem cut3 {ts:List T2} {q r:Nat} (h:q≤r):ts.take q++(ts.drop q).take (r-q)++ts.drop r=ts:=by
 rw [List.append_assoc]
 have e:(ts.drop q).take (r-q)++ts.drop r=ts.drop q:=by
  have:ts.drop r=(ts.drop q).drop (r-q):=by rw [List.drop_drop,show q+(r-q)=r by omega]
  rw [this,List.take_append_drop]
 rw [e,List.take_append_drop]
theorem cut4 {ts:List T2} {q s r:Nat} (h:q≤s) (h':s≤r):ts.take q++(ts.drop q).take (s-q)++(ts.drop s).take (r-s)++ts.drop r=ts:=by
 have h1:=cut3 (ts:=ts) (q:=s) (r:=r) h'
 have h2:=cut3 (ts:=ts) (q:=q) (r:=s) h
 have e:ts.take q++(ts.drop q).take (s-q)=ts.take s:=by
  have:(ts.take q++(ts.drop q).take (s-q))++ts.drop s=ts.take s++ts.drop s:=by rw [h2,List.take_append_drop]
  exact List.append_cancel_right this
 rw [e];exact h1
theorem ins_step {ts U':List T2} {q r:Nat} (hqr:r=q+20) (hr:r≤ts.length) (hd:20 ∣ q) (hp:U'.Perm ((ts.drop q).take (r-q))) (hs:Srt U') (h:∀x,20 ∣ x→x+20≤q→Sg ts x 20) :
 (ts.take q++U'++ts.drop r).Perm ts∧(∀x,20 ∣ x→x+20≤r→Sg (ts.take q++U'++ts.drop r) x 20):=by
 have hc:=cut3 (ts:=ts) (q:=q) (r:=r) (by omega)
 have hlq:(ts.take q).length=q:=by rw [List.length_take];omega
 have hlu:U'.length=20:=by rw [hp.length_eq,List.length_take,List.length_drop];omega
 refine ⟨?_,fun x hx hxr=>?_⟩
 ·have:=((hp.append_left (ts.take q)).append_right (ts.drop r))
  rwa [hc] at this
 ·by_cases h1:x+20≤q
  ·have h0:=h x hx h1
   rw [←hc,List.append_assoc] at h0
   rw [List.append_assoc]
   exact sg_left h0 (by omega)
  ·obtain ⟨a,rfl⟩:=hd
   obtain ⟨b,rfl⟩:=hx
   have hab:20*b=20*a:=by omega
   rw [hab]
   have:=sg_mid (P:=ts.take (20*a)) (S:=ts.drop r) (k:=20) hs (.inl hlu)
   rwa [hlq] at this
theorem ins_last {ts U':List T2} {q n:Nat} (hn:ts.length=n) (hq:q≤n) (hqn:n<q+20) (hd:20 ∣ q) (hp:U'.Perm ((ts.drop q).take (n-q))) (hs:Srt U') (h:∀x,20 ∣ x→x+20≤q→Sg ts x 20) :
 (ts.take q++U'++ts.drop n).Perm ts∧(∀x,20 ∣ x→Sg (ts.take q++U'++ts.drop n) x 20):=by
 have hc:=cut3 (ts:=ts) (q:=q) (r:=n) hq
 have hlq:(ts.take q).length=q:=by rw [List.length_take];omega
 have hlu:U'.length=n-q:=by rw [hp.length_eq,List.length_take,List.length_drop];omega
 have hdn:ts.drop n=[]:=List.drop_of_length_le (by omega)
 refine ⟨?_,fun x hx=>?_⟩
 ·have:=((hp.append_left (ts.take q)).append_right (ts.drop n))
  rwa [hc] at this
 ·by_cases h1:x+20≤q
  ·have h0:=h x hx h1
   rw [←hc,List.append_assoc] at h0
   rw [List.append_assoc]
   exact sg_left h0 (by omega)
  ·by_cases h2:x≤q
   ·obtain ⟨a,rfl⟩:=hd
    obtain ⟨b,rfl⟩:=hx
    have hab:20*b=20*a:=by omega
    rw [hab]
    have:=sg_mid (P:=ts.take (20*a)) (S:=ts.drop n) (k:=20) hs (.inr ⟨by omega,hdn⟩)
    rwa [hlq] at this
   ·refine sg_nil ?_
    obtain ⟨a,rfl⟩:=hd
    obtain ⟨b,rfl⟩:=hx
    rw [List.length_append,List.length_append,hlq,hlu,hdn,List.length_nil]
    omega
theorem dvd_gap {k x q:Nat} (hx:k ∣ x) (hq:k ∣ q) (h:q<x):q+k≤x:=by
 obtain ⟨a,rfl⟩:=hx
 obtain ⟨b,rfl⟩:=hq
 have:b<a:=Nat.lt_of_mul_lt_mul_left h
 have:=Nat.mul_le_mul_left k (show b+1≤a by omega)
 rw [Nat.mul_add,Nat.mul_one] at this
 exact this
theorem sym_step {ts Z:List T2} {k q s r:Nat} (hk:1≤k) (hs:s=q+k) (hrr:r=s+k) (hr:r≤ts.length) (hd:2*k ∣ q) (hz:Z.Perm ((ts.drop q).take (s-q)++(ts.drop s).take (r-s))) (hS:Srt Z)
 (h1:∀x,2*k ∣ x→x<q→Sg ts x (2*k)) (h2:∀x,k ∣ x→q≤x→Sg ts x k) :
 (ts.take q++Z++ts.drop r).Perm ts∧(∀x,2*k ∣ x→x<r→Sg (ts.take q++Z++ts.drop r) x (2*k))∧(∀x,k ∣ x→r≤x→Sg (ts.take q++Z++ts.drop r) x k):=by
 have hc:=cut4 (ts:=ts) (q:=q) (s:=s) (r:=r) (by omega) (by omega)
 have hlq:(ts.take q).length=q:=by rw [List.length_take];omega
 have hlz:Z.length=2*k:=by rw [hz.length_eq,List.length_append,List.length_take,List.length_drop,List.length_take,List.length_drop];omega
 refine ⟨?_,fun x hx hxr=>?_,fun x hx hxr=>?_⟩
 ·have:=((hz.append_left (ts.take q)).append_right (ts.drop r))
  rwa [←List.append_assoc (ts.take q),hc] at this
 ·by_cases hxq:x<q
  ·have h0:=h1 x hx hxq
   have hg:=dvd_gap hd hx hxq
   rw [←hc,List.append_assoc,List.append_assoc] at h0
   rw [List.append_assoc]
   exact sg_left h0 (by omega)
  ·have:x=q:=by
    rcases Nat.lt_or_ge q x with h | h
    ·have:=dvd_gap hx hd h;omega
    ·omega
   subst this
   have:=sg_mid (P:=ts.take x) (S:=ts.drop r) (k:=2*k) hS (.inl hlz)
   rwa [hlq] at this
 ·have h0:=h2 x hx (by omega)
  rw [←hc] at h0
  refine sg_right (P:=ts.take q++(ts.drop q).take (s-q)++(ts.drop s).take (r-s)) ?_ h0 ?_
  ·rw [List.length_append,hlz,List.append_assoc,List.length_append,←hz.length_eq,hlz]
  ·rw [List.append_assoc,List.length_append,←hz.length_eq,hlz,hlq];omega
theorem sym_end {ts Z:List T2} {k q s n:Nat} (hk:1≤k) (hn:ts.length=n) (hs:s=q+k) (hsn:s<n) (hqn:n<s+k) (hd:2*k ∣ q) (hz:Z.Perm ((ts.drop q).take (s-q)++(ts.drop s).take (n-s))) (hS:Srt Z)
 (h1:∀x,2*k ∣ x→x<q→Sg ts x (2*k)) :
 (ts.take q++Z++ts.drop n).Perm ts∧(∀x,2*k ∣ x→Sg (ts.take q++Z++ts.drop n) x (2*k)):=by
 have hc:=cut4 (ts:=ts) (q:=q) (s:=s) (r:=n) (by omega) (by omega)
 have hlq:(ts.take q).length=q:=by rw [List.length_take];omega
 have hlz:Z.length=n-q:=by rw [hz.length_eq,List.length_append,List.length_take,List.length_drop,List.length_take,List.length_drop];omega
 have hdn:ts.drop n=[]:=List.drop_of_length_le (by omega)
 refine ⟨?_,fun x hx=>?_⟩
 ·have:=((hz.append_left (ts.take q)).append_right (ts.drop n))
  rwa [←List.append_assoc (ts.take q),hc] at this
 ·by_cases hxq:x<q
  ·have h0:=h1 x hx hxq
   have hg:=dvd_gap hd hx hxq
   rw [←hc,List.append_assoc,List.append_assoc] at h0
   rw [List.append_assoc]
   exact sg_left h0 (by omega)
  ·by_cases hq2:x=q
   ·subst hq2
    have:=sg_mid (P:=ts.take x) (S:=ts.drop n) (k:=2*k) hS (.inr ⟨by omega,hdn⟩)
    rwa [hlq] at this
   ·have:=dvd_gap hx hd (by omega)
    refine sg_nil ?_
    rw [List.length_append,List.length_append,hlq,hlz,hdn,List.length_nil]
    omega
theorem sym_stay {ts:List T2} {k q s n:Nat} (hn:ts.length=n) (hs:s=q+k) (hsn:n≤s)
 (h1:∀x,2*k ∣ x→x<q→Sg ts x (2*k)) (h2:∀x,k ∣ x→q≤x→Sg ts x k):∀x,2*k ∣ x→Sg ts x (2*k):=by
 intro x hx
 by_cases hxq:x<q
 ·exact h1 x hx hxq
 ·have h0:=h2 x (Nat.dvd_trans ⟨2,by omega⟩ hx) (by omega)
  unfold Sg at *
  rw [List.take_of_length_le (by rw [List.length_drop];omega)] at h0 ⊢
  exact h0
theorem sym_all:∀N,SymAt N
 | 0=>fun g n c P U V S w _ _ _ _ h1 h2 hN _=>absurd hN (by omega)
 | N+1=>fun g n c P U V S w hn hl hU hV h1 h2 hN hr a m b ha hm hb=>by
  by_cases c1:U.length=1
  ·obtain ⟨u,rfl⟩:=List.length_eq_one_iff.1 c1
   obtain rfl:m=a+1:=by rw [hm,ha];rfl
   exact symOne_any g n c P V S u w hn hl hV hr a b ha (by rw [hb];rfl)
  ·by_cases c2:V.length=1
   ·obtain ⟨v,rfl⟩:=List.length_eq_one_iff.1 c2
    exact symLast_any g n c P U S v w hn hl hU hr a m b ha hm (by rw [hb,hm];rfl) (by omega)
   ·exact symGen_any N (sym_all N) g n c P U V S w hn hl hU hV (by omega) (by omega) hN hr a m b ha hm hb
def PartPost (g:Nat) (Z X:List T2) (q r:Nat) (w:World) (e:Ending) (w':World):Prop:=e=.returned (.tuple #[])∧∃Y,Y.Perm X∧Srt Y∧RowT w' g (Z.take q++Y++Z.drop r)∧Tur w w' g
theorem sym_call (g n c:Nat) (Z:List T2) (w:World) (hn:n≤100000) (hl:Z.length=n) (hr:RowT w g Z) (q s r:Nat) (h1:q<s) (h2:s<r) (h3:r≤n) (s1:Srt ((Z.drop q).take (s-q))) (s2:Srt ((Z.drop s).take (r-s))) :
 Calls Tryz.prog 173 #[.slice (some ⟨g,0,none⟩) n c,.int .i64 (q:Int),.int .i64 (s:Int),.int .i64 (r:Int),cmpFn] w (PartPost g Z ((Z.drop q).take (s-q)++(Z.drop s).take (r-s)) q r w):=by
 have hc:=cut4 (ts:=Z) (q:=q) (s:=s) (r:=r) (by omega) (by omega)
 exact sym_all ((s-q)+(r-s)) g n c (Z.take q) ((Z.drop q).take (s-q)) ((Z.drop s).take (r-s)) (Z.drop r) w hn (by rw [hc];exact hl) s1 s2
  (by rw [List.length_take,List.length_drop];omega) (by rw [List.length_take,List.length_drop];omega) (by rw [List.length_take,List.length_take];omega) (by rw [hc];exact hr) q s r
  (by rw [List.length_take];omega) (by rw [List.length_take,List.length_take,List.length_drop];omega) (by rw [List.length_take,List.length_take,List.length_take,List.length_drop,List.length_drop];omega)
theorem ins_call (g n c:Nat) (Z:List T2) (w:World) (hn:n≤100000) (hl:Z.length=n) (hr:RowT w g Z) (q r:Nat) (h1:q≤r) (h3:r≤n) :
 Calls Tryz.prog 172 #[.slice (some ⟨g,0,none⟩) n c,.int .i64 (q:Int),.int .i64 (r:Int),cmpFn] w (PartPost g Z ((Z.drop q).take (r-q)) q r w):=by
 have hc:=cut3 (ts:=Z) (q:=q) (r:=r) h1
 exact insRange_any g n c q r (Z.take q) ((Z.drop q).take (r-q)) (Z.drop r) w (by rw [hc];exact hl) hn (by rw [List.length_take];omega) (by rw [List.length_take,List.length_take,List.length_drop];omega) (by rw [hc];exact hr)
theorem stable_any (g n c:Nat) (ts:List T2) (w:World) (hn:n≤100000) (hl:ts.length=n) (hr:RowT w g ts) :
 Calls Tryz.prog 122 #[.slice (some ⟨g,0,none⟩) n c,.int .i64 (n:Int),cmpFn] w fun e w'=>e=.returned (.tuple #[])∧∃Z,Z.Perm ts∧Srt Z∧RowT w' g Z∧Tur w w' g:=by
 have HR:=Lib.hid hr
 have HL:=Lib.hid hl
 have HG:Hid (Tur w w g):=gb_refl w _
 have HIN:=Lib.hid (fun Z W h1 h2 q r h3 h4=>ins_call g n c Z W hn h1 h2 q r h3 h4)
 have HSY:=Lib.hid (fun Z W h1 h2 q s r h3 h4 h5 s1 s2=>sym_call g n c Z W hn h1 h2 q s r h3 h4 h5 s1 s2)
 unfold PartPost at HIN HSY
 clear hr hl
 unfold cmpFn at *
 go_enter Tryz.func122,Tryz.ntmps122
 go_wp2_with fail
 go_loopw [7,8] (fun a b wr=>∃(q:Nat) (Z:List T2),a=.int .i64 (q:Int)∧b=.int .i64 ((q:Int)+20)∧q≤n∧Hid (20 ∣ q)∧Hid (Z.Perm ts)∧Hid (∀x,20 ∣ x→x+20≤q→Sg Z x 20)∧Hid (RowT wr g Z)∧Hid (Tur w wr g)) (fun a _ _=>n-(RowKit.intOf a).toNat)
 case atStart=>exact ⟨0,ts,rfl,rfl,Nat.zero_le _,⟨0,rfl⟩,List.Perm.refl _,fun x _ h=>absurd h (by omega),HR.out,HG.out⟩
 case round =>
  clear HR HG
  obtain ⟨q,Z,rfl,rfl,hq,HD,HP,HS,HRk,HGk⟩:=hrel
  have HZL:Hid (Z.length=n):=HP.out.length_eq.trans HL.out
  by_cases hlt:q+20≤n
  ·have hi:=HIN.out Z wr HZL.out HRk.out q (q+20) (by omega) hlt
   rw [show ((q+20:Nat):Int)=(q:Int)+20 by omega] at hi
   have HI:=Lib.hid hi
   clear hi HRk
   go_wp2_with fail
   refine HI.out.mono ?_
   rintro e w2 ⟨rfl,Y,hp,hs,hr2,hg2⟩
   have hst:=ins_step (ts:=Z) (q:=q) (r:=q+20) rfl (by rw [HZL.out];exact hlt) HD.out hp hs HS.out
   have HST:=Lib.hid hst
   have HR2:=Lib.hid hr2
   have HG2:=Lib.hid (HGk.out.trans hg2)
   clear hp hs hr2 hg2 hst HI HGk
   go_wp2_with fail
   go_roundw
   case rel=>exact ⟨q+20,_,by go_num,by go_num,hlt,by have:=HD.out;exact Nat.dvd_add this ⟨1,rfl⟩,HST.out.1.trans HP.out,HST.out.2,HR2.out,HG2.out⟩
   case measure=>simp [RowKit.intOf];omega
  ·have hno:¬((q:Int)+20≤(n:Int)):=by omega
   have HI:=Lib.hid (HIN.out Z wr HZL.out HRk.out q n hq (Nat.le_refl _))
   clear HRk
   go_wp2_with fail
   refine HI.out.mono ?_
   rintro e w2 ⟨rfl,Y,hp,hs,hr2,hg2⟩
   have hst:=ins_last (ts:=Z) (q:=q) HZL.out hq (by omega) HD.out hp hs HS.out
   have HST:=Lib.hid (And.intro (hst.1.trans HP.out) hst.2)
   have HR2:=Lib.hid hr2
   have HG2:=Lib.hid (HGk.out.trans hg2)
   clear hp hs hr2 hg2 hst HI HGk HP HS HD HZL hno hlt
   generalize Z.take q++Y++Z.drop n=Z1 at *
   go_wp2_with fail
   go_loopw [6,7,8,9] (fun k _ _ _ wr=>∃(k':Nat) (Z:List T2),k=.int .i64 (k':Int)∧1≤k'∧k'≤200000∧Hid (Z.Perm ts)∧Hid (∀x,k' ∣ x→Sg Z x k')∧Hid (RowT wr g Z)∧Hid (Tur w wr g)) (fun k _ _ _ _=>n-(RowKit.intOf k).toNat)
   case atStart=>exact ⟨20,Z1,rfl,by omega,by omega,HST.out.1,HST.out.2,HR2.out,HG2.out⟩
   case round =>
    clear HR2 HG2 HST
    obtain ⟨k,Z2,rfl,hk1,hk2,HP,HS,HRk,HGk⟩:=hrel
    by_cases hkn:k<n
    ·obtain ⟨wm,rfl⟩:∃wm:World,wm=wr:=⟨_,rfl⟩
     have k0:(k:Int)<(n:Int):=by omega
     have k3:2*(k:Int)≤200000:=by omega
     have HS1:Hid (∀x,2*k ∣ x→x<0→Sg Z2 x (2*k)):=fun x _ h=>absurd h (by omega)
     have HS2:Hid (∀x,k ∣ x→0≤x→Sg Z2 x k):=fun x h _=>HS.out x h
     clear HS
     go_wp2_with fail
     go_loopw [7,8] (fun a b wr=>∃(q:Nat) (Z:List T2),a=.int .i64 (q:Int)∧b=.int .i64 ((q:Int)+2*(k:Int))∧q≤n∧Hid (2*k ∣ q)∧Hid (Z.Perm ts)∧Hid (∀x,2*k ∣ x→x<q→Sg Z x (2*k))∧Hid (∀x,k ∣ x→q≤x→Sg Z x k)∧Hid (RowT wr g Z)∧Hid (Tur w wr g)) (fun a _ _=>n-(RowKit.intOf a).toNat)
     case atStart=>exact ⟨0,Z2,rfl,by go_num,Nat.zero_le _,⟨0,rfl⟩,HP.out,HS1.out,HS2.out,HRk.out,HGk.out⟩
     case round =>
      clear HP HS1 HS2 HRk HGk
      obtain ⟨q,Z,rfl,rfl,hq,HD,HP,HS1,HS2,HRk,HGk⟩:=hrel
      have HZL:Hid (Z.length=n):=HP.out.length_eq.trans HL.out
      have hkd:Hid (k ∣ q∧k ∣ q+k):=by
       obtain ⟨a,ha⟩:=HD.out
       have h1:k ∣ q:=⟨2*a,by rw [ha,Nat.mul_comm 2 k,Nat.mul_assoc]⟩
       exact ⟨h1,Nat.dvd_add h1 ⟨1,by omega⟩⟩
      have HP1:Hid (Srt ((Z.drop q).take (q+k-q))):=by have:=HS2.out q hkd.out.1 (Nat.le_refl _);unfold Sg at this;rw [show q+k-q=k by omega];exact this
      by_cases hlt:q+2*k≤n
      ·have hP2:Srt ((Z.drop (q+k)).take (q+2*k-(q+k))):=by have:=HS2.out (q+k) hkd.out.2 (by omega);unfold Sg at this;rw [show q+2*k-(q+k)=k by omega];exact this
       have hi:=HSY.out Z wr HZL.out HRk.out q (q+k) (q+2*k) (by omega) (by omega) hlt HP1.out hP2
       rw [show ((q+2*k:Nat):Int)=(q:Int)+2*(k:Int) by omega,show ((q+k:Nat):Int)=(q:Int)+(k:Int) by omega] at hi
       have HI:=Lib.hid hi
       clear hi hP2 HRk
       have hle:(q:Int)+2*(k:Int)≤(n:Int):=by omega
       go_wp2_with fail
       refine HI.out.mono ?_
       rintro e w2 ⟨rfl,Y,hp,hs,hr2,hg2⟩
       have hst:=sym_step (ts:=Z) (k:=k) (q:=q) (s:=q+k) (r:=q+2*k) hk1 rfl (by omega) (by rw [HZL.out];exact hlt) HD.out hp hs HS1.out HS2.out
       have HST:=Lib.hid hst
       have HR2:=Lib.hid hr2
       have HG2:=Lib.hid (HGk.out.trans hg2)
       clear hp hs hr2 hg2 hst HI HGk
       go_wp2_with fail
       go_roundw
       case rel=>exact ⟨q+2*k,_,by go_num,by go_num,hlt,Nat.dvd_add HD.out ⟨1,by omega⟩,HST.out.1.trans HP.out,HST.out.2.1,HST.out.2.2,HR2.out,HG2.out⟩
       case measure=>simp [RowKit.intOf];omega
      ·have hno:¬((q:Int)+2*(k:Int)≤(n:Int)):=by omega
       by_cases hm:q+k<n
       ·have hP2:Srt ((Z.drop (q+k)).take (n-(q+k))):=by
         have:=HS2.out (q+k) hkd.out.2 (by omega)
         unfold Sg at this
         rw [List.take_of_length_le (by rw [List.length_drop,HZL.out];omega)] at this ⊢
         exact this
        have hi:=HSY.out Z wr HZL.out HRk.out q (q+k) n (by omega) (by omega) (Nat.le_refl _) HP1.out hP2
        rw [show ((q+k:Nat):Int)=(q:Int)+(k:Int) by omega] at hi
        have HI:=Lib.hid hi
        clear hi hP2 HRk
        have hlt2:(q:Int)+(k:Int)<(n:Int):=by omega
        go_wp2_with fail
        refine HI.out.mono ?_
        rintro e w2 ⟨rfl,Y,hp,hs,hr2,hg2⟩
        have hst:=sym_end (ts:=Z) (k:=k) (q:=q) (s:=q+k) hk1 HZL.out rfl hm (by omega) HD.out hp hs HS1.out
        have HST:=Lib.hid hst
        have HR2:=Lib.hid hr2
        have HG2:=Lib.hid (HGk.out.trans hg2)
        clear hp hs hr2 hg2 hst HI HGk
        go_wp2_with fail
        go_roundw
        case rel=>exact ⟨2*k,_,by go_num,by omega,by omega,HST.out.1.trans HP.out,HST.out.2,HR2.out,HG2.out⟩
        case measure=>simp [RowKit.intOf];omega
       ·have hlt2:¬((q:Int)+(k:Int)<(n:Int)):=by omega
        have hst:=sym_stay (ts:=Z) (k:=k) (q:=q) (s:=q+k) HZL.out rfl (by omega) HS1.out HS2.out
        have HST:=Lib.hid hst
        clear hst
        go_wp2_with fail
        go_roundw
        case rel=>exact ⟨2*k,Z,by go_num,by omega,by omega,HP.out,HST.out,HRk.out,HGk.out⟩
        case measure=>simp [RowKit.intOf];omega
    ·have k0:¬((k:Int)<(n:Int)):=by omega
     have HF:=Lib.hid (sg_all (ts:=Z2) (k:=k) (HS.out 0 ⟨0,rfl⟩) (by rw [HP.out.length_eq,HL.out];omega))
     go_wp2_with fail
     go_end0
     exact ⟨rfl,Z2,HP.out,HF.out,HRk.out,HGk.out⟩
end
end
end Go.Proofs.YtjdfbnlaiiknpaaGreatDoor
