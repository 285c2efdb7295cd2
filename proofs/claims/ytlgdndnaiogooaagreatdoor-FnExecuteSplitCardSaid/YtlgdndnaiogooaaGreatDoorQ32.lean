/- Parts of the proof of : Fr. -/
import Derived.Test.YtlgdndnaiogooaaGreatDoorQ18
import Derived.StillTail
set_option maxHeartbeats 20000000
set_option maxRecDepth 1000000
set_option linter.unusedSimpArgs false
set_option linter.unusedVariables false
namespace Go.Proofs.YtlgdndnaiogooaaGreatDoor
section
open Go.RowKit
namespace Fr
variable {P : Program}
def alOf (o:Oper):Option (TypeId × Nat):=match o.op,o.dst,o.guard with
 | .alloc t,some d,none=>some (t,d)
 | _,_,_=>none
def stOf (o:Oper):Option (TypeId × Nat × Operand):=match o.op,o.dst,o.guard with
 | .store t (.tmp p) x,none,none=>some (t,p,x)
 | _,_,_=>none
def isQ (o:Oper):Bool:=(alOf o).isNone && (stOf o).isNone
def waitB (l:List Oper):Bool:=(List.range l.length).all fun i=>match l[i]? with
 | none=>true
 | some oi=>(List.range l.length).all fun j=>match l[j]? with
  | none=>true
  | some oj=>match oj.dst with
   | none=>true
   | some d=>!(oi.looksAt l.toArray).contains d || (decide (j<i) && Region.waitsFor .any l.toArray i j && ((alOf oj).isNone || !isQ oi))
def backB (l:List Oper):Bool:=(List.range l.length).all fun i=>match l[i]? with
 | none=>true
 | some oi=>oi.after.all fun e=>!Region.binds .any e || decide (e.on<i)
structure AftB (w:World) (T:Nat→TypeId) (A:Nat→Nat) (θ:Nat→Option (Array Value)) where
 w':World
 below:Below w.heap.size w w'
 blk:∀d cs,θ d=some cs→Blk w' (A d) (T d) cs
def putAls (A:Nat→Nat):List (TypeId × Nat)→Act→Act
 | [],a=>a
 | (_,d) :: r,a=>putAls A r (a.put (some d) (.pointer (some ⟨A d,0,none⟩)))
theorem walked {C:World→Prop} {ops:Array Oper} {aF:Act}:∀(lq:List Oper) (a:Act),(lq.filterMap (·.dst)).Nodup→wpQuiet P ops C (fun a'=>a'=aF) lq a →
 aF.defers=a.defers∧aF.tmps.size=a.tmps.size∧(∀d,d∉lq.filterMap (·.dst)→aF.tmps[d]?=a.tmps[d]?) ∧
 ∀k o,lq[k]?=some o→∃ak v,YieldsIn P ops C o v ak∧(∀d,o.dst=some d→d<a.tmps.size→aF.tmps[d]?=some v) ∧
  (∀d,d∉(lq.drop k).filterMap (·.dst)→ak.tmps[d]?=aF.tmps[d]?)∧(∀d,d∉(lq.take k).filterMap (·.dst)→ak.tmps[d]?=a.tmps[d]?)
 | [],a,_,h=>by
  have h:a=aF:=h
  subst h
  exact ⟨rfl,rfl,fun _ _=>rfl,fun k o hk=>by simp at hk⟩
 | o :: lq,a,hn,h=>by
  have hy:∃v,YieldsIn P ops C o v a∧wpQuiet P ops C (fun a'=>a'=aF) lq (a.put o.dst v):=by
   unfold wpQuiet at h
   by_cases hw:Region.wanted o (yielded ops a.tmps)=true
   ·rw [if_pos hw] at h
    obtain ⟨v,h1,h2⟩:=h
    exact ⟨v,.inl ⟨hw,h1⟩,h2⟩
   ·rw [if_neg hw] at h
    exact ⟨undef,.inr ⟨by simpa using hw,rfl⟩,h⟩
  obtain ⟨v,hy,h2⟩:=hy
  have hn2:(lq.filterMap (·.dst)).Nodup:=by
   cases hd:o.dst with
   | none=>simpa [List.filterMap_cons,hd] using hn
   | some d=>simp [hd] at hn;exact hn.2
  obtain ⟨i1,i2,i3,i4⟩:=walked lq (a.put o.dst v) hn2 h2
  have hsz:(a.put o.dst v).tmps.size=a.tmps.size:=by cases o.dst <;> simp [Act.put]
  have hdf:(a.put o.dst v).defers=a.defers:=by cases o.dst <;> simp [Act.put]
  have hother:∀d,o.dst≠some d→(a.put o.dst v).tmps[d]?=a.tmps[d]?:=fun d hd=>by
   cases hq:o.dst with
   | none=>rfl
   | some e =>
    have:e≠d:=fun h=>hd (by rw [hq,h])
    simp [Act.put,Array.getElem?_setIfInBounds_ne this]
  refine ⟨i1.trans hdf,i2.trans hsz,fun d hd=>?_,fun k o' hk=>?_⟩
  ·have h1:d∉lq.filterMap (·.dst)∧o.dst≠some d:=by
    cases hq:o.dst with
    | none=>rw [List.filterMap_cons,hq] at hd;exact ⟨hd,by simp⟩
    | some e=>rw [List.filterMap_cons,hq] at hd;simp at hd;exact ⟨by simpa using hd.2,by simp;exact fun h=>hd.1 h.symm⟩
   rw [i3 d h1.1,hother d h1.2]
  ·cases k with
   | zero =>
    have:o=o':=by simpa using hk
    subst this
    refine ⟨a,v,hy,fun d hd hlt=>?_,fun d hd=>?_,fun d _=>rfl⟩
    ·have hnot:d∉lq.filterMap (·.dst):=by simp [hd] at hn;simpa using hn.1
     rw [i3 d hnot,hd]
     simp [Act.put,hlt]
    ·simp only [List.drop_zero] at hd
     have h1:d∉lq.filterMap (·.dst)∧o.dst≠some d:=by
      cases hq:o.dst with
      | none=>rw [List.filterMap_cons,hq] at hd;exact ⟨hd,by simp⟩
      | some e=>rw [List.filterMap_cons,hq] at hd;simp at hd;exact ⟨by simpa using hd.2,by simp;exact fun h=>hd.1 h.symm⟩
     rw [i3 d h1.1,hother d h1.2]
   | succ k =>
    obtain ⟨ak,u,y1,y2,y3,y4⟩:=i4 k o' (by simpa using hk)
    refine ⟨ak,u,y1,fun d hd hlt=>y2 d hd (by rw [hsz];exact hlt),fun d hd=>y3 d (by simpa using hd),fun d hd=>?_⟩
    have h1:d∉(lq.take k).filterMap (·.dst)∧o.dst≠some d:=by
     rw [List.take_succ_cons] at hd
     cases hq:o.dst with
     | none=>rw [List.filterMap_cons,hq] at hd;exact ⟨hd,by simp⟩
     | some e=>rw [List.filterMap_cons,hq] at hd;simp at hd;exact ⟨by simpa using hd.2,by simp;exact fun h=>hd.1 h.symm⟩
    rw [y4 d h1.1,hother d h1.2]
section
variable {ops : Array Oper} {w0 : World} {a0 aF : Act} {T : Nat → TypeId} {Z V : Nat → Array Value}
def lis (listed:Array Bool) (i:Nat):Prop:=listed.getD i false=true
structure Inv (ops:Array Oper) (w0:World) (a0 aF:Act) (T:Nat→TypeId) (Z V:Nat→Array Value) (A:Nat→Nat) (listed:Array Bool) (a:Act) (w:World):Prop where
 lsize:listed.size=ops.size
 defers:a.defers=aF.defers
 size:a.tmps.size=aF.tmps.size
 closed:∀j oj,ops[j]?=some oj→lis listed j→∀e∈oj.after,Region.binds .any e=true→lis listed e.on
 tw:∀i o d,ops[i]?=some o→lis listed i→o.dst=some d→alOf o=none→a.tmps[d]?=aF.tmps[d]?
 ta:∀i o t d,ops[i]?=some o→lis listed i→alOf o=some (t,d)→a.tmps[d]?=some (.pointer (some ⟨A d,0,none⟩))
 tn:∀d,(∀i o,ops[i]?=some o→lis listed i→o.dst≠some d)→a.tmps[d]?=a0.tmps[d]?
 below:Below w0.heap.size w0 w
 old:∀i o t d,ops[i]?=some o→lis listed i→alOf o=some (t,d)→w0.heap.size≤A d
 blkZ:∀i o t d,ops[i]?=some o→lis listed i→alOf o=some (t,d)→(∀j oj t' x,ops[j]?=some oj→lis listed j→stOf oj≠some (t',d,x))→Blk w (A d) (T d) (Z d)
 blkV:∀i o t d,ops[i]?=some o→lis listed i→alOf o=some (t,d)→(∃j oj t' x,ops[j]?=some oj∧lis listed j∧stOf oj=some (t',d,x))→Blk w (A d) (T d) (V d)
 apart:∀i o t d i' o' t' d',ops[i]?=some o→lis listed i→alOf o=some (t,d)→ops[i']?=some o'→lis listed i'→alOf o'=some (t',d')→d≠d'→A d≠A d'
theorem lis_set {listed:Array Bool} {i j:Nat}:lis (listed.setIfInBounds i true) j↔(j=i∧i<listed.size)∨lis listed j:=by
 unfold lis
 by_cases h:i=j
 ·subst h
  by_cases hi:i<listed.size
  ·simp [hi]
  ·simp [hi,Array.getD]
 ·have:j≠i:=fun e=>h e.symm
  simp only [this,false_and,false_or]
  rw [getD_set_ne false h]
theorem alOf_dst {o:Oper} {t:TypeId} {d:Nat} (h:alOf o=some (t,d)):o.dst=some d∧o.guard=none∧o.op=.alloc t:=by
 unfold alOf at h
 split at h
 ·rename_i h1 h2 h3;injection h with h;injection h with e1 e2;subst e1 e2;exact ⟨h2,h3,h1⟩
 ·cases h
theorem stOf_op {o:Oper} {t:TypeId} {p:Nat} {x:Operand} (h:stOf o=some (t,p,x)):o.dst=none∧o.guard=none∧o.op=.store t (.tmp p) x:=by
 unfold stOf at h
 split at h
 ·rename_i h1 h2 h3;injection h with h;injection h with e1 e2;injection e2 with e2 e3;subst e1 e2 e3;exact ⟨h2,h3,h1⟩
 ·cases h
structure Wrote (w w':World) (g:Nat):Prop where
 os:w'.os=w.os
 tape:w'.tape=w.tape
 output:w'.output=w.output
 size:w'.heap.size=w.heap.size
 block:∀k,k≠g→w'.heap[k]?=w.heap[k]?
end
theorem idx_of_nodup {α β:Type} (f:α→Option β):∀{l:List α},(l.filterMap f).Nodup→∀{i j:Nat} {x y:α} {d:β},l[i]?=some x→l[j]?=some y→f x=some d→f y=some d→i=j
 | [],_,i,_,x,_,_,hx,_,_,_=>by simp at hx
 | a :: l,hn,i,j,x,y,d,hx,hy,fx,fy=>by
  have hn2:(l.filterMap f).Nodup:=by
   cases hd:f a with
   | none=>simpa [hd] using hn
   | some e=>simp [hd] at hn;exact hn.2
  have hhead:∀(k:Nat) (z:α),l[k]?=some z→f z=some d→f a≠some d:=fun k z hz fz h=>by
   simp [h] at hn
   exact hn.1 z (List.mem_of_getElem? hz) fz
  cases i with
  | zero =>
   cases j with
   | zero=>rfl
   | succ j =>
    have e:a=x:=by simpa using hx
    subst e
    exact absurd fx (hhead j y (by simpa using hy) fy)
  | succ i =>
   cases j with
   | zero =>
    have e:a=y:=by simpa using hy
    subst e
    exact absurd fy (hhead i x (by simpa using hx) fx)
   | succ j =>
    have hx':l[i]?=some x:=by simpa using hx
    have hy':l[j]?=some y:=by simpa using hy
    exact congrArg (·+1) (idx_of_nodup f hn2 hx' hy' fx fy)
structure Ok (l:List Oper) (N:Nat):Prop where
 noSel:Region.noSelect l.toArray=true
 waits:∀i oi j oj d,l[i]?=some oi→l[j]?=some oj→oj.dst=some d→d∈oi.looksAt l.toArray→j<i∧Region.waitsFor .any l.toArray i j=true∧(alOf oj=none∨isQ oi=false)
 back:∀i oi,l[i]?=some oi→∀e∈oi.after,Region.binds .any e=true→e.on<i
 nodup:(l.filterMap (·.dst)).Nodup
 lt:∀o∈l,∀d,o.dst=some d→d<N
 stAl:∀o∈l,∀t p x,stOf o=some (t,p,x)→∃o'∈l,∃t',alOf o'=some (t',p)
 alSt:∀o∈l,∀t d,alOf o=some (t,d)→∃o'∈l,∃t' x,stOf o'=some (t',d,x)
 stOne:(l.filterMap fun o=>(stOf o).map fun s=>s.2.1).Nodup
def okC (l:List Oper) (N:Nat):Bool :=
 Region.noSelect l.toArray && (waitB l && (backB l && (decide ((l.filterMap (·.dst)).Nodup) && ((l.filterMap (·.dst)).all (fun d=>decide (d<N)) &&
  ((l.filterMap stOf).all (fun s=>(l.filterMap alOf).any fun a=>a.2==s.2.1) && ((l.filterMap alOf).all (fun a=>(l.filterMap stOf).any fun s=>s.2.1==a.2) && decide ((l.filterMap fun o=>(stOf o).map fun s=>s.2.1).Nodup)))))))
theorem ok_of {l:List Oper} {N:Nat} (h:okC l N=true):Ok l N:=by
 unfold okC at h
 simp only [Bool.and_eq_true,decide_eq_true_eq] at h
 obtain ⟨h1,h2,h3,h4,h5,h6,h7,h8⟩:=h
 refine ⟨h1,?_,?_,h4,?_,?_,?_,h8⟩
 ·intro i oi j oj d hi hj hd hl
  unfold waitB at h2
  have:=List.all_eq_true.1 h2 i (List.mem_range.2 (List.getElem?_eq_some_iff.1 hi).1)
  rw [hi] at this
  simp only at this
  have:=List.all_eq_true.1 this j (List.mem_range.2 (List.getElem?_eq_some_iff.1 hj).1)
  rw [hj] at this
  simp only [hd] at this
  have hc:(oi.looksAt l.toArray).contains d=true:=by simpa using hl
  rw [hc] at this
  simp only [Bool.not_true,Bool.false_or,Bool.and_eq_true,decide_eq_true_eq,Bool.or_eq_true,Option.isNone_iff_eq_none,Bool.not_eq_true'] at this
  exact ⟨this.1.1,this.1.2,this.2⟩
 ·intro i oi hi e he hb
  unfold backB at h3
  have:=List.all_eq_true.1 h3 i (List.mem_range.2 (List.getElem?_eq_some_iff.1 hi).1)
  rw [hi] at this
  simp only at this
  have:=Array.all_eq_true'.1 this e he
  rw [hb] at this
  simpa using this
 ·intro o ho d hd
  have:=List.all_eq_true.1 h5 d (List.mem_filterMap.2 ⟨o,ho,hd⟩)
  simpa using this
 ·intro o ho t p x hs
  have:=List.all_eq_true.1 h6 (t,p,x) (List.mem_filterMap.2 ⟨o,ho,hs⟩)
  obtain ⟨a,ha,he⟩:=List.any_eq_true.1 this
  obtain ⟨o',ho',h'⟩:=List.mem_filterMap.1 ha
  have he:a.2=p:=by simpa using he
  exact ⟨o',ho',a.1,by rw [h',←he]⟩
 ·intro o ho t d hs
  have:=List.all_eq_true.1 h7 (t,d) (List.mem_filterMap.2 ⟨o,ho,hs⟩)
  obtain ⟨a,ha,he⟩:=List.any_eq_true.1 this
  obtain ⟨o',ho',h'⟩:=List.mem_filterMap.1 ha
  have he:a.2.1=d:=by simpa using he
  exact ⟨o',ho',a.1,a.2.2,by rw [h',←he]⟩
theorem exec_alike {ops:Array Oper} {o:Oper} {a b:Act} (hs:∀cs bb,o.op≠.select cs bb) (h:∀d∈o.looksAt ops,a.tmps[d]?=b.tmps[d]?):execOp a.eval o=execOp b.eval o :=
 execOp_congr o hs fun x hx=>by
  cases x with
  | tmp d =>
   have:=h d (List.mem_append_left _ (List.mem_filterMap.2 ⟨.tmp d,by simpa using hx,rfl⟩))
   show a.tmps.getD d undef=b.tmps.getD d undef
   simp only [Array.getD_eq_getD_getElem?,this]
  | _=>rfl
theorem wanted_alike {ops:Array Oper} {o:Oper} {a b:Act} (h:∀d∈o.looksAt ops,a.tmps[d]?=b.tmps[d]?):Region.wanted o (yielded ops a.tmps)=Region.wanted o (yielded ops b.tmps):=by
 unfold Region.wanted
 cases hg:o.guard with
 | none=>rfl
 | some gw =>
  obtain ⟨g,want⟩:=gw
  have hy:yielded ops a.tmps g=yielded ops b.tmps g:=by
   unfold yielded
   cases ht:(ops[g]?).bind (·.dst) with
   | none=>rfl
   | some t =>
    have:=h t (by simp [Oper.looksAt,hg,ht])
    simp [this]
  simp only [hy]
section
variable {l : List Oper} {w0 : World} {a0 aF : Act} {T : Nat → TypeId} {Z V : Nat → Array Value} {N : Nat}
theorem unlis {listed:Array Bool} {i:Nat} (h:listed.getD i true=false):¬lis listed i:=by
 unfold lis
 rcases Nat.lt_or_ge i listed.size with h' | h'
 ·simp [h'] at h ⊢;exact h
 ·simp [Array.getElem?_eq_none h'] at h
open Classical in
noncomputable def theta (ops:Array Oper) (Z V:Nat→Array Value) (listed:Array Bool) (d:Nat):Option (Array Value) :=
 if ∃i o t,ops[i]?=some o∧lis listed i∧alOf o=some (t,d) then some (if ∃j oj t' x,ops[j]?=some oj∧lis listed j∧stOf oj=some (t',d,x) then V d else Z d) else none
theorem inv_blk {A:Nat→Nat} {listed:Array Bool} {a:Act} {w:World} (I:Inv l.toArray w0 a0 aF T Z V A listed a w):∀d cs,theta l.toArray Z V listed d=some cs→Blk w (A d) (T d) cs:=by
 intro d cs h
 unfold theta at h
 split at h
 ·rename_i hx
  obtain ⟨i,o,t,h1,h2,h3⟩:=hx
  injection h with h
  subst h
  split
  ·rename_i hs;exact I.blkV i o t d h1 h2 h3 hs
  ·rename_i hs;exact I.blkZ i o t d h1 h2 h3 fun j oj t' x g1 g2 g3=>hs ⟨j,oj,t',x,g1,g2,g3⟩
 ·cases h
theorem toArr {l:List Oper} {i:Nat}:l.toArray[i]?=l[i]?:=by simp
theorem isQ_of {o:Oper} (h:isQ o=true):alOf o=none∧stOf o=none:=by
 unfold isQ at h
 simp only [Bool.and_eq_true,Option.isNone_iff_eq_none] at h
 exact h
theorem filter_at (l:List Oper) (i:Nat) (o:Oper) (hi:l[i]?=some o) (hq:isQ o=true) :
 (l.filter isQ)[((l.take i).filter isQ).length]?=some o∧(l.filter isQ).take ((l.take i).filter isQ).length=(l.take i).filter isQ∧(l.filter isQ).drop ((l.take i).filter isQ).length=o :: (l.drop (i+1)).filter isQ:=by
 have hlt:=(List.getElem?_eq_some_iff.1 hi)
 have e:l.filter isQ=(l.take i).filter isQ++o :: (l.drop (i+1)).filter isQ:=by
  have h1:l=l.take i++o :: l.drop (i+1):=by
   rw [←hlt.2,←List.drop_eq_getElem_cons hlt.1,List.take_append_drop]
  calc l.filter isQ=(l.take i++o :: l.drop (i+1)).filter isQ:=by rw [←h1]
   _=_:=by rw [List.filter_append,List.filter_cons,if_pos hq]
 rw [e]
 refine ⟨?_,?_,?_⟩
 ·rw [List.getElem?_append_right (Nat.le_refl _)];simp
 ·rw [List.take_append_of_le_length (Nat.le_refl _),List.take_length]
 ·rw [List.drop_append_of_le_length (Nat.le_refl _),List.drop_length,List.nil_append]
theorem put_at {a:Act} {d:Nat} {v:Value} (h:d<a.tmps.size):(a.put (some d) v).tmps[d]?=some v:=by simp [Act.put,h]
theorem put_ne {a:Act} {o:Option Nat} {d:Nat} {v:Value} (h:o≠some d):(a.put o v).tmps[d]?=a.tmps[d]?:=by
 cases o with
 | none=>rfl
 | some e =>
  have:e≠d:=fun x=>h (by rw [x])
  simp [Act.put,Array.getElem?_setIfInBounds_ne this]
theorem put_size {a:Act} {o:Option Nat} {v:Value}:(a.put o v).tmps.size=a.tmps.size:=by cases o <;> simp [Act.put]
theorem put_defs {a:Act} {o:Option Nat} {v:Value}:(a.put o v).defers=a.defers:=by cases o <;> simp [Act.put]
theorem ready_of {i:Nat} {listed:Array Bool} {o:Oper} (hr:i∈Region.ready .any l.toArray listed) (hi:l[i]?=some o):¬lis listed i∧∀e∈o.after,Region.binds .any e=true→lis listed e.on:=by
 obtain ⟨h1,o',h2,h3⟩:=mem_ready.1 hr
 rw [toArr,hi] at h2
 injection h2 with h2
 subst h2
 exact ⟨unlis h1,fun e he hb=>h3 e he hb⟩
theorem waits_lis {i j:Nat} {listed:Array Bool} {o:Oper} (hi:l[i]?=some o) (h:∀e∈o.after,Region.binds .any e=true→lis listed e.on) (hw:Region.waitsFor .any l.toArray i j=true):lis listed j:=by
 obtain ⟨o',h2,e,he,hb,hon⟩:=Region.waitsFor_spec hw
 rw [toArr,hi] at h2
 injection h2 with h2
 subst h2
 exact hon ▸ h e he hb
theorem step_q (hO:Ok l N) (hN:a0.tmps.size=N) {A:Nat→Nat}
 (hW:∀θ,Nonempty (AftB w0 T A θ)→wpQuiet P l.toArray (fun w''=>∃p:AftB w0 T A θ,w''=p.w') (fun a'=>a'=aF) (l.filter isQ) a0)
 {listed:Array Bool} {a:Act} {w:World} (I:Inv l.toArray w0 a0 aF T Z V A listed a w) {i:Nat} {o:Oper} (hi:l[i]?=some o) (hq:isQ o=true) (hr:i∈Region.ready .any l.toArray listed)
 {K:Act→World→Prop} {Q':Exit→Act→World→Prop} (hK:∀a' w',Inv l.toArray w0 a0 aF T Z V A (listed.setIfInBounds i true) a' w'→K a' w'):wpOp P l.toArray Q' i K a w:=by
 obtain ⟨hun,hdeps⟩:=ready_of hr hi
 obtain ⟨hqa,hqs⟩:=isQ_of hq
 have hil:i<l.length:=(List.getElem?_eq_some_iff.1 hi).1
 have hsub:∀m:List Oper,m.Sublist l→(m.filterMap (·.dst)).Nodup:=fun m hm=>hO.nodup.sublist (hm.filterMap _)
 have hne:=hW (theta l.toArray Z V listed) ⟨⟨w,I.below,inv_blk I⟩⟩
 obtain ⟨_,hsz,_,hall⟩:=walked _ a0 (hsub _ List.filter_sublist) hne
 obtain ⟨f1,f2,f3⟩:=filter_at l i o hi hq
 obtain ⟨ak,v,hy,hv,hd1,hd2⟩:=hall _ o f1
 rw [f3] at hd1
 rw [f2] at hd2
 have hlook:∀d∈o.looksAt l.toArray,ak.tmps[d]?=a.tmps[d]?:=fun d hd=>by
  by_cases hx:∃(j:Nat) (oj:Oper),l[j]?=some oj∧oj.dst=some d
  ·obtain ⟨j,oj,hj,hjd⟩:=hx
   obtain ⟨hlt,hw,hk⟩:=hO.waits i o j oj d hi hj hjd hd
   have hja:alOf oj=none:=by rcases hk with h | h;exact h;rw [hq] at h;cases h
   rw [I.tw j oj d (by rw [toArr];exact hj) (waits_lis hi hdeps hw) hjd hja]
   refine hd1 d fun hm=>?_
   obtain ⟨o2,ho2,hd2'⟩:=List.mem_filterMap.1 hm
   have:∃k:Nat,l[k]?=some o2∧i≤k:=by
    rcases List.mem_cons.1 ho2 with rfl | ho2
    ·exact ⟨i,hi,Nat.le_refl _⟩
    ·obtain ⟨k,hk⟩:=List.mem_iff_getElem?.1 (List.mem_filter.1 ho2).1
     rw [List.getElem?_drop] at hk
     exact ⟨i+1+k,hk,by omega⟩
   obtain ⟨k,hk,hik⟩:=this
   have:=idx_of_nodup (·.dst) hO.nodup hj hk hjd hd2'
   omega
  ·have hx':∀o2∈l,o2.dst≠some d:=fun o2 ho2 h=>by
    obtain ⟨k,hk⟩:=List.mem_iff_getElem?.1 ho2
    exact hx ⟨k,o2,hk,h⟩
   rw [I.tn d fun j oj hj _ h=>hx ⟨j,oj,by rw [toArr] at hj;exact hj,h⟩]
   refine hd2 d fun hm=>?_
   obtain ⟨o2,ho2,h⟩:=List.mem_filterMap.1 hm
   exact hx' o2 (List.mem_of_mem_take (List.mem_filter.1 ho2).1) h
 have hsel:∀cs b,o.op≠.select cs b:=fun cs b=>Region.noSelect_spec hO.noSel i o cs b (by rw [toArr];exact hi)
 have hy':=hy.of_same (exec_alike hsel fun d hd=>(hlook d hd).symm) (wanted_alike fun d hd=>(hlook d hd).symm)
 -- the state behind it
 have hfin:∀w',(∃p:AftB w0 T A (theta l.toArray Z V listed),w'=p.w')→Inv l.toArray w0 a0 aF T Z V A (listed.setIfInBounds i true) (a.put o.dst v) w':=by
  rintro w' ⟨p,rfl⟩
  have hli:∀j,lis (listed.setIfInBounds i true) j→j=i∨lis listed j:=fun j hj=>(lis_set.1 hj).imp (·.1) id
  have hlo:∀j oj,l.toArray[j]?=some oj→lis (listed.setIfInBounds i true) j→(j=i∧oj=o)∨lis listed j:=fun j oj hj h=>by
   rcases hli j h with rfl | h
   ·rw [toArr,hi] at hj;injection hj with hj;exact .inl ⟨rfl,hj.symm⟩
   ·exact .inr h
  have hdist:∀j oj d,l.toArray[j]?=some oj→lis listed j→oj.dst=some d→o.dst≠some d:=fun j oj d hj hl h1 h2=>by
   rw [toArr] at hj
   have:=idx_of_nodup (·.dst) hO.nodup hj hi h1 h2
   subst this
   exact hun hl
  refine ⟨by rw [Array.size_setIfInBounds];exact I.lsize,put_defs.trans I.defers,put_size.trans I.size,?_,?_,?_,?_,p.below,?_,?_,?_,?_⟩
  ·intro j oj hj hl e he hb
   rcases hlo j oj hj hl with ⟨rfl,rfl⟩ | hl
   ·exact lis_set.2 (.inr (hdeps e he hb))
   ·exact lis_set.2 (.inr (I.closed j oj hj hl e he hb))
  ·intro j oj d hj hl hd ha
   rcases hlo j oj hj hl with ⟨rfl,rfl⟩ | hl
   ·rw [hd,put_at (by rw [I.size,hsz,hN];exact hO.lt oj (List.mem_of_getElem? hi) d hd)]
    exact (hv d hd (by rw [hN];exact hO.lt oj (List.mem_of_getElem? hi) d hd)).symm
   ·rw [put_ne (hdist j oj d hj hl hd)]
    exact I.tw j oj d hj hl hd ha
  ·intro j oj t d hj hl ha
   rcases hlo j oj hj hl with ⟨rfl,rfl⟩ | hl
   ·rw [hqa] at ha;cases ha
   ·rw [put_ne (hdist j oj d hj hl (alOf_dst ha).1)]
    exact I.ta j oj t d hj hl ha
  ·intro d hd
   have h1:o.dst≠some d:=hd i o (by rw [toArr];exact hi) (lis_set.2 (.inl ⟨rfl,by rw [I.lsize];simpa using hil⟩))
   rw [put_ne h1]
   exact I.tn d fun j oj hj hl=>hd j oj hj (lis_set.2 (.inr hl))
  ·intro j oj t d hj hl ha
   rcases hlo j oj hj hl with ⟨rfl,rfl⟩ | hl
   ·rw [hqa] at ha;cases ha
   ·exact I.old j oj t d hj hl ha
  ·intro j oj t d hj hl ha hno
   rcases hlo j oj hj hl with ⟨rfl,rfl⟩ | hl
   ·rw [hqa] at ha;cases ha
   ·refine p.blk d _ ?_
    unfold theta
    rw [if_pos ⟨j,oj,t,hj,hl,ha⟩,if_neg]
    rintro ⟨k,ok,t',x,g1,g2,g3⟩
    exact hno k ok t' x g1 (lis_set.2 (.inr g2)) g3
  ·intro j oj t d hj hl ha hyes
   rcases hlo j oj hj hl with ⟨rfl,rfl⟩ | hl
   ·rw [hqa] at ha;cases ha
   ·refine p.blk d _ ?_
    unfold theta
    rw [if_pos ⟨j,oj,t,hj,hl,ha⟩,if_pos]
    obtain ⟨k,ok,t',x,g1,g2,g3⟩:=hyes
    refine ⟨k,ok,t',x,g1,?_,g3⟩
    rcases hlo k ok g1 g2 with ⟨rfl,rfl⟩ | g2
    ·rw [hqs] at g3;cases g3
    ·exact g2
  ·intro j oj t d j' oj' t' d' hj hl ha hj' hl' ha'
   rcases hlo j oj hj hl with ⟨rfl,rfl⟩ | hl
   ·rw [hqa] at ha;cases ha
   ·rcases hlo j' oj' hj' hl' with ⟨rfl,rfl⟩ | hl'
    ·rw [hqa] at ha';cases ha'
    ·exact I.apart j oj t d j' oj' t' d' hj hl ha hj' hl' ha'
 unfold wpOp
 rw [toArr,hi]
 simp only
 rcases hy' with ⟨hw,hv'⟩ | ⟨hw,rfl⟩
 ·rw [if_pos hw]
  exact .inl (Oper.wp_of_quiet (C:=fun w''=>∃p:AftB w0 T A (theta l.toArray Z V listed),w''=p.w') (K:=fun a'=>a'=a.put o.dst v) ⟨⟨w,I.below,inv_blk I⟩,rfl⟩ (fun a' w' hC ha=>by subst ha;exact hK _ _ (hfin w' hC)) ⟨v,hv',rfl⟩)
 ·rw [if_neg (by rw [hw];simp)]
  exact hK _ _ (hfin w ⟨⟨w,I.below,inv_blk I⟩,rfl⟩)
theorem step_al (hO:Ok l N) (hN:aF.tmps.size=N) {A:Nat→Nat}
 {listed:Array Bool} {a:Act} {w:World} (I:Inv l.toArray w0 a0 aF T Z V A listed a w) {i:Nat} {o:Oper} (hi:l[i]?=some o) {t:TypeId} {d:Nat} (ha:alOf o=some (t,d)) (hr:i∈Region.ready .any l.toArray listed)
 (hal:∀W,(Instr.alloc t true (.tuple #[])).run P W=.ok (.pointer (some ⟨W.heap.size,0,none⟩)) (W.alloc (.cells (Z d) (T d))))
 {K:Act→World→Prop} {Q':Exit→Act→World→Prop} (hK:∀A a' w',Inv l.toArray w0 a0 aF T Z V A (listed.setIfInBounds i true) a' w'→K a' w'):wpOp P l.toArray Q' i K a w:=by
 obtain ⟨hun,hdeps⟩:=ready_of hr hi
 obtain ⟨hd,hg,hop⟩:=alOf_dst ha
 have hil:i<l.length:=(List.getElem?_eq_some_iff.1 hi).1
 have hli:∀j,lis (listed.setIfInBounds i true) j→j=i∨lis listed j:=fun j hj=>(lis_set.1 hj).imp (·.1) id
 have hlo:∀j oj,l.toArray[j]?=some oj→lis (listed.setIfInBounds i true) j→(j=i∧oj=o)∨lis listed j:=fun j oj hj h=>by
  rcases hli j h with rfl | h
  ·rw [toArr,hi] at hj;injection hj with hj;exact .inl ⟨rfl,hj.symm⟩
  ·exact .inr h
 have hdist:∀j oj d,l.toArray[j]?=some oj→lis listed j→oj.dst=some d→o.dst≠some d:=fun j oj d hj hl h1 h2=>by
  rw [toArr] at hj
  have:=idx_of_nodup (·.dst) hO.nodup hj hi h1 h2
  subst this
  exact hun hl
 have hdn:d<N:=hO.lt o (List.mem_of_getElem? hi) d hd
 have hbel:=(I.below.alloc I.below.size (.cells (Z d) (T d)))
 have hfin:Inv l.toArray w0 a0 aF T Z V (fun x=>if x=d then w.heap.size else A x) (listed.setIfInBounds i true) (a.put o.dst (.pointer (some ⟨w.heap.size,0,none⟩))) (w.alloc (.cells (Z d) (T d))):=by
  have hA:∀j oj t' d',l.toArray[j]?=some oj→lis listed j→alOf oj=some (t',d')→d'≠d:=fun j oj t' d' hj hl h e=>by
   subst e
   exact hdist j oj d' hj hl (alOf_dst h).1 hd
  refine ⟨by rw [Array.size_setIfInBounds];exact I.lsize,put_defs.trans I.defers,put_size.trans I.size,?_,?_,?_,?_,hbel,?_,?_,?_,?_⟩
  ·intro j oj hj hl e he hb
   rcases hlo j oj hj hl with ⟨rfl,rfl⟩ | hl
   ·exact lis_set.2 (.inr (hdeps e he hb))
   ·exact lis_set.2 (.inr (I.closed j oj hj hl e he hb))
  ·intro j oj d' hj hl hd' hna
   rcases hlo j oj hj hl with ⟨rfl,rfl⟩ | hl
   ·rw [ha] at hna;cases hna
   ·rw [put_ne (hdist j oj d' hj hl hd')]
    exact I.tw j oj d' hj hl hd' hna
  ·intro j oj t' d' hj hl ha'
   rcases hlo j oj hj hl with ⟨rfl,rfl⟩ | hl
   ·rw [ha] at ha'
    injection ha' with ha'
    injection ha' with _ e
    subst e
    rw [hd,put_at (by rw [I.size,hN];exact hdn),if_pos rfl]
   ·rw [put_ne (hdist j oj d' hj hl (alOf_dst ha').1),if_neg (hA j oj t' d' hj hl ha')]
    exact I.ta j oj t' d' hj hl ha'
  ·intro d' hd'
   have h1:o.dst≠some d':=hd' i o (by rw [toArr];exact hi) (lis_set.2 (.inl ⟨rfl,by rw [I.lsize];simpa using hil⟩))
   rw [put_ne h1]
   exact I.tn d' fun j oj hj hl=>hd' j oj hj (lis_set.2 (.inr hl))
  ·intro j oj t' d' hj hl ha'
   rcases hlo j oj hj hl with ⟨rfl,rfl⟩ | hl
   ·rw [ha] at ha'
    injection ha' with ha'
    injection ha' with _ e
    subst e
    rw [if_pos rfl];exact I.below.size
   ·rw [if_neg (hA j oj t' d' hj hl ha')]
    exact I.old j oj t' d' hj hl ha'
  ·intro j oj t' d' hj hl ha' hno
   rcases hlo j oj hj hl with ⟨rfl,rfl⟩ | hl
   ·rw [ha] at ha'
    injection ha' with ha'
    injection ha' with _ e
    subst e
    rw [if_pos rfl];exact Blk.new _ _ _
   ·rw [if_neg (hA j oj t' d' hj hl ha')]
    exact (I.blkZ j oj t' d' hj hl ha' fun k ok t'' x g1 g2 g3=>hno k ok t'' x g1 (lis_set.2 (.inr g2)) g3).alloc _
  ·intro j oj t' d' hj hl ha' hyes
   obtain ⟨k,ok,t'',x,g1,g2,g3⟩:=hyes
   have g2':lis listed k:=by
    rcases hlo k ok g1 g2 with ⟨rfl,rfl⟩ | g2
    ·have:=(stOf_op g3).1;rw [hd] at this;cases this
    ·exact g2
   rcases hlo j oj hj hl with ⟨rfl,rfl⟩ | hl
   ·rw [ha] at ha'
    injection ha' with ha'
    injection ha' with _ e
    subst e
    -- the store waits for the making
    have hw:=hO.waits k ok j oj d (by rw [toArr] at g1;exact g1) hi hd (by simp [Oper.looksAt,(stOf_op g3).2.2,Op.operands])
    exact absurd (waits_lis (by rw [toArr] at g1;exact g1) (fun e he hb=>I.closed k ok g1 g2' e he hb) hw.2.1) hun
   ·rw [if_neg (hA j oj t' d' hj hl ha')]
    exact (I.blkV j oj t' d' hj hl ha' ⟨k,ok,t'',x,g1,g2',g3⟩).alloc _
  ·intro j oj t1 d1 j' oj' t2 d2 hj hl h1 hj' hl' h2 hne
   rcases hlo j oj hj hl with ⟨rfl,rfl⟩ | hl0
   ·rw [ha] at h1
    injection h1 with h1
    injection h1 with _ e
    subst e
    rcases hlo j' oj' hj' hl' with ⟨rfl,rfl⟩ | hl1
    ·rw [ha] at h2
     injection h2 with h2
     injection h2 with _ e
     exact absurd e hne
    ·rw [if_pos rfl,if_neg (hA j' oj' t2 d2 hj' hl1 h2)]
     have hb:A d2<w.heap.size:=by
      by_cases hs:∃k ok t' x,l.toArray[k]?=some ok∧lis listed k∧stOf ok=some (t',d2,x)
      ·exact (I.blkV j' oj' t2 d2 hj' hl1 h2 hs).lt
      ·exact (I.blkZ j' oj' t2 d2 hj' hl1 h2 fun k ok t' x g1 g2 g3=>hs ⟨k,ok,t',x,g1,g2,g3⟩).lt
     omega
   ·rcases hlo j' oj' hj' hl' with ⟨rfl,rfl⟩ | hl1
    ·rw [ha] at h2
     injection h2 with h2
     injection h2 with _ e
     subst e
     rw [if_pos rfl,if_neg (hA j oj t1 d1 hj hl0 h1)]
     have hb:A d1<w.heap.size:=by
      by_cases hs:∃k ok t' x,l.toArray[k]?=some ok∧lis listed k∧stOf ok=some (t',d1,x)
      ·exact (I.blkV j oj t1 d1 hj hl0 h1 hs).lt
      ·exact (I.blkZ j oj t1 d1 hj hl0 h1 fun k ok t' x g1 g2 g3=>hs ⟨k,ok,t',x,g1,g2,g3⟩).lt
     omega
    ·rw [if_neg (hA j oj t1 d1 hj hl0 h1),if_neg (hA j' oj' t2 d2 hj' hl1 h2)]
     exact I.apart j oj t1 d1 j' oj' t2 d2 hj hl0 h1 hj' hl1 h2 hne
 unfold wpOp
 rw [toArr,hi]
 simp only
 rw [if_pos (by simp [Region.wanted,hg])]
 left
 unfold Oper.wp
 have hrun:(execOp a.eval o).run P w=.ok (.value (.pointer (some ⟨w.heap.size,0,none⟩))) (w.alloc (.cells (Z d) (T d))):=by
  unfold execOp
  rw [hop]
  simp [hal w]
 rw [hrun]
 exact hK _ _ _ hfin
theorem step_st (hO:Ok l N) (hun0:∀d,(∀o∈l,o.dst≠some d)→aF.tmps[d]?=a0.tmps[d]?) {A:Nat→Nat}
 {listed:Array Bool} {a:Act} {w:World} (I:Inv l.toArray w0 a0 aF T Z V A listed a w) {i:Nat} {o:Oper} (hi:l[i]?=some o) {t:TypeId} {d:Nat} {x:Operand} (hs:stOf o=some (t,d,x)) (hr:i∈Region.ready .any l.toArray listed)
 (hxq:∀e,x=.tmp e→∀o'∈l,o'.dst=some e→alOf o'=none)
 (hst:∀W g,Blk W g (T d) (Z d)→∃W',(Instr.storeAt t (.pointer (some ⟨g,0,none⟩)) (aF.eval x)).run P W=.ok () W'∧Wrote W W' g∧Blk W' g (T d) (V d))
 {K:Act→World→Prop} {Q':Exit→Act→World→Prop} (hK:∀a' w',Inv l.toArray w0 a0 aF T Z V A (listed.setIfInBounds i true) a' w'→K a' w'):wpOp P l.toArray Q' i K a w:=by
 obtain ⟨hun,hdeps⟩:=ready_of hr hi
 obtain ⟨hd,hg,hop⟩:=stOf_op hs
 have hil:i<l.length:=(List.getElem?_eq_some_iff.1 hi).1
 obtain ⟨o',ho',t',ha'⟩:=hO.stAl o (List.mem_of_getElem? hi) t d x hs
 obtain ⟨j,hj⟩:=List.mem_iff_getElem?.1 ho'
 have hjl:lis listed j:=waits_lis hi hdeps (hO.waits i o j o' d hi hj (alOf_dst ha').1 (by simp [Oper.looksAt,hop,Op.operands])).2.1
 have hjA:l.toArray[j]?=some o':=by rw [toArr];exact hj
 have hno:∀k ok t'' y,l.toArray[k]?=some ok→lis listed k→stOf ok≠some (t'',d,y):=fun k ok t'' y g1 g2 g3=>by
  rw [toArr] at g1
  have:=idx_of_nodup (fun o=>(stOf o).map fun s=>s.2.1) hO.stOne g1 hi (d:=d) (by rw [g3];rfl) (by rw [hs];rfl)
  subst this
  exact hun g2
 have hblk:=I.blkZ j o' t' d hjA hjl ha' hno
 obtain ⟨W',hrun,hwr,hb'⟩:=hst w (A d) hblk
 have hev1:a.eval (.tmp d)=.pointer (some ⟨A d,0,none⟩):=by
  show a.tmps.getD d undef=_
  rw [Array.getD_eq_getD_getElem?,I.ta j o' t' d hjA hjl ha'];rfl
 have hev2:a.eval x=aF.eval x:=by
  cases x with
  | tmp e =>
   show a.tmps.getD e undef=aF.tmps.getD e undef
   rw [Array.getD_eq_getD_getElem?,Array.getD_eq_getD_getElem?]
   by_cases hx:∃(k:Nat) (ok:Oper),l[k]?=some ok∧ok.dst=some e
   ·obtain ⟨k,ok,hk,hke⟩:=hx
    have hkl:lis listed k:=waits_lis hi hdeps (hO.waits i o k ok e hi hk hke (by simp [Oper.looksAt,hop,Op.operands])).2.1
    rw [I.tw k ok e (by rw [toArr];exact hk) hkl hke (hxq e rfl ok (List.mem_of_getElem? hk) hke)]
   ·have h2:∀o∈l,o.dst≠some e:=fun o2 ho2 h=>by
     obtain ⟨k,hk⟩:=List.mem_iff_getElem?.1 ho2
     exact hx ⟨k,o2,hk,h⟩
    rw [hun0 e h2,I.tn e fun k ok hk _ h=>hx ⟨k,ok,by rw [toArr] at hk;exact hk,h⟩]
  | _=>rfl
 have hlo:∀j oj,l.toArray[j]?=some oj→lis (listed.setIfInBounds i true) j→(j=i∧oj=o)∨lis listed j:=fun j oj hj h=>by
  rcases lis_set.1 h with ⟨rfl,_⟩ | h
  ·rw [toArr,hi] at hj;injection hj with hj;exact .inl ⟨rfl,hj.symm⟩
  ·exact .inr h
 have hal0:alOf o=none:=by
  cases hh:alOf o with
  | none=>rfl
  | some p=>have:=(alOf_dst (t:=p.1) (d:=p.2) hh).1;rw [hd] at this;cases this
 have hbel:Below w0.heap.size w0 W':=⟨hwr.os.trans I.below.os,hwr.tape.trans I.below.tape,hwr.output.trans I.below.output,by rw [hwr.size];exact I.below.size,fun k hk=>by
  have:=I.old j o' t' d hjA hjl ha'
  rw [hwr.block k (by omega)];exact I.below.block k hk⟩
 have hfin:Inv l.toArray w0 a0 aF T Z V A (listed.setIfInBounds i true) (a.put o.dst undef) W':=by
  rw [hd]
  refine ⟨by rw [Array.size_setIfInBounds];exact I.lsize,I.defers,I.size,?_,?_,?_,?_,hbel,?_,?_,?_,?_⟩
  ·intro j oj hj hl e he hb
   rcases hlo j oj hj hl with ⟨rfl,rfl⟩ | hl
   ·exact lis_set.2 (.inr (hdeps e he hb))
   ·exact lis_set.2 (.inr (I.closed j oj hj hl e he hb))
  ·intro j oj d' hj hl hd' hna
   rcases hlo j oj hj hl with ⟨rfl,rfl⟩ | hl
   ·rw [hd] at hd';cases hd'
   ·exact I.tw j oj d' hj hl hd' hna
  ·intro j oj t2 d' hj hl h2
   rcases hlo j oj hj hl with ⟨rfl,rfl⟩ | hl
   ·rw [hal0] at h2;cases h2
   ·exact I.ta j oj t2 d' hj hl h2
  ·intro d' hd'
   exact I.tn d' fun j oj hj hl=>hd' j oj hj (lis_set.2 (.inr hl))
  ·intro j oj t2 d' hj hl h2
   rcases hlo j oj hj hl with ⟨rfl,rfl⟩ | hl
   ·rw [hal0] at h2;cases h2
   ·exact I.old j oj t2 d' hj hl h2
  ·intro k ok t2 d' hk hl h2 hno2
   rcases hlo k ok hk hl with ⟨rfl,rfl⟩ | hl
   ·rw [hal0] at h2;cases h2
   ·by_cases hdd:d'=d
    ·subst hdd
     exact absurd hs (hno2 i o t x (by rw [toArr];exact hi) (lis_set.2 (.inl ⟨rfl,by rw [I.lsize];simpa using hil⟩)))
    ·have hb:=I.blkZ k ok t2 d' hk hl h2 fun k2 ok2 t3 y g1 g2 g3=>hno2 k2 ok2 t3 y g1 (lis_set.2 (.inr g2)) g3
     exact (hwr.block _ (I.apart k ok t2 d' j o' t' d hk hl h2 hjA hjl ha' hdd)).trans hb
  ·intro k ok t2 d' hk hl h2 hyes
   rcases hlo k ok hk hl with ⟨rfl,rfl⟩ | hl
   ·rw [hal0] at h2;cases h2
   ·by_cases hdd:d'=d
    ·subst hdd
     exact hb'
    ·obtain ⟨k2,ok2,t3,y,g1,g2,g3⟩:=hyes
     have g2':lis listed k2:=by
      rcases hlo k2 ok2 g1 g2 with ⟨rfl,rfl⟩ | g2
      ·rw [hs] at g3;injection g3 with g3;injection g3 with _ g3;injection g3 with g3 _;exact absurd g3.symm hdd
      ·exact g2
     have hb:=I.blkV k ok t2 d' hk hl h2 ⟨k2,ok2,t3,y,g1,g2',g3⟩
     exact (hwr.block _ (I.apart k ok t2 d' j o' t' d hk hl h2 hjA hjl ha' hdd)).trans hb
  ·intro j1 o1 t1 d1 j2 o2 t2 d2 h1 l1 a1 h2 l2 a2 hne
   rcases hlo j1 o1 h1 l1 with ⟨rfl,rfl⟩ | l1
   ·rw [hal0] at a1;cases a1
   ·rcases hlo j2 o2 h2 l2 with ⟨rfl,rfl⟩ | l2
    ·rw [hal0] at a2;cases a2
    ·exact I.apart j1 o1 t1 d1 j2 o2 t2 d2 h1 l1 a1 h2 l2 a2 hne
 unfold wpOp
 rw [toArr,hi]
 simp only
 rw [if_pos (by simp [Region.wanted,hg])]
 left
 unfold Oper.wp
 have hrun':(execOp a.eval o).run P w=.ok .skip W':=by
  unfold execOp
  rw [hop]
  simp only [hev1,hev2]
  simp [hrun]
 rw [hrun']
 exact hK _ _ hfin
theorem filt_lt {α:Type} {p q:α→Bool}:∀{l:List α},(∀x∈l,q x=true→p x=true)→∀{y:α},y∈l→p y=true→q y=false→(l.filter q).length<(l.filter p).length
 | [],_,_,hy,_,_=>by simp at hy
 | z :: l,h,y,hy,hp,hq=>by
  have hle:∀{m:List α},(∀x∈m,q x=true→p x=true)→(m.filter q).length≤(m.filter p).length:=fun {m} hm=>by
   induction m with
   | nil=>exact Nat.le_refl _
   | cons x m ih =>
    have:=ih fun y hy=>hm y (List.mem_cons_of_mem _ hy)
    simp only [List.filter_cons]
    cases hx:q x
    ·cases hx2:p x
     ·simpa [hx,hx2] using this
     ·simp;omega
    ·rw [hm x (by simp) hx];simp;omega
  have h2:∀x∈l,q x=true→p x=true:=fun x hx=>h x (List.mem_cons_of_mem _ hx)
  simp only [List.filter_cons]
  rcases List.mem_cons.1 hy with rfl | hy
  ·rw [hp,hq]
   have:=hle h2
   simp;omega
  ·have:=filt_lt h2 hy hp hq
   cases hx:q z
   ·cases hx2:p z
    ·simpa [hx,hx2] using this
    ·simp;omega
   ·rw [h z (by simp) hx];simp;omega
theorem putAls_size (A:Nat→Nat):∀(als:List (TypeId × Nat)) (a:Act),(putAls A als a).tmps.size=a.tmps.size∧(putAls A als a).defers=a.defers
 | [],_=>⟨rfl,rfl⟩
 | (t,d) :: r,a=>by
  have:=putAls_size A r (a.put (some d) (.pointer (some ⟨A d,0,none⟩)))
  exact ⟨this.1.trans put_size,this.2.trans put_defs⟩
theorem putAls_at (A:Nat→Nat):∀(als:List (TypeId × Nat)) (a:Act),(∀x∈als,x.2<a.tmps.size)→∀d,(putAls A als a).tmps[d]?=if d∈als.map (·.2) then some (.pointer (some ⟨A d,0,none⟩)) else a.tmps[d]?
 | [],_,_,d=>by simp [putAls]
 | (t,e) :: r,a,h,d=>by
  have:=putAls_at A r (a.put (some e) (.pointer (some ⟨A e,0,none⟩))) (fun x hx=>by rw [put_size];exact h x (List.mem_cons_of_mem _ hx)) d
  show (putAls A r _).tmps[d]?=_
  rw [this]
  by_cases hd:d∈r.map (·.2)
  ·rw [if_pos hd,if_pos (by rw [List.map_cons];exact List.mem_cons_of_mem _ hd)]
  ·rw [if_neg hd]
   by_cases he:e=d
   ·subst he
    rw [if_pos (by simp),put_at (h (t,e) (by simp))]
   ·rw [put_ne (by simpa using he),if_neg]
    simp only [List.map_cons,List.mem_cons,not_or]
    exact ⟨fun h=>he h.symm,hd⟩
theorem region_free {id:Nat} {Q:Exit→Act→World→Prop} (als:List (TypeId × Nat)) (sts:List (TypeId × Nat × Operand)) (T:Nat→TypeId) (Z V:Nat→Array Value) (hm:P.follows .mixedOrders=true)
 (hN:a0.tmps.size=N) (hok:okC l N=true) (hals:l.filterMap alOf=als) (hsts:l.filterMap stOf=sts)
 (hxq:∀s∈sts,∀e,s.2.2=.tmp e→e∉als.map (·.2))
 (hal:∀x∈als,∀W,(Instr.alloc x.1 true (.tuple #[])).run P W=.ok (.pointer (some ⟨W.heap.size,0,none⟩)) (W.alloc (.cells (Z x.2) (T x.2))))
 (hW:∀A θ,Nonempty (AftB w0 T A θ)→wpQuiet P l.toArray (fun w''=>∃p:AftB w0 T A θ,w''=p.w') (fun a'=>a'=aF) (l.filter isQ) a0)
 (hst:∀s∈sts,∀W g,Blk W g (T s.2.1) (Z s.2.1)→∃W',(Instr.storeAt s.1 (.pointer (some ⟨g,0,none⟩)) (aF.eval s.2.2)).run P W=.ok () W'∧Wrote W W' g∧Blk W' g (T s.2.1) (V s.2.1))
 (hQ:∀A w',Below w0.heap.size w0 w'→(∀x∈als,w0.heap.size≤A x.2∧Blk w' (A x.2) (T x.2) (V x.2))→(∀x∈als,∀y∈als,x.2≠y.2→A x.2≠A y.2)→Q .normal (putAls A als aF) w') :
 (Code.region id l.toArray true).wp P Q a0 w0:=by
 have hO:=ok_of hok
 subst hals hsts
 obtain ⟨hdf,hsz,hun,_⟩:=walked _ a0 (hO.nodup.sublist (List.filter_sublist.filterMap _)) (hW (fun _=>0) (fun _=>none) ⟨⟨w0,Below.refl _ _,fun _ _ h=>by cases h⟩⟩)
 have hun0:∀d,(∀o∈l,o.dst≠some d)→aF.tmps[d]?=a0.tmps[d]?:=fun d hd=>hun d fun h=>by
  obtain ⟨o,ho,h⟩:=List.mem_filterMap.1 h
  exact hd o (List.mem_filter.1 ho).1 h
 have hNF:aF.tmps.size=N:=hsz.trans hN
 have hdone:∀(A:Nat→Nat) (listed:Array Bool) (a:Act) (w:World),Inv l.toArray w0 a0 aF T Z V A listed a w→(∀i,i<l.length→lis listed i)→Q .normal a w:=by
  intro A listed a w I hall
  have hmem:∀o∈l,∃i,l.toArray[i]?=some o∧lis listed i:=fun o ho=>by
   obtain ⟨i,hi⟩:=List.mem_iff_getElem?.1 ho
   exact ⟨i,by rw [toArr];exact hi,hall i (List.getElem?_eq_some_iff.1 hi).1⟩
  have hv:∀x∈l.filterMap alOf,w0.heap.size≤A x.2∧Blk w (A x.2) (T x.2) (V x.2):=fun x hx=>by
   obtain ⟨o,ho,h⟩:=List.mem_filterMap.1 hx
   obtain ⟨i,h1,h2⟩:=hmem o ho
   obtain ⟨o2,ho2,t',y,h3⟩:=hO.alSt o ho x.1 x.2 h
   obtain ⟨j,g1,g2⟩:=hmem o2 ho2
   exact ⟨I.old i o x.1 x.2 h1 h2 h,I.blkV i o x.1 x.2 h1 h2 h ⟨j,o2,t',y,g1,g2,h3⟩⟩
  have heq:a=putAls A (l.filterMap alOf) aF:=by
   have hs:=putAls_size A (l.filterMap alOf) aF
   have ht:a.tmps=(putAls A (l.filterMap alOf) aF).tmps:=by
    refine Array.ext_getElem? fun d=>?_
    rw [putAls_at A _ aF (fun x hx=>by
     obtain ⟨o,ho,h⟩:=List.mem_filterMap.1 hx
     rw [hNF];exact hO.lt o ho _ (alOf_dst (t:=x.1) (d:=x.2) h).1) d]
    by_cases hd:d∈(l.filterMap alOf).map (·.2)
    ·rw [if_pos hd]
     obtain ⟨x,hx,rfl⟩:=List.mem_map.1 hd
     obtain ⟨o,ho,h⟩:=List.mem_filterMap.1 hx
     obtain ⟨i,h1,h2⟩:=hmem o ho
     exact I.ta i o x.1 x.2 h1 h2 h
    ·rw [if_neg hd]
     by_cases hx:∃o∈l,o.dst=some d
     ·obtain ⟨o,ho,h⟩:=hx
      obtain ⟨i,h1,h2⟩:=hmem o ho
      refine I.tw i o d h1 h2 h ?_
      cases ha:alOf o with
      | none=>rfl
      | some p =>
       have:=(alOf_dst (t:=p.1) (d:=p.2) ha).1
       rw [h] at this
       injection this with this
       exact absurd (List.mem_map.2 ⟨p,List.mem_filterMap.2 ⟨o,ho,ha⟩,this.symm⟩) hd
     ·have hx':∀o∈l,o.dst≠some d:=fun o ho h=>hx ⟨o,ho,h⟩
      rw [hun0 d hx',I.tn d fun i o hi _=>hx' o (by rw [toArr] at hi;exact List.mem_of_getElem? hi)]
   have hd2:a.defers=(putAls A (l.filterMap alOf) aF).defers:=I.defers.trans hs.2.symm
   cases a
   cases hq:putAls A (l.filterMap alOf) aF
   rw [hq] at ht hd2
   simp only at ht hd2
   subst ht hd2
   rfl
  rw [heq]
  refine hQ A w I.below hv fun x hx y hy hne=>?_
  obtain ⟨o,ho,h⟩:=List.mem_filterMap.1 hx
  obtain ⟨i,h1,h2⟩:=hmem o ho
  obtain ⟨o',ho',h'⟩:=List.mem_filterMap.1 hy
  obtain ⟨i',h1',h2'⟩:=hmem o' ho'
  exact I.apart i o x.1 x.2 i' o' y.1 y.2 h1 h2 h h1' h2' h' hne
 have hrun:∀(fuel:Nat) (A:Nat→Nat) (listed:Array Bool) (a:Act) (w:World),Inv l.toArray w0 a0 aF T Z V A listed a w→((List.range l.length).filter fun i=>!listed.getD i true).length≤fuel→wpAny P .any l.toArray Q fuel listed a w:=by
  intro fuel
  have hempty:∀(A:Nat→Nat) (listed:Array Bool) (a:Act) (w:World),Inv l.toArray w0 a0 aF T Z V A listed a w→Region.ready .any l.toArray listed=[]→Q .normal a w:=by
   intro A listed a w I hr
   refine hdone A listed a w I ?_
   intro i
   induction i using Nat.strongRecOn with
   | _ i ih =>
    intro hi
    by_cases hl:lis listed i
    ·exact hl
    ·have hmem:i∈Region.ready .any l.toArray listed:=by
      refine mem_ready.2 ⟨?_,l[i],by simp [hi],fun e he hb=>?_⟩
      ·have hsz:i<listed.size:=by rw [I.lsize];simpa using hi
       unfold lis at hl
       simp [hsz] at hl ⊢
       exact hl
      ·have hlt:=hO.back i l[i] (List.getElem?_eq_getElem hi) e he hb
       exact ih e.on hlt (by omega)
     rw [hr] at hmem
     cases hmem
  induction fuel with
  | zero =>
   intro A listed a w I hc
   have hr:Region.ready .any l.toArray listed=[]:=by
    refine List.eq_nil_iff_forall_not_mem.2 fun i hi=>?_
    obtain ⟨h1,o,h2,_⟩:=mem_ready.1 hi
    have hlt:i<l.length:=by rw [toArr] at h2;exact (List.getElem?_eq_some_iff.1 h2).1
    have:i∈(List.range l.length).filter fun i=>!listed.getD i true:=List.mem_filter.2 ⟨List.mem_range.2 hlt,by rw [h1];rfl⟩
    rw [List.length_eq_zero_iff.1 (Nat.le_zero.1 hc)] at this
    cases this
   exact ⟨hr,hempty A listed a w I hr⟩
  | succ fuel ih =>
   intro A listed a w I hc
   refine ⟨hempty A listed a w I,fun i hi=>?_⟩
   obtain ⟨h1,o,h2,_⟩:=mem_ready.1 hi
   rw [toArr] at h2
   have hlt:i<l.length:=(List.getElem?_eq_some_iff.1 h2).1
   have hls:i<listed.size:=by rw [I.lsize];simpa using hlt
   have hcnt:((List.range l.length).filter fun j=>!(listed.setIfInBounds i true).getD j true).length≤fuel:=by
    have:=filt_lt (l:=List.range l.length) (p:=fun j=>!listed.getD j true) (q:=fun j=>!(listed.setIfInBounds i true).getD j true) (fun j _ hq=>by
     by_cases hij:i=j
     ·subst hij;simp [hls] at hq
     ·rw [getD_set_ne true hij] at hq;exact hq) (List.mem_range.2 hlt) (by rw [h1];rfl) (by simp [hls])
    omega
   cases hq:isQ o
   ·cases ha:alOf o with
    | some p =>
     exact step_al hO hNF I h2 (t:=p.1) (d:=p.2) ha hi (hal p (List.mem_filterMap.2 ⟨o,List.mem_of_getElem? h2,ha⟩)) fun A' a' w' I'=>ih A' _ a' w' I' hcnt
    | none =>
     cases hs:stOf o with
     | some s =>
      refine step_st hO hun0 I h2 (t:=s.1) (d:=s.2.1) (x:=s.2.2) hs hi ?_ (hst s (List.mem_filterMap.2 ⟨o,List.mem_of_getElem? h2,hs⟩)) fun a' w' I'=>ih A _ a' w' I' hcnt
      intro e he o' ho' hd'
      cases ha':alOf o' with
      | none=>rfl
      | some p =>
       have:=(alOf_dst (t:=p.1) (d:=p.2) ha').1
       rw [hd'] at this
       injection this with this
       exact absurd (List.mem_map.2 ⟨p,List.mem_filterMap.2 ⟨o',ho',ha'⟩,this.symm⟩) (hxq s (List.mem_filterMap.2 ⟨o,List.mem_of_getElem? h2,hs⟩) e he)
     | none=>unfold isQ at hq;rw [ha,hs] at hq;cases hq
   ·exact step_q hO hN (hW A) I h2 hq hi fun a' w' I'=>ih A _ a' w' I' hcnt
 refine wp_region_any hm (hrun _ (fun _=>0) _ a0 _ ?_ ?_)
 ·have hno:∀i,¬lis (Array.replicate l.toArray.size false) i:=fun i h=>by
   unfold lis at h
   rw [getD_replicate_false] at h
   cases h
  exact ⟨by simp,hdf.symm,hsz.symm,fun j _ _ h=>absurd h (hno j),fun j _ _ _ h=>absurd h (hno j),fun j _ _ _ _ h=>absurd h (hno j),fun _ _=>rfl,(Below.refl _ w0).drew,fun j _ _ _ _ h=>absurd h (hno j),fun j _ _ _ _ h=>absurd h (hno j),fun j _ _ _ _ h=>absurd h (hno j),fun j _ _ _ _ _ _ _ _ h=>absurd h (hno j)⟩
 ·refine Nat.le_trans (List.length_filter_le _ _) ?_
  simp
theorem region_free' {id:Nat} {Q:Exit→Act→World→Prop} (als:List (TypeId × Nat)) (sts:List (TypeId × Nat × Operand)) (T:Nat→TypeId) (Z V:Nat→Array Value) (N:Nat) (hm:P.follows .mixedOrders=true)
 (hN:a0.tmps.size=N) (hok:okC l N=true) (hals:l.filterMap alOf=als) (hsts:l.filterMap stOf=sts)
 (hxq:∀s∈sts,∀e,s.2.2=.tmp e→e∉als.map (·.2))
 (hal:∀x∈als,∀W,(Instr.alloc x.1 true (.tuple #[])).run P W=.ok (.pointer (some ⟨W.heap.size,0,none⟩)) (W.alloc (.cells (Z x.2) (T x.2))))
 (h:∃aF:Act,(∀A θ,Nonempty (AftB w0 T A θ)→wpQuiet P l.toArray (fun w''=>∃p:AftB w0 T A θ,w''=p.w') (fun a'=>a'=aF) (l.filter isQ) a0) ∧
  (∀s∈sts,∀W g,Blk W g (T s.2.1) (Z s.2.1)→∃W',(Instr.storeAt s.1 (.pointer (some ⟨g,0,none⟩)) (aF.eval s.2.2)).run P W=.ok () W'∧Wrote W W' g∧Blk W' g (T s.2.1) (V s.2.1)) ∧
  (∀A w',Below w0.heap.size w0 w'→(∀x∈als,w0.heap.size≤A x.2∧Blk w' (A x.2) (T x.2) (V x.2))→(∀x∈als,∀y∈als,x.2≠y.2→A x.2≠A y.2)→Q .normal (putAls A als aF) w')) :
 (Code.region id l.toArray true).wp P Q a0 w0:=by
 obtain ⟨aF,hW,hst,hQ⟩:=h
 exact region_free als sts T Z V hm hN hok hals hsts hxq hal hW hst hQ
theorem AftB.cell {w:World} {T:Nat→TypeId} {A:Nat→Nat} {θ:Nat→Option (Array Value)} {a:Addr} {v:Value} (h:w.cell? a=some v) (p:AftB w T A θ):p.w'.cell? a=some v :=
 (p.below.cell (World.block_lt_of_cell? _ _ h)).trans h
theorem aftB_call {w:World} {T:Nat→TypeId} {A:Nat→Nat} {θ:Nat→Option (Array Value)} {f:FuncId} {args:Array Value} {v:Value} (p:AftB w T A θ)
 (h:Calls P f args p.w' fun e w'=>e=.returned v∧Below p.w'.heap.size p.w' w'):Calls P f args p.w' fun e w''=>e=.returned v∧∃q:AftB w T A θ,w''=q.w' :=
 h.mono fun _ _ ⟨he,hb⟩=>⟨he,⟨_,p.below.trans (hb.mono p.below.size),fun d cs hd=>(p.blk d cs hd).sub hb⟩,rfl⟩
theorem wrote_set (w:World) (g i:Nat) (u:Value):Wrote w (w.setCell ⟨g,i,none⟩ u) g:=by
 have b:=(Below.refl 0 w).setCell (p:=⟨g,i,none⟩) (Nat.zero_le _) u
 refine ⟨b.os,b.tape,b.output,?_,fun k hk=>Below.heap_setCell w ⟨g,i,none⟩ u k hk⟩
 simp
theorem Wrote.trans {a b c:World} {g:Nat} (h:Wrote a b g) (k:Wrote b c g):Wrote a c g :=
 ⟨k.os.trans h.os,k.tape.trans h.tape,k.output.trans h.output,k.size.trans h.size,fun i hi=>(k.block i hi).trans (h.block i hi)⟩
end
end Fr
end
end Go.Proofs.YtlgdndnaiogooaaGreatDoor
