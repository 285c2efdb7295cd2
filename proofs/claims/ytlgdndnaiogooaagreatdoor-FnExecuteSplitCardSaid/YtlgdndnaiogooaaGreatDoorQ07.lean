/- Parts of the proof of : Words2. -/
import Derived.Test.YtlgdndnaiogooaaGreatDoorQ00
set_option maxHeartbeats 20000000
set_option maxRecDepth 1000000
set_option linter.unusedSimpArgs false
set_option linter.unusedVariables false
namespace Go.Proofs.YtlgdndnaiogooaaGreatDoor
section
open Go.RowKit
theorem ownsRow_drew' {w:World} {base:Nat} {e:TypeId} {size n:Nat} {v:Value} {xs:List Value} (h:w.ownsRow base e size v n xs):w.drew.ownsRow base e size v n xs:=h
theorem one1 {a:Value} (h:a.oneCell'=true):∀u∈(#[a]:Array Value).toList,u.oneCell'=true:=by simp [h]
theorem one3 {a b c:Value} (h:a.oneCell'=true) (h':b.oneCell'=true) (h2:c.oneCell'=true):∀u∈(#[a,b,c]:Array Value).toList,u.oneCell'=true:=by simp [h,h',h2]
def KeepT (e:TypeId) (w w':World):Prop:=∀(k:Nat) (cs:Array Value) (t:TypeId) (m:Nat × Nat),w.heap[k]?=some (.cells cs t m)→t≠e→w'.heap[k]?=some (.cells cs t m)
theorem keepT_refl (e:TypeId) (w:World):KeepT e w w:=fun _ _ _ _ h _=>h
theorem keepT_of {w w':World} {base:Nat} {e:TypeId} {size n:Nat} {v:Value} {xs:List Value} (hown:w.ownsRow base e size v n xs) (hg:w.grownBy w' v.ownBlock):KeepT e w w':=by
 intro k cs t m hk ht
 have hlt:k<w.heap.size:=by
  rcases Nat.lt_or_ge k w.heap.size with hlt | hge
  ·exact hlt
  ·rw [Array.getElem?_eq_none hge] at hk;cases hk
 rw [hg.block k hlt ?_]
 ·exact hk
 ·intro he
  rcases hown.2 with ⟨rfl,_⟩ | ⟨g,cap,cur,rfl,_,hh,_⟩
  ·simp [Value.ownBlock] at he
  ·have:k=g:=by simpa [Value.ownBlock] using he
   subst this
   rw [hk] at hh
   injection hh with hh
   injection hh with _ hh2
   exact ht hh2
theorem keepT_set {e:TypeId} {a w:World} {g i:Nat} {cs:Array Value} (h:KeepT e a w) (hb:Blk w g e cs) (u:Value):KeepT e a (w.setCell ⟨g,i,none⟩ u):=fun k cs' t m hk ht=>by
 have h1:=h k cs' t m hk ht
 rw [Below.heap_setCell _ _ _ _ ?_]
 ·exact h1
 ·show k≠g
  rintro rfl
  unfold Blk at hb
  rw [hb] at h1
  injection h1 with h1
  injection h1 with _ h2
  exact ht h2.symm
theorem Blk.keepT {e:TypeId} {w w':World} {g:Nat} {t:TypeId} {cs:Array Value} (h:Blk w g t cs) (hk:KeepT e w w') (ht:t≠e):Blk w' g t cs:=hk g cs t _ h ht
theorem own_keepT {e e':TypeId} {w w':World} {base size n:Nat} {v:Value} {xs:List Value} (h:w.ownsRow base e' size v n xs) (hk:KeepT e w w') (ht:e'≠e):w'.ownsRow base e' size v n xs:=by
 refine ⟨h.1,?_⟩
 rcases h.2 with h2 | ⟨g,cap,cur,h3,h4,h5,h6⟩
 ·exact .inl h2
 ·exact .inr ⟨g,cap,cur,h3,h4,hk _ _ _ _ h5 ht,h6⟩
theorem own_mono {w:World} {base base':Nat} {e:TypeId} {size n:Nat} {v:Value} {xs:List Value} (h:w.ownsRow base e size v n xs) (hb:base'≤base):w.ownsRow base' e size v n xs:=by
 refine ⟨h.1,?_⟩
 rcases h.2 with h2 | ⟨g,cap,cur,h3,h4,h5⟩
 ·exact .inl h2
 ·exact .inr ⟨g,cap,cur,h3,Nat.le_trans hb h4,h5⟩
theorem own_cell_keep {e e':TypeId} {w w':World} {base size n c b off:Nat} {xs:List Value} (h:w.ownsRow base e' size (.slice (some ⟨b,off,none⟩) n c) n xs) (hk:KeepT e w w') (ht:e'≠e) (q:Nat) :
 w'.cell? ⟨b,q,none⟩=w.cell? ⟨b,q,none⟩:=by
 rcases h.2 with ⟨hv,_⟩ | ⟨g,cap,cur,hv,_,hh,_⟩
 ·cases hv
 ·injection hv with hv
  injection hv with hv
  injection hv with hv
  subst hv
  exact World.cell?_of_block ((hk _ _ _ _ hh ht).trans hh.symm)
theorem cell_past {w:World} {b q:Nat} {v:Value} (o:Obj) (h:w.cell? ⟨b,q,none⟩=some v):(w.alloc o).cell? ⟨b,q,none⟩=some v :=
 (World.cell?_alloc_lt w o _ (World.block_lt_of_cell? _ _ h)).trans h
theorem step_app2 {P:Program} (w:World) {ops:Array Oper} {o:Oper} {a:Act} {K:Act→World→Prop} {Q:Exit→Act→World→Prop} {E:Prop} (hgd:o.guard=none) (s x:Operand) (t:TypeId)
 (ho:o.op=.call { callee:=.builtin .append,args:=#[s,x],argTypes:=#[t,t] })
 (base:Nat) (e:TypeId) (size bytes:Nat) (hE:ElemOk P t e size bytes)
 (A:Option Addr) (c n:Nat) (xs:List Value) (hs:a.eval s=.slice A n c) (hown:w.ownsRow base e size (.slice A n c) n xs)
 (L:Nat) (cs:Array Value) (hx:a.eval x=.slice (some ⟨L,0,none⟩) 1 1) (hL:Blk w L e cs) (hcs:cs.size=size) (h1:∀u∈cs.toList,u.oneCell'=true)
 (hn:n≤1000000) (hby:bytes≤1000000) (hbase:base≤w.heap.size)
 (h:∀A' c' w',w'.ownsRow base e size (.slice A' (n+1) c') (n+1) (xs++cs.toList)→n+1≤c'→Below base w w'→KeepT e w w'→K (a.put o.dst (.slice A' (n+1) c')) w') :
 if Region.wanted o (yielded ops a.tmps)=true then Oper.wp P o a w K Q else E:=by
 have hw:Region.wanted o (yielded ops a.tmps)=true:=by simp [Region.wanted,hgd]
 rw [if_pos hw]
 obtain ⟨ht,i,z,hi,hz,hsize,hbytes,hzs,hsz⟩:=hE
 refine wp_append_own w s x t ho base e i z size bytes ht hi hz hsize hbytes hzs hsz _ n xs hs hown ⟨L,0,none⟩ 1 1 cs.toList hx (by simp [hcs]) ?_ h1 (by unfold maxLen;omega) ?_ hbase ?_
 ·intro j u hj
  have:(⟨L,0,none⟩:Addr).add j=⟨L,j,none⟩:=by unfold Addr.add;split <;> simp_all
  rw [this,hL.cell]
  simpa using hj
 ·calc (n+1)*bytes≤1000001*1000000:=Nat.mul_le_mul (by omega) hby
   _≤_:=by omega
 ·intro v' w' hown' hg _
  obtain ⟨A',c',rfl,hc'⟩:=own_form hown'
  refine h A' c' w' hown' hc' ?_ (keepT_of hown hg)
  exact (Below.refl base w).grown hg hbase (fun k hk=>(hown.lt k hk).1)
end
end Go.Proofs.YtlgdndnaiogooaaGreatDoor
