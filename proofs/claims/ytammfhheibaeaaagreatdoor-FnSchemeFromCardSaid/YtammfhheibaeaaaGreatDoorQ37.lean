/- Parts of the proof of : Fr. -/
import Derived.Test.YtammfhheibaeaaaGreatDoorQ27
set_option maxHeartbeats 20000000
set_option maxRecDepth 1000000
set_option linter.unusedSimpArgs false
set_option linter.unusedVariables false
namespace Go.Proofs.YtammfhheibaeaaaGreatDoor
section
open Go.RowKit Go.Lib
theorem scP_s (ns:List T3) (k:Nat):scP ns (k+1)=scP ns k++(ndT (gN ns k).1 (gN ns k).2.1 (gN ns k).2.2++[10]):=rfl
theorem good_scP {l:List UInt8} (h:GoodT l):∃ns k,svB ns=true∧ns.length=k+1∧l=scP ns (k+1):=by
 have hv:=good_sv h
 have h1:=(svB_iff.1 hv).1.1
 refine ⟨nlf l,(nlf l).length-1,hv,by omega,?_⟩
 have e:=h.2
 unfold scT at e
 rw [if_pos hv] at e
 rw [show (nlf l).length-1+1=(nlf l).length by omega]
 exact e.symm
theorem good_end {l:List UInt8} (h:GoodT l):∃u c,l=u++[c,10]∧c≠10:=by
 obtain ⟨ns,k,hv,hk,rfl⟩:=good_scP h
 have hn:=(okN_iff.1 ((svB_iff.1 hv).2.2 k (by omega))).1
 refine ⟨scP ns k++(decDigits (gN ns k).1.toNat++[32]++spT (gN ns k).2.1++[32]),if (gN ns k).2.2 then 111 else 101,?_,by split <;> decide⟩
 rw [scP_s,ndT_ok hn]
 simp only [List.append_assoc,List.cons_append,List.nil_append]
theorem scP_front {ns:List T3} (hv:svB ns=true):∀k,∃c r,scP ns (k+1)=c :: r∧48≤c.toNat:=by
 intro k
 induction k with
 | zero =>
  have hn:=(okN_iff.1 ((svB_iff.1 hv).2.2 0 (by have:=(svB_iff.1 hv).1.1;omega))).1
  have hp:=dd_pos (gN ns 0).1.toNat
  cases hd:decDigits (gN ns 0).1.toNat with
  | nil=>rw [hd] at hp;simp at hp
  | cons c r =>
   refine ⟨c,r++[32]++spT (gN ns 0).2.1++[32]++[if (gN ns 0).2.2 then 111 else 101]++[10],?_,(dd_all (gN ns 0).1.toNat c (by rw [hd];simp)).1⟩
   rw [scP_s,ndT_ok hn,hd]
   simp only [scP,List.nil_append,List.cons_append,List.append_assoc]
 | succ k ih =>
  obtain ⟨c,r,e,hc⟩:=ih
  exact ⟨c,r++(ndT (gN ns (k+1)).1 (gN ns (k+1)).2.1 (gN ns (k+1)).2.2++[10]),by rw [scP_s ns (k+1),e];rfl,hc⟩
theorem bad_init {l:List UInt8} (h:GoodT l):¬GoodT l.dropLast:=fun h'=>by
 obtain ⟨u,c,rfl,hc⟩:=good_end h
 obtain ⟨u',c',e,_⟩:=good_end h'
 have e2:(u++[c,10]).dropLast=u++[c]:=by rw [show u++[c,10]=(u++[c])++[10] by simp,List.dropLast_concat]
 rw [e2,show u'++[c',10]=(u'++[c'])++[10] by simp] at e
 have:=List.append_inj_right' e rfl
 exact hc (List.cons.inj this).1
theorem bad_front {l:List UInt8}:¬GoodT (32 :: l):=fun h'=>by
 obtain ⟨ns,k,hv,hk,e⟩:=good_scP h'
 obtain ⟨c,r,e1,hc⟩:=scP_front hv k
 rw [e1] at e
 have:=(List.cons.inj e).1
 subst this
 revert hc;decide
end
end Go.Proofs.YtammfhheibaeaaaGreatDoor
