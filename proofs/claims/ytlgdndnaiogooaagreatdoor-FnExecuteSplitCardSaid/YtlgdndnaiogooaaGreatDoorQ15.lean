/- Parts of the proof of : Spl. -/
import Derived.Test.YtlgdndnaiogooaaGreatDoorQ03
set_option maxHeartbeats 20000000
set_option maxRecDepth 1000000
set_option linter.unusedSimpArgs false
set_option linter.unusedVariables false
namespace Go.Proofs.YtlgdndnaiogooaaGreatDoor
section
open Go.Lib
def spl (c:UInt8):List UInt8→List (List UInt8)
 | []=>[[]]
 | x :: r=>if x=c then [] :: spl c r else match spl c r with
  | []=>[[x]]
  | p :: ps=>(x :: p) :: ps
theorem spl_none {c:UInt8} {l:List UInt8} (h:c∉l):spl c l=[l]:=by
 induction l with
 | nil=>rfl
 | cons x r ih =>
  simp only [List.mem_cons,not_or] at h
  unfold spl
  rw [if_neg (fun e=>h.1 e.symm),ih h.2]
theorem spl_app {c:UInt8} {a r:List UInt8} (h:c∉a):spl c (a++c :: r)=a :: spl c r:=by
 induction a with
 | nil=>show (if c=c then _ else _)=_;rw [if_pos rfl]
 | cons x a ih =>
  simp only [List.mem_cons,not_or] at h
  show (if x=c then [] :: spl c (a++c :: r) else match spl c (a++c :: r) with
   | []=>[[x]]
   | p :: ps=>(x :: p) :: ps)=_
  rw [if_neg (fun e=>h.1 e.symm),ih h.2]
theorem index_app {c:UInt8} {a r:List UInt8} (h:c∉a):index (a++c :: r) [c]=(a.length:Nat):=by
 refine index_first (by simp) ?_ ?_
 ·simp [occAt]
 ·intro j hj
  unfold occAt
  rw [List.drop_append_of_le_length (by omega),List.drop_eq_getElem_cons hj]
  have hne:c≠a[j]:=fun e=>h (e ▸ List.getElem_mem hj)
  show (c==a[j] && _)=false
  rw [beq_eq_false_iff_ne.2 hne];rfl
theorem index_no {c:UInt8} {l:List UInt8} (h:c∉l):index l [c]=-1:=by
 refine index_none fun j hj=>?_
 unfold occAt
 rcases Nat.lt_or_ge j l.length with h1 | h1
 ·rw [List.drop_eq_getElem_cons h1]
  have hne:c≠l[j]:=fun e=>h (e ▸ List.getElem_mem h1)
  show (c==l[j] && _)=false
  rw [beq_eq_false_iff_ne.2 hne];rfl
 ·rw [List.drop_eq_nil_of_le h1];rfl
theorem mem_cut {c:UInt8}:∀{l:List UInt8},c∈l→∃a r,l=a++c :: r∧c∉a
 | x :: l,h=>by
  by_cases e:x=c
  ·subst e;exact ⟨[],l,rfl,by simp⟩
  ·obtain ⟨a,r,rfl,ha⟩:=mem_cut (l:=l) (by simpa [Ne.symm e] using h)
   exact ⟨x :: a,r,rfl,by simp [Ne.symm e,ha]⟩
theorem splitK_spl (c:UInt8):∀(n:Nat) (l:List UInt8),l.length<n→splitK [c] 0 (count l [c]) l=spl c l:=by
 intro n
 induction n with
 | zero=>intro l h;omega
 | succ n ih =>
  intro l hl
  by_cases hm:c∈l
  ·obtain ⟨a,r,rfl,ha⟩:=mem_cut hm
   have hi:=index_app (r:=r) ha
   have hd:(a++c :: r).drop (a.length+1)=r:=by
    rw [List.drop_append,List.drop_eq_nil_of_le (by omega)]
    simp [show a.length+1-a.length=1 by omega]
   rw [count_hit (by simp) hi,spl_app ha,Nat.add_comm 1]
   unfold splitK
   rw [if_neg (by rw [hi];simp),hi]
   simp only [Int.toNat_natCast,List.length_cons,List.length_nil,Nat.zero_add,hd,Nat.add_zero]
   rw [ih r (by simp at hl;omega),List.take_append_of_le_length (Nat.le_refl _),List.take_length]
  ·rw [count_miss (index_no hm),spl_none hm];rfl
theorem count_spl (c:UInt8) (l:List UInt8):count l [c]+1=(spl c l).length:=by
 have h1:=splitK_spl c (l.length+1) l (by omega)
 have h2:=splitB_all (bs [c]) (by rw [bs_size];exact Nat.le_refl _) 0 (countB (bs l) (bs [c])) (bs l) rfl
 have h3:=congrArg List.length (splitB_data (bs [c]) 0 (countB (bs l) (bs [c])) (bs l))
 rw [List.length_map,h2] at h3
 have e1:(bs l).data.toList=l:=by simp [bs]
 have e2:(bs [c]).data.toList=[c]:=by simp [bs]
 have e3:countB (bs l) (bs [c])=count l [c]:=by show count _ _=_;rw [e1,e2]
 rw [e3,e1,e2,h1] at h3
 exact h3
theorem splitB_spl (c:UInt8) (l:List UInt8):splitB (bs [c]) 0 (countB (bs l) (bs [c])) (bs l)=(spl c l).map bs:=by
 have h1:=splitK_spl c (l.length+1) l (by omega)
 have h3:=splitB_data (bs [c]) 0 (countB (bs l) (bs [c])) (bs l)
 have e1:(bs l).data.toList=l:=by simp [bs]
 have e2:(bs [c]).data.toList=[c]:=by simp [bs]
 have e3:countB (bs l) (bs [c])=count l [c]:=by show count _ _=_;rw [e1,e2]
 rw [e3,e1,e2,h1] at h3
 rw [e3,←h3,List.map_map]
 have:∀L:List ByteArray,L=L.map (bs ∘ fun x=>x.data.toList):=fun L=>by
  induction L with
  | nil=>rfl
  | cons x L ih=>rw [List.map_cons,←ih];rfl
 exact this _
end
end Go.Proofs.YtlgdndnaiogooaaGreatDoor
