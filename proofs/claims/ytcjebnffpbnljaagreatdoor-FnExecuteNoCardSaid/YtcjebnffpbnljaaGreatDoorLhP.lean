/- Plain facts of scripts and their outputs. -/
import Derived.Test.YtcjebnffpbnljaaGreatDoorQ43
namespace Go.Proofs.YtcjebnffpbnljaaGreatDoor
section
open Go.RowKit Go.Lib
def unl (L:List (List UInt8)):List UInt8:=L.flatMap fun x=>x++[10]
theorem unl_nil:unl []=[]:=rfl
theorem unl_cons (x:List UInt8) (L:List (List UInt8)):unl (x :: L)=x++10 :: unl L:=by simp[unl]
theorem unl_append (A B:List (List UInt8)):unl (A++B)=unl A++unl B:=by simp[unl]
def E10 (P:List UInt8):Prop:=P=[]∨∃Q,P=Q++[10]
theorem unl_e10 (L:List (List UInt8)):E10 (unl L):=by
 rcases List.eq_nil_or_concat L with rfl | ⟨A,x,rfl⟩
 ·exact .inl rfl
 ·exact .inr ⟨unl A++x,by rw[List.concat_eq_append,unl_append,unl_cons,unl_nil];simp⟩
theorem spl_unl:∀L:List (List UInt8),(∀x∈L,(10:UInt8)∉x)→∀z:List UInt8,(10:UInt8)∉z→spl 10 (unl L++z)=L++[z]
 | [],_,z,hz=>by rw[unl_nil,List.nil_append,spl_none hz];rfl
 | x :: L,h,z,hz=>by
  rw[unl_cons,List.append_assoc,List.cons_append,spl_app (h x (List.mem_cons_self ..)),spl_unl L (fun y hy=>h y (List.mem_cons_of_mem _ hy)) z hz];rfl
theorem spl_free (c:UInt8):∀l:List UInt8,∀x∈spl c l,c∉x
 | [],x,hx=>by
  simp only[spl,List.mem_singleton] at hx
  subst hx;simp
 | y :: r,x,hx=>by
  have ih:=spl_free c r
  unfold spl at hx
  split at hx
  ·rcases List.mem_cons.1 hx with rfl | hx
   ·simp
   ·exact ih x hx
  ·rename_i hy
   split at hx
   ·simp only[List.mem_singleton] at hx
    subst hx
    simp only[List.mem_singleton]
    exact fun e=>hy e.symm
   ·rename_i p ps h
    rw[h] at ih
    rcases List.mem_cons.1 hx with rfl | hx
    ·intro hc
     rcases List.mem_cons.1 hc with e | hc
     ·exact hy e.symm
     ·exact ih p (List.mem_cons_self ..) hc
    ·exact ih x (List.mem_cons_of_mem _ hx)
theorem spl_whole:∀(l z:List UInt8) (L:List (List UInt8)),spl 10 l=L++[z]→l=unl L++z
 | [],z,L,h=>by
  have:L=[]∧z=[]:=by
   cases L with
   | nil=>simp only[spl,List.nil_append,List.cons.injEq,and_true] at h;exact⟨rfl,h.symm⟩
   | cons x L=>simp[spl] at h
  rw[this.1,this.2];rfl
 | y :: r,z,L,h=>by
  obtain⟨m,hm⟩:=spl_pos 10 r
  unfold spl at h
  split at h
  ·rename_i hy
   subst hy
   cases L with
   | nil=>rw[List.nil_append,List.cons.injEq] at h;rw[h.2] at hm;simp at hm
   | cons x L =>
    rw[List.cons_append,List.cons.injEq] at h
    rw[unl_cons,←h.1,spl_whole r z L h.2];rfl
  ·split at h
   ·rename_i h0;rw[h0] at hm;simp at hm
   ·rename_i p ps h0
    cases L with
    | nil =>
     rw[List.nil_append,List.cons.injEq] at h
     rw[unl_nil,List.nil_append,←h.1]
     rw[spl_whole r p [] (by rw[h0,h.2];rfl)];rfl
    | cons x L =>
     rw[List.cons_append,List.cons.injEq] at h
     rw[unl_cons,←h.1]
     rw[spl_whole r z (p :: L) (by rw[h0,h.2];rfl),unl_cons];rfl
def cmpl (l:List UInt8):List UInt8:=unl (linesO l)
theorem linesO_free (l:List UInt8):∀x∈linesO l,(10:UInt8)∉x:=fun x hx=>spl_free 10 l x (List.dropLast_subset _ hx)
theorem linesO_unl (L:List (List UInt8)) (h:∀x∈L,(10:UInt8)∉x):linesO (unl L)=L:=by
 have e:=spl_unl L h [] (by simp)
 rw[List.append_nil] at e
 unfold linesO
 rw[e,List.dropLast_concat]
theorem cmpl_part (l:List UInt8):∃z,l=cmpl l++z∧(10:UInt8)∉z:=by
 obtain⟨z,hz⟩:=spl_last l
 exact⟨z,spl_whole l z _ hz,spl_free 10 l z (by rw[hz];simp)⟩
theorem cmpl_e10 (l:List UInt8):E10 (cmpl l):=unl_e10 _
theorem outP_all (L:List (List UInt8)):outP (L.map ansL) L.length=unl (L.map ansL):=by
 obtain⟨n,hn⟩:∃n,L.length=n:=⟨_,rfl⟩
 induction n generalizing L with
 | zero=>rw[List.length_eq_zero_iff.1 hn];rfl
 | succ n ih =>
  rcases List.eq_nil_or_concat L with rfl | ⟨P,x,rfl⟩
  ·simp at hn
  ·rw[List.concat_eq_append,List.length_append] at *
   show outP ((P++[x]).map ansL) (P.length+1)=_
   rw[outP_snoc,ih P (by simp at hn;omega),List.map_append,unl_append]
   simp[unl]
def tailT (n:Nat):List UInt8:=linesT++decDigits n
theorem tailT_free (n:Nat):(10:UInt8)∉tailT n:=by
 intro h
 unfold tailT at h
 rcases List.mem_append.1 h with h | h
 ·revert h;decide
 ·have:=dd_all n 10 h
  have e:(10:UInt8).toNat=10:=rfl
  omega
theorem exT_unl (L:List (List UInt8)) (h:∀x∈L,(10:UInt8)∉x) (hl:(unl L).length≤600):exT (unl L)=unl (L.map ansL)++(tailT L.length++[10]):=by
 unfold exT
 rw[if_pos hl,linesO_unl L h]
 unfold outT
 rw[outP_all]
 unfold tailT
 simp
theorem exT_cmpl (l:List UInt8) (hl:l.length≤600):exT (cmpl l)=exT l:=by
 obtain⟨z,hz,_⟩:=cmpl_part l
 have hc:(cmpl l).length≤600:=by
  have:=congrArg List.length hz
  rw[List.length_append] at this;omega
 unfold exT
 rw[if_pos hc,if_pos hl]
 unfold cmpl
 rw[linesO_unl _ (linesO_free l)]
theorem exT_body (l:List UInt8) (hl:(cmpl l).length≤600):exT (cmpl l)=unl ((linesO l).map ansL)++(tailT (linesO l).length++[10]):=exT_unl _ (linesO_free l) hl
theorem exT_join (l m:List UInt8) (hl:(cmpl l).length+(cmpl m).length≤600) :
 exT (cmpl l++cmpl m)=unl ((linesO l).map ansL)++unl ((linesO m).map ansL)++(tailT ((linesO l).length+(linesO m).length)++[10]):=by
 have e:cmpl l++cmpl m=unl (linesO l++linesO m):=(unl_append _ _).symm
 rw[e,exT_unl _ (fun x hx=>by
  rcases List.mem_append.1 hx with h | h
  ·exact linesO_free l x h
  ·exact linesO_free m x h) (by rw[←e,List.length_append];exact hl),List.map_append,unl_append,List.length_append]
theorem exT_more (l x:List UInt8) (hx:(10:UInt8)∉x) (hl:(cmpl l).length+(x.length+1)≤600) :
 exT (cmpl l++(x++[10]))=unl ((linesO l).map ansL)++(ansL x++[10])++(tailT ((linesO l).length+1)++[10]):=by
 have e:cmpl l++(x++[10])=unl (linesO l++[x]):=by rw[unl_append];simp[unl,cmpl]
 rw[e,exT_unl _ (fun y hy=>by
  rcases List.mem_append.1 hy with h | h
  ·exact linesO_free l y h
  ·rw[List.mem_singleton.1 h];exact hx) (by rw[←e];simp;omega),List.map_append,unl_append,List.length_append]
 simp[unl]
theorem exT_what (l:List UInt8) (hl:(cmpl l).length≤596) :
 exT (cmpl l++[122,122,122,10])=unl ((linesO l).map ansL)++[119,104,97,116,10]++(tailT ((linesO l).length+1)++[10]) :=
 exT_more l [122,122,122] (by decide) (by simp;omega)
theorem exT_no (l:List UInt8) (hl:(cmpl l).length≤591) :
 exT (cmpl l++[103,114,111,117,110,100,32,48,10])=unl ((linesO l).map ansL)++[110,111,10]++(tailT ((linesO l).length+1)++[10]):=by
 have h:=exT_more l [103,114,111,117,110,100,32,48] (by decide) (by simp;omega)
 have e:ansL [103,114,111,117,110,100,32,48]=[110,111]:=by decide +kernel
 rw[e] at h
 exact h
theorem exT_nil:exT []=[108,105,110,101,115,32,48,10]:=by decide +kernel
theorem exT_long (l:List UInt8) (hl:¬l.length≤600):exT l=[116,111,111,32,108,111,110,103,10]:=by unfold exT;rw[if_neg hl]
theorem exT_size (l:List UInt8):1≤(exT l).length∧(exT l).length≤10000000:=by
 unfold exT
 split
 ·rename_i hl
  have h1:=outP_len ((linesO l).map ansL) (ansL_at (linesO l)) (linesO l).length
  have h2:=spl_len 10 l
  have h3:(linesO l).length≤l.length:=by unfold linesO;rw[List.length_dropLast];omega
  have h4:=dig_len7 (n:=(linesO l).length) (by omega)
  unfold outT linesT
  simp only[List.length_append,List.length_cons,List.length_nil]
  omega
 ·simp
theorem cmpl_len (l:List UInt8):(cmpl l).length≤l.length:=by
 obtain⟨z,hz,_⟩:=cmpl_part l
 have:=congrArg List.length hz
 rw[List.length_append] at this;omega
end
end Go.Proofs.YtcjebnffpbnljaaGreatDoor