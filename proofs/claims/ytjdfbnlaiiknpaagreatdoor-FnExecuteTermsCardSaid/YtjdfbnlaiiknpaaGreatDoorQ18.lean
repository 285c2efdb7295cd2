/- Parts of the proof of : Tca. -/
import Derived.Test.YtjdfbnlaiiknpaaGreatDoorQ15
import Derived.Test.YtjdfbnlaiiknpaaGreatDoorQ17
set_option maxHeartbeats 20000000
set_option maxRecDepth 1000000
set_option linter.unusedSimpArgs false
set_option linter.unusedVariables false
namespace Go.Proofs.YtjdfbnlaiiknpaaGreatDoor
section
section
open Go.RowKit
def cpRow (a b:T2) (i k:Nat):List T2:=(List.range k).map fun j:Nat=>(a.1+b.1-2*(i:Int),a.2+b.2-(j:Int))
def cpM (a b:T2):Nat:=(2*min a.2 b.2).toNat+1
def cpS (a b:T2) (q:Nat):List T2:=(List.range q).flatMap fun i=>cpRow a b i (cpM a b)
def cplT (a b:T2):List T2:=cpS a b ((min a.1 b.1).toNat+1)
def cpUp (a b:T2) (i k:Nat):List T2:=(List.range k).map fun j:Nat=>(((a.1-b.1).natAbs:Int)+2*(i:Int),((a.2-b.2).natAbs:Int)+(j:Int))
def cpI (a b:T2) (q:Nat):List T2:=(List.range q).flatMap fun i=>cpUp a b i (cpM a b)
def cpOk (a b:T2):Bool:=tvB a && (tvB b && (decide (a.1+b.1≤8) && decide (a.2+b.2≤8)))
theorem cpOk_iff {a b:T2}:cpOk a b=true↔tvB a=true∧tvB b=true∧a.1+b.1≤8∧a.2+b.2≤8:=by simp [cpOk]
theorem cpRow_len (a b:T2) (i k:Nat):(cpRow a b i k).length=k:=by simp [cpRow]
theorem cpUp_len (a b:T2) (i k:Nat):(cpUp a b i k).length=k:=by simp [cpUp]
theorem cpRow_succ (a b:T2) (i k:Nat):cpRow a b i (k+1)=cpRow a b i k++[(a.1+b.1-2*(i:Int),a.2+b.2-(k:Int))]:=by simp [cpRow,List.range_succ]
theorem cpUp_succ (a b:T2) (i k:Nat):cpUp a b i (k+1)=cpUp a b i k++[(((a.1-b.1).natAbs:Int)+2*(i:Int),((a.2-b.2).natAbs:Int)+(k:Int))]:=by simp [cpUp,List.range_succ]
theorem cpS_succ (a b:T2) (q:Nat):cpS a b (q+1)=cpS a b q++cpRow a b q (cpM a b):=by simp [cpS,List.range_succ]
theorem cpI_succ (a b:T2) (q:Nat):cpI a b (q+1)=cpI a b q++cpUp a b q (cpM a b):=by simp [cpI,List.range_succ]
theorem cpS_len (a b:T2) (q:Nat):(cpS a b q).length=q*cpM a b:=by
 induction q with
 | zero=>simp [cpS]
 | succ q ih=>rw [cpS_succ,List.length_append,ih,cpRow_len,Nat.succ_mul]
theorem cpI_len (a b:T2) (q:Nat):(cpI a b q).length=q*cpM a b:=by
 induction q with
 | zero=>simp [cpI]
 | succ q ih=>rw [cpI_succ,List.length_append,ih,cpUp_len,Nat.succ_mul]
theorem cpM_le {a b:T2} (h:cpOk a b=true):1≤cpM a b∧cpM a b≤9:=by
 have h:=cpOk_iff.1 h
 have h1:=tvB_iff.1 h.1
 have h2:=tvB_iff.1 h.2.1
 unfold cpM;omega
theorem cpL_le {a b:T2} (h:cpOk a b=true) {q:Nat} (hq:q≤(min a.1 b.1).toNat+1):q*cpM a b≤45:=by
 have hm:=cpM_le h
 have h:=cpOk_iff.1 h
 have h1:=tvB_iff.1 h.1
 have h2:=tvB_iff.1 h.2.1
 have hq5:q≤5:=by omega
 calc q*cpM a b≤5*9:=Nat.mul_le_mul hq5 hm.2
  _=45:=rfl
theorem cplT_len {a b:T2} (h:cpOk a b=true):(cplT a b).length≤45:=by
 unfold cplT;rw [cpS_len];exact cpL_le h (Nat.le_refl _)
theorem cplT_srt {a b:T2}:Srt (cplT a b):=by
 unfold Srt cplT cpS
 rw [List.pairwise_flatMap]
 constructor
 ·intro i _
  unfold cpRow
  rw [List.pairwise_map]
  refine List.Pairwise.imp ?_ List.pairwise_lt_range
  intro x y hxy
  rw [ahd_not];simp only;omega
 ·refine List.Pairwise.imp ?_ List.pairwise_lt_range
  intro i j hij x hx y hy
  unfold cpRow at hx hy
  obtain ⟨k,_,rfl⟩:=List.mem_map.1 hx
  obtain ⟨m,_,rfl⟩:=List.mem_map.1 hy
  rw [ahd_not];simp only;omega
theorem cpUp_rev {a b:T2} {i:Nat} (hi:i≤(min a.1 b.1).toNat) (h:cpOk a b=true):cpUp a b i (cpM a b)=(cpRow a b ((min a.1 b.1).toNat-i) (cpM a b)).reverse:=by
 have h:=cpOk_iff.1 h
 have h1:=tvB_iff.1 h.1
 have h2:=tvB_iff.1 h.2.1
 unfold cpUp cpRow
 apply List.ext_getElem
 ·simp
 ·intro k hk1 hk2
  simp only [List.length_map,List.length_range] at hk1
  rw [List.getElem_reverse]
  simp only [List.getElem_map,List.getElem_range,List.length_map,List.length_range]
  have hm:cpM a b=(2*min a.2 b.2).toNat+1:=rfl
  rw [Prod.mk.injEq]
  constructor <;> omega
theorem cpI_perm {a b:T2} (h:cpOk a b=true):(cpI a b ((min a.1 b.1).toNat+1)).Perm (cplT a b):=by
 have key:∀q,q≤(min a.1 b.1).toNat+1→(cpI a b q).Perm (((List.range q).map fun i=>(min a.1 b.1).toNat-i).flatMap fun i=>cpRow a b i (cpM a b)):=by
  intro q
  induction q with
  | zero=>intro _;simp [cpI]
  | succ q ih =>
   intro hq
   rw [cpI_succ,List.range_succ,List.map_append,List.flatMap_append]
   refine List.Perm.append (ih (by omega)) ?_
   rw [cpUp_rev (by omega) h]
   simp only [List.map_cons,List.map_nil,List.flatMap_cons,List.flatMap_nil,List.append_nil]
   exact List.reverse_perm _
 refine (key _ (Nat.le_refl _)).trans ?_
 unfold cplT cpS
 have hp:((List.range ((min a.1 b.1).toNat+1)).map fun i=>(min a.1 b.1).toNat-i).Perm (List.range ((min a.1 b.1).toNat+1)):=by
  have e:((List.range ((min a.1 b.1).toNat+1)).map fun i=>(min a.1 b.1).toNat-i)=(List.range ((min a.1 b.1).toNat+1)).reverse:=by
   apply List.ext_getElem
   ·simp
   ·intro k hk1 hk2
    rw [List.getElem_reverse]
    simp only [List.getElem_map,List.getElem_range,List.length_range]
    omega
  rw [e]
  exact List.reverse_perm _
 exact hp.flatMap_right _
def srtT (l:List T2):List T2:=l.mergeSort fun x y=>!ahd y x
theorem srtT_perm (l:List T2):(srtT l).Perm l:=List.mergeSort_perm _ _
theorem srtT_srt (l:List T2):Srt (srtT l):=by
 have:=List.pairwise_mergeSort (le:=fun x y:T2=>!ahd y x) (fun x y z h1 h2=>by
  simp only [Bool.not_eq_true'] at *
  exact nah_trans h1 h2) (fun x y=>by
  simp only [Bool.or_eq_true,Bool.not_eq_true']
  cases h:ahd y x
  ·exact .inl rfl
  ·exact .inr (ahd_nah h)) l
 unfold Srt srtT
 refine this.imp ?_
 intro x y h
 simpa using h
theorem srtT_eq {l z:List T2} (hs:Srt z) (hp:z.Perm l):z=srtT l:=srt_unique hs (srtT_srt l) (hp.trans (srtT_perm l).symm)
theorem srtT_cpl {a b:T2} (h:cpOk a b=true):srtT (cpI a b ((min a.1 b.1).toNat+1))=cplT a b:=(srtT_eq cplT_srt (cpI_perm h).symm).symm
def vldT (ts:List T2):Bool:=decide (ts.length≤400) && ts.all tvB
def jPairs (A B:List T2):List (T2 × T2):=A.flatMap fun s=>B.map fun t=>(s,t)
def jGo:List (T2 × T2)→List T2→List T2 × Bool
 | [],acc=>(srtT acc,true)
 | p :: r,acc=>if cpOk p.1 p.2=true∧acc.length+(cplT p.1 p.2).length≤400 then jGo r (acc++cplT p.1 p.2) else ([],false)
def joinT (A B:List T2):List T2 × Bool:=if vldT A=true∧vldT B=true then jGo (jPairs A B) [] else ([],false)
def jRem (A B:List T2) (k m:Nat):List (T2 × T2):=((B.drop m).map fun t=>(gT A k,t))++jPairs (A.drop (k+1)) B
theorem jRem_start {A B:List T2} {k:Nat} (h:k<A.length):jPairs (A.drop k) B=jRem A B k 0:=by
 unfold jRem jPairs
 rw [List.drop_eq_getElem_cons h,List.flatMap_cons,List.drop_zero,gT_lt h]
theorem jRem_step {A B:List T2} {k m:Nat} (h:m<B.length):jRem A B k m=(gT A k,gT B m) :: jRem A B k (m+1):=by
 unfold jRem
 rw [List.drop_eq_getElem_cons h,List.map_cons,List.cons_append,gT_lt h]
theorem jRem_end {A B:List T2} {k m:Nat} (h:B.length≤m):jRem A B k m=jPairs (A.drop (k+1)) B:=by
 unfold jRem
 rw [List.drop_of_length_le h];rfl
theorem jPairs_end {A B:List T2} {k:Nat} (h:A.length≤k):jPairs (A.drop k) B=[]:=by
 rw [List.drop_of_length_le h];rfl
theorem jGo_len:∀(ps:List (T2 × T2)) (acc:List T2),acc.length≤400→(jGo ps acc).1.length≤400
 | [],acc,h=>by unfold jGo;rw [(srtT_perm acc).length_eq];exact h
 | p :: r,acc,h=>by
  unfold jGo
  split
  ·rename_i hc
   exact jGo_len r _ (by rw [List.length_append];exact hc.2)
  ·simp
theorem joinT_len (A B:List T2):(joinT A B).1.length≤400:=by
 unfold joinT;split
 ·exact jGo_len _ _ (by simp)
 ·simp
theorem cplT_valid {a b:T2} (h:cpOk a b=true):∀t∈cplT a b,tvB t=true:=by
 intro t ht
 have h:=cpOk_iff.1 h
 have h1:=tvB_iff.1 h.1
 have h2:=tvB_iff.1 h.2.1
 unfold cplT cpS at ht
 obtain ⟨i,hi,ht⟩:=List.mem_flatMap.1 ht
 unfold cpRow at ht
 obtain ⟨j,hj,rfl⟩:=List.mem_map.1 ht
 rw [List.mem_range] at hi hj
 unfold cpM at hj
 rw [tvB_iff];simp only;omega
theorem jGo_valid:∀(ps:List (T2 × T2)) (acc:List T2),(∀t∈acc,tvB t=true)→∀t∈(jGo ps acc).1,tvB t=true
 | [],acc,h=>by unfold jGo;intro t ht;exact h t ((srtT_perm acc).mem_iff.1 ht)
 | p :: r,acc,h=>by
  unfold jGo
  split
  ·rename_i hc
   refine jGo_valid r _ ?_
   intro t ht
   rcases List.mem_append.1 ht with ht | ht
   ·exact h t ht
   ·exact cplT_valid hc.1 t ht
  ·simp
theorem joinT_valid (A B:List T2):∀t∈(joinT A B).1,tvB t=true:=by
 unfold joinT;split
 ·exact jGo_valid _ _ (by simp)
 ·simp
end
section
open Go.RowKit
theorem cpl_at {a b:Int} {k:Nat} {x:Int} (h:(cpl a b)[k]?=some x):x=((a-b).natAbs:Int)+2*(k:Int)∧k<(min a b).toNat+1:=by
 unfold cpl cplTo at h
 rw [List.getElem?_map] at h
 obtain ⟨i,hi,rfl⟩:=Option.map_eq_some_iff.1 h
 obtain ⟨h1,h2⟩:=List.getElem?_eq_some_iff.1 hi
 rw [List.length_range] at h1
 rw [List.getElem_range] at h2
 subst h2
 exact ⟨rfl,h1⟩
theorem cpUp_more (a b:T2) (q m:Nat):cpI a b q++cpUp a b q (m+1)=(cpI a b q++cpUp a b q m)++[(((a.1-b.1).natAbs:Int)+2*(q:Int),((a.2-b.2).natAbs:Int)+(m:Int))]:=by
 rw [cpUp_succ,List.append_assoc]
theorem cpRow_more (a b:T2) (q m:Nat):cpS a b q++cpRow a b q (m+1)=(cpS a b q++cpRow a b q m)++[(a.1+b.1-2*(q:Int),a.2+b.2-(m:Int))]:=by
 rw [cpRow_succ,List.append_assoc]
theorem cpIn_le {a b:T2} (h:cpOk a b=true) {q m:Nat} (hq:q≤(min a.1 b.1).toNat) (hm:m≤cpM a b):q*cpM a b+m≤45:=by
 have:=cpL_le h (q:=q+1) (by omega)
 rw [Nat.succ_mul] at this
 omega
theorem srt_ins {ts:List T2} {k i:Nat} (hk:k<ts.length) (hi:i≤k) (h1:0<i→ahd (gT ts k) (gT (srtT (ts.take k)) (i-1))=false) (h2:i<k→ahd (gT ts k) (gT (srtT (ts.take k)) i)=true) :
 srtT (ts.take (k+1))=(srtT (ts.take k)).take i++gT ts k :: (srtT (ts.take k)).drop i:=by
 have hl:(srtT (ts.take k)).length=k:=by rw [(srtT_perm _).length_eq,List.length_take];omega
 obtain ⟨hs,hp⟩:=mrg_last (srtT_srt (ts.take k)) (v:=gT ts k) (i:=i) (by omega) h1 (by rw [hl];exact h2)
 refine (srtT_eq hs ?_).symm
 refine hp.trans ?_
 rw [List.take_succ_eq_append_getElem hk,gT_lt hk]
 exact (srtT_perm _).append_right _
theorem srtT_len (ts:List T2):(srtT ts).length=ts.length:=(srtT_perm ts).length_eq
theorem srtT_nil:srtT []=[]:=List.eq_nil_of_length_eq_zero (srtT_len [])
theorem jGo_ok {p:T2 × T2} {r:List (T2 × T2)} {acc:List T2} (h1:cpOk p.1 p.2=true) (h2:acc.length+(cplT p.1 p.2).length≤400):jGo (p :: r) acc=jGo r (acc++cplT p.1 p.2):=by
 rw [jGo,if_pos ⟨h1,h2⟩]
theorem jGo_bad {p:T2 × T2} {r:List (T2 × T2)} {acc:List T2} (h:¬(cpOk p.1 p.2=true∧acc.length+(cplT p.1 p.2).length≤400)):jGo (p :: r) acc=([],false):=by
 rw [jGo,if_neg h]
theorem vldT_iff {ts:List T2}:vldT ts=true↔ts.length≤400∧ts.all tvB=true:=by simp [vldT]
theorem joinT_at {A B:List T2} (h1:vldT A=true) (h2:vldT B=true):joinT A B=jGo (jPairs (A.drop 0) B) []:=by
 unfold joinT
 rw [if_pos ⟨h1,h2⟩,List.drop_zero]
theorem joinT_no {A B:List T2} (h:¬(vldT A=true∧vldT B=true)):joinT A B=([],false):=by
 unfold joinT
 rw [if_neg h]
theorem jGo_nil (acc:List T2):jGo [] acc=(srtT acc,true):=rfl
theorem tcells_app (a b:List T2):tcells (a++b)=tcells a++tcells b:=by simp [tcells]
end
section
open Go.RowKit Go.Sort
attribute [local go_sem ↓] Go.wp_at_zero Go.wp_at_succ
def wt1 (t:T2):Int:=(t.1+1)*(2*t.2+1)
def wtSum (ts:List T2):Int:=(ts.map wt1).sum
def wtS (ts:List T2):Int:=if ts.all tvB then wtSum ts else -1
theorem wtSum_snoc (ts:List T2) (t:T2):wtSum (ts++[t])=wtSum ts+wt1 t:=by simp [wtSum]
theorem valid_cases {t:T2} (h:tvB t=true):∃a b:Fin 9,t=((a.val:Int),(b.val:Int)):=by
 have h2:=tvB_iff.1 h
 obtain ⟨s,l⟩:=t
 simp only at h2
 obtain ⟨⟨s0,s1⟩,l0,l1⟩:=h2
 obtain ⟨s,rfl⟩:=Int.eq_ofNat_of_zero_le s0
 obtain ⟨l,rfl⟩:=Int.eq_ofNat_of_zero_le l0
 exact ⟨⟨s,by omega⟩,⟨l,by omega⟩,rfl⟩
theorem wt1_bd {t:T2} (h:tvB t=true):0≤wt1 t∧wt1 t≤153:=by
 obtain ⟨a,b,rfl⟩:=valid_cases h
 have:∀a b:Fin 9,0≤wt1 ((a.val:Int),(b.val:Int))∧wt1 ((a.val:Int),(b.val:Int))≤153:=by decide +kernel
 exact this a b
theorem wtSum_bd (ts:List T2) (h:ts.all tvB=true):0≤wtSum ts∧wtSum ts≤ts.length*153:=by
 induction ts with
 | nil=>simp [wtSum]
 | cons t ts ih =>
  simp only [List.all_cons,Bool.and_eq_true] at h
  have h1:=ih h.2
  have h2:=wt1_bd h.1
  simp only [wtSum,List.map_cons,List.sum_cons,List.length_cons] at h1 ⊢
  omega
theorem all_bad (ts:List T2) (k:Nat) (t:T2) (h:ts[k]?=some t) (hv:tvB t=false):ts.all tvB=false:=by
 rw [Bool.eq_false_iff]
 intro hall
 have:=List.all_eq_true.1 hall t (List.mem_of_getElem? h)
 rw [hv] at this;cases this
theorem implTermWeight_any (t:T2) (w:World) (hv:tvB t=true) :
 Calls Tryz.prog 119 #[.agg #[.int .i64 t.1,.int .i64 t.2]] w fun e w'=>e=.returned (.int .i64 (wt1 t))∧Below w.heap.size w w':=by
 have HQ:=Lib.hid (fun W=>implTermValid_any t W)
 obtain ⟨s,l⟩:=t
 have hv2:=tvB_iff.1 hv
 simp only at hv2
 obtain ⟨⟨s0,s1⟩,l0,l1⟩:=hv2
 have HV:=Lib.hid hv;clear hv
 have HB:=Lib.hid ((Below.refl w.heap.size w).alloc (Nat.le_refl _) (.cells #[.int .i64 s,.int .i64 l] 39))
 have HD:=Lib.hid (Blk.new w 39 #[.int .i64 s,.int .i64 l])
 have hs:s=0∨s=1∨s=2∨s=3∨s=4∨s=5∨s=6∨s=7∨s=8:=by omega
 rcases hs with rfl | rfl | rfl | rfl | rfl | rfl | rfl | rfl | rfl
 all_goals
  go_enter Tryz.func119,Tryz.ntmps119
  go_wp2_with fail
  refine (HQ.out _).mono ?_
  rintro e w2 ⟨rfl,hb2⟩
  rw [HV.out]
  have HB2:=Lib.hid (HB.out.trans (hb2.mono HB.out.size))
  obtain ⟨d1,d2,_,_⟩:=blk2 (HD.out.sub hb2)
  clear hb2
  go_wp2_with fail
  go_ret
  exact ⟨ret_int (by unfold wt1;simp),HB2.out⟩
theorem implTermsWeight_any (A:Option Addr) (n c:Nat) (ts:List T2) (w:World) (hn:n≤1048576) (hts:ts.length=n) (hr:Reads w w.heap.size 2 A n (tcells ts)) :
 Calls Tryz.prog 71 #[.slice A n c] w fun e w'=>e=.returned (.int .i64 (wtS ts))∧Below w.heap.size w w':=by
 have HR:=Lib.hid hr;clear hr
 have HT:=Lib.hid hts;clear hts
 have hB0:=Below.refl w.heap.size w
 go_enter Tryz.func71,Tryz.ntmps71
 go_wp2_with fail
 go_loopw [3,8] (fun v i wr=>∃(k:Nat),k≤n∧i=.int .i64 k∧v=.int .i64 (wtSum (ts.take k))∧(ts.take k).all tvB=true∧Below w.heap.size w wr) (fun _ i _=>n-(intOf i).toNat)
 case atStart=>exact ⟨0,Nat.zero_le _,rfl,rfl,rfl,hB0⟩
 case round =>
  clear hB0
  obtain ⟨k,hk,rfl,rfl,hall,hB⟩:=hrel
  have hc:=wtSum_bd (ts.take k) hall
  have HA:=Lib.hid hall;clear hall
  have HB:=Lib.hid hB;clear hB
  have hlk:(ts.take k).length≤k:=List.length_take_le _ _
  have hc1:=hc.1
  have hc2:wtSum (ts.take k)≤1000000000:=by have:=hc.2;omega
  clear hc
  by_cases hlt:k<n
  ·obtain ⟨b,off,x,y,rfl,hb,h1,h2,H3,H4⟩:=(HR.out.below HB.out).term hlt
   have HC:=Lib.hid (wtSum_snoc (ts.take k) (x,y))
   have HQ:=Lib.hid (fun W=>implTermValid_any (x,y) W)
   have HZ:=Lib.hid (HB.out.alloc HB.out.size (.cells #[.int .i64 x,.int .i64 y] 39))
   have HD:=Lib.hid (Blk.new wr 39 #[.int .i64 x,.int .i64 y])
   generalize wtSum (ts.take k)=q at *
   cases hv:tvB (x,y)
   ·have HV:=Lib.hid (all_bad ts k (x,y) H3.out hv);rw [hv] at HQ;clear hv
    go_wp2_with fail
    refine (HQ.out _).mono ?_
    rintro e w2 ⟨rfl,hb2⟩
    have HB2:=Lib.hid (HZ.out.trans (hb2.mono HZ.out.size));clear hb2
    go_wp2_with fail
    go_ret
    exact ⟨ret_int (by unfold wtS;rw [HV.out];rfl),HB2.out⟩
   ·have HW:=Lib.hid (fun W=>implTermWeight_any (x,y) W hv)
    have hw1:=wt1_bd hv
    have HV:=Lib.hid hv;rw [hv] at HQ;clear hv
    generalize wt1 (x,y)=z at *
    go_wp2_with fail
    refine (HQ.out _).mono ?_
    rintro e w2 ⟨rfl,hb2⟩
    have HB2:=Lib.hid (HZ.out.trans (hb2.mono HZ.out.size))
    obtain ⟨d1,d2,_,_⟩:=blk2 (HD.out.sub hb2)
    clear hb2 h1 h2
    go_wp2_with fail
    refine (HW.out _).mono ?_
    rintro e w3 ⟨rfl,hb3⟩
    have HB3:=Lib.hid (HB2.out.trans (hb3.mono HB2.out.size))
    clear hb3
    go_wp2_with fail
    go_roundw
    case rel=>exact ⟨k+1,by omega,by go_num,by rw [H4.out,HC.out],by rw [H4.out,List.all_append,HA.out];simp [HV.out],HB3.out⟩
    case measure=>simp [intOf];omega
  ·go_wp2_with fail
   go_ret
   have hkn:k=n:=by omega
   subst hkn
   have HX:=Lib.hid (show ts.take k=ts from List.take_of_length_le (by rw [HT.out];exact Nat.le_refl _))
   rw [HX.out] at HA
   exact ⟨ret_int (by unfold wtS;rw [HA.out,HX.out];rfl),HB.out⟩
theorem tcells_one (ts:List T2):∀u∈tcells ts,u.oneCell'=true:=by
 intro u hu
 simp only [tcells,List.mem_flatMap] at hu
 obtain ⟨t,_,h⟩:=hu
 simp at h
 rcases h with rfl | rfl <;> rfl
theorem filled_own {w:World} {base:Nat} {e:TypeId} {size n c g:Nat} {xs:List Value} (h:w.ownsRow base e size (.slice (some ⟨g,0,none⟩) n c) n xs):∃cur,Blk w g e cur∧Filled cur xs∧base≤g:=by
 rcases h.2 with ⟨hv,_⟩ | ⟨g',cap,cur,hv,hb,hh,_,_,_,ht⟩
 ·cases hv
 ·injection hv with h1
  injection h1 with h1
  injection h1 with h1
  subst h1
  refine ⟨cur,hh,fun j u hu=>?_,hb⟩
  rw [←ht] at hu
  rw [List.getElem?_take] at hu
  split at hu
  ·simpa using hu
  ·cases hu
theorem rowT_filled {w:World} {g:Nat} {e:TypeId} {cur:Array Value} {ts:List T2} (hb:Blk w g e cur) (hf:Filled cur (tcells ts)):RowT w g ts:=by
 refine ⟨hb.lt,fun k hk=>?_⟩
 obtain ⟨c1,c2⟩:=tcells_at ts k hk
 rw [gT_lt hk]
 exact ⟨(hb.cell _).trans (hf _ _ c1),(hb.cell _).trans (hf _ _ c2),hb.frozen _,hb.frozen _⟩
theorem rowT_reads {w:World} {g:Nat} {ts:List T2} (h:RowT w g ts):Reads w w.heap.size 2 (some ⟨g,0,none⟩) ts.length (tcells ts):=by
 refine ⟨by rw [tcells_len],fun _=>⟨g,0,rfl,h.1,fun j u hu=>?_⟩⟩
 have hj:j<ts.length*2:=by
  rcases Nat.lt_or_ge j (ts.length*2) with h | h
  ·exact h
  ·rw [List.getElem?_eq_none (by rw [tcells_len];exact h)] at hu;cases hu
 have hjn:j / 2<ts.length:=by omega
 obtain ⟨c1,c2⟩:=tcells_at ts (j / 2) hjn
 obtain ⟨r1,r2,_,_⟩:=h.2 (j / 2) hjn
 rw [gT_lt hjn] at r1 r2
 have h3:j % 2=0∨j % 2=1:=by omega
 rcases h3 with h' | h'
 ·have e:j=j / 2*2:=by omega
  rw [←e] at c1 r1
  rw [Nat.zero_add,r1,←c1,hu]
 ·have e:j=j / 2*2+1:=by omega
  rw [←e] at c2 r2
  rw [Nat.zero_add,r2,←c2,hu]
theorem bel_tur {w w1 w2:World} {g:Nat} (hb:Below w.heap.size w w1) (h:Tur w1 w2 g) (hg:w.heap.size≤g):Below w.heap.size w w2:=hb.grown h hb.size (fun k e=>by cases e;exact hg)
theorem sortStable_any (g n c:Nat) (ts:List T2) (w:World) (hl:ts.length=n) (hn:n≤100000) (hr:RowT w g ts) :
 Calls Tryz.prog 73 #[.slice (some ⟨g,0,none⟩) n c,cmpFn] w fun e w' =>
  e=.returned (.tuple #[])∧RowT w' g (srtT ts)∧Tur w w' g:=by
 have HI:=Lib.hid (stable_any g n c ts w hn hl hr)
 clear hr hl
 unfold cmpFn at *
 go_enter Tryz.func73,Tryz.ntmps73
 go_wp2_with fail
 refine HI.out.mono ?_
 rintro e w1 ⟨rfl,Z,hp,hs,hr,ht⟩
 have HR:=Lib.hid (srtT_eq hs hp ▸ hr)
 have HT:=Lib.hid ht
 clear hp hs hr ht
 go_wp2_with fail
 go_end0
 exact ⟨rfl,HR.out,HT.out⟩
def OrdPost (ts:List T2) (w:World) (e:Ending) (w':World):Prop:=∃(g c':Nat),e=.returned (.slice (some ⟨g,0,none⟩) (srtT ts).length c')∧Reads w' w'.heap.size 2 (some ⟨g,0,none⟩) (srtT ts).length (tcells (srtT ts))∧Below w.heap.size w w'
theorem ordered_any (A:Option Addr) (n c:Nat) (ts:List T2) (w:World) (hn:n≤100000) (hts:ts.length=n) (hr:Reads w w.heap.size 2 A n (tcells ts)) :
 Calls Tryz.prog 41 #[.slice A n c,cmpFn] w (OrdPost ts w):=by
 obtain ⟨cs,hcs,hmk⟩:=run_mk0 elTerm n (by omega) (by omega)
 have HO:=Lib.hid (World.ownsRow_made (base:=w.heap.size) (e:=39) (size:=2) w cs n (Nat.le_refl _) (by unfold maxLen;omega) hcs)
 have HB1:=Lib.hid ((Below.refl w.heap.size w).alloc (Nat.le_refl _) (.cells cs 39));clear hcs
 have HR:=Lib.hid (hr.keep (w':=w.alloc (.cells cs 39)) fun p hp=>World.cell?_alloc_lt w _ p hp);clear hr
 have HT:=Lib.hid hts;clear hts
 unfold cmpFn
 go_enter Tryz.func41,Tryz.ntmps41
 go_wp2_with (at_builtin;refine wpList_appR2 _ rfl (.tmp 8) (.tmp 9) _ rfl w.heap.size 39 2 16 elTerm _ n 0 [] rfl HO.out w.heap.size A n c (tcells ts) rfl HR.out (tcells_one ts) n (Nat.zero_add n).symm (by omega) (by omega) (by simp) ?_)
 clear hmk
 intro A' c' w1 hown hc hb _ g hA
 subst hA
 obtain ⟨cur,hblk,hfil,hg⟩:=filled_own hown
 have HS:=Lib.hid (sortStable_any g n c' ts w1 HT.out hn (rowT_filled hblk hfil))
 unfold cmpFn at HS
 have HB2:=Lib.hid (HB1.out.trans hb)
 have HGG:=Lib.hid hg
 clear hown hblk hfil hb hg
 go_wp2_with fail
 refine HS.out.mono ?_
 rintro e w2 ⟨rfl,hr2,ht2⟩
 have HR2:=Lib.hid (rowT_reads hr2)
 have HB3:=Lib.hid (bel_tur HB2.out ht2 HGG.out)
 have HLL:Hid ((srtT ts).length=n):=by unfold Hid;rw [(srtT_perm ts).length_eq];exact HT.out
 clear hr2 ht2
 go_wp2_with fail
 go_ret
 exact ⟨g,c',by rw [HLL.out];rfl,HR2.out,HB3.out⟩
theorem termListValid_any (A:Option Addr) (n c:Nat) (ts:List T2) (w:World) (hn:n≤100000) (hts:ts.length=n) (hr:Reads w w.heap.size 2 A n (tcells ts)) :
 Calls Tryz.prog 39 #[.slice A n c] w fun e w'=>e=.returned (.bool (vldT ts))∧Below w.heap.size w w':=by
 have hv:vldT ts=(decide (n≤400) && ts.all tvB):=by unfold vldT;rw [hts]
 have HV:=Lib.hid hv;clear hv
 have HBR:=Lib.hid (Below.refl w.heap.size w)
 by_cases h4:n≤400
 ·have HW:=Lib.hid (implTermsWeight_any A n c ts w (by omega) hts hr)
  have hws:0≤wtS ts↔ts.all tvB=true:=by
   unfold wtS
   split
   ·rename_i h
    have:=(wtSum_bd ts h).1
    constructor <;> intro _ <;> assumption
   ·rename_i h
    constructor
    ·intro h';omega
    ·intro h';exact absurd h' h
  have HWS:=Lib.hid hws
  clear hr hts hws
  generalize wtS ts=q at *
  have i1:(n:Int)≤400:=by omega
  go_enter Tryz.func39,Tryz.ntmps39
  go_wp2_with fail
  refine HW.out.mono ?_
  rintro e w1 ⟨rfl,hb1⟩
  have HB:=Lib.hid hb1;clear hb1
  go_wp2_with fail
  go_ret
  refine ⟨ret_bool ?_,HB.out⟩
  rw [HV.out,decide_eq_true h4,Bool.true_and,Bool.eq_iff_iff,←HWS.out];simp
 ·have i1:¬((n:Int)≤400):=by omega
  clear hr hts
  go_enter Tryz.func39,Tryz.ntmps39
  go_wp2_with fail
  go_ret
  exact ⟨ret_bool (by rw [HV.out,decide_eq_false h4];rfl),HBR.out⟩
end
section
open Go.RowKit Go.Sort
attribute [local go_sem ↓] Go.wp_at_zero Go.wp_at_succ
def cpR (a b:T2):List T2:=if cpOk a b=true then cplT a b else []
def CplPost (a b:T2) (w:World) (e:Ending) (w':World):Prop :=
 (∃A c,e=.returned (.tuple #[.slice A (cpR a b).length c,.bool (cpOk a b)])∧Reads w' w'.heap.size 2 A (cpR a b).length (tcells (cpR a b)))∧Below w.heap.size w w'
theorem int_ne_term:3≠39:=by decide
theorem implCouple_yes (a b:T2) (w:World) (h:cpOk a b=true) :
 Calls Tryz.prog 40 #[.agg #[.int .i64 a.1,.int .i64 a.2],.agg #[.int .i64 b.1,.int .i64 b.2]] w fun e w' =>
  (∃A c,e=.returned (.tuple #[.slice A (cplT a b).length c,.bool true])∧Reads w' w'.heap.size 2 A (cplT a b).length (tcells (cplT a b)))∧Below w.heap.size w w':=by
 have hk:=cpOk_iff.1 h
 have HVA:=Lib.hid (fun W=>implTermValid_any a W)
 have HVB:=Lib.hid (fun W=>implTermValid_any b W)
 rw [hk.1] at HVA
 rw [hk.2.1] at HVB
 have ha:=tvB_iff.1 hk.1
 have hb:=tvB_iff.1 hk.2.1
 have h1:=hk.2.2.1
 have h2:=hk.2.2.2
 have HSL:=Lib.hid (srtT_cpl h)
 have hM:=cpM_le h
 have HIN:=Lib.hid (fun q m hq hm=>cpIn_le h (q:=q) (m:=m) hq hm)
 have HLI:=Lib.hid (fun q=>cpI_len a b q)
 have HSU:=Lib.hid (fun q=>cpI_succ a b q)
 have HMO:=Lib.hid (fun q m=>cpUp_more a b q m)
 have hMM:cpM a b=(2*min a.2 b.2).toNat+1:=rfl
 clear hk h
 obtain ⟨C,hC⟩:∃C,cpI a b=C:=⟨_,rfl⟩
 obtain ⟨U,hU⟩:∃U,cpUp a b=U:=⟨_,rfl⟩
 obtain ⟨M,hMe⟩:∃M,cpM a b=M:=⟨_,rfl⟩
 obtain ⟨Z,hZ⟩:∃Z,cplT a b=Z:=⟨_,rfl⟩
 have hC0:C 0=[]:=by rw [←hC];rfl
 have hU0:∀q,U q 0=[]:=fun q=>by rw [←hU];rfl
 rw [hC,hZ] at HSL
 rw [hC] at HLI HSU HMO
 rw [hU] at HSU HMO
 rw [hMe] at hM HIN HLI HSU hMM
 have HC0:=Lib.hid hC0
 have HU0:=Lib.hid hU0
 clear hC hU hMe hC0 hU0
 rw [hZ]
 clear hZ
 obtain ⟨a1,a2⟩:=a
 obtain ⟨b1,b2⟩:=b
 simp only at ha hb h1 h2 HVA HVB HIN HMO HSL hMM ⊢
 obtain ⟨N,hN⟩:∃N,(min a1 b1).toNat+1=N:=⟨_,rfl⟩
 rw [hN] at HSL
 obtain ⟨D1,hD1⟩:∃D:Int,((a1-b1).natAbs:Int)=D:=⟨_,rfl⟩
 obtain ⟨D2,hD2⟩:∃D:Int,((a2-b2).natAbs:Int)=D:=⟨_,rfl⟩
 rw [hD1,hD2] at HMO
 have HA1:Hid (∀(k:Nat) (x:Int),(cpl a1 b1)[k]?=some x→x=D1+2*(k:Int)):=fun k x hx=>by have:=cpl_at hx;omega
 have HA2:Hid (∀(k:Nat) (y:Int),(cpl (2*a2) (2*b2))[k]?=some y→y=2*(D2+(k:Int))):=fun k y hy=>by have:=cpl_at hy;omega
 have hl1:(cpl a1 b1).length=N:=by rw [cpl_len,hN]
 have hl2:(cpl (2*a2) (2*b2)).length=M:=by rw [cpl_len];omega
 have hN9:N≤9:=by omega
 have hd1:0≤D1∧D1≤8:=by omega
 have hd2:0≤D2∧D2≤8:=by omega
 have HIN2:Hid (∀q m,q<N→m≤M→q*M+m≤45):=fun q m hq hm=>HIN.out q m (by omega) hm
 have HX0:=Lib.hid ((Blk.new w 39 #[.int .i64 a1,.int .i64 a2]).alloc (.cells #[.int .i64 b1,.int .i64 b2] 39))
 have HY0:=Lib.hid (Blk.new (w.alloc (.cells #[.int .i64 a1,.int .i64 a2] 39)) 39 #[.int .i64 b1,.int .i64 b2])
 have HB0:=Lib.hid (bel_alloc (bel_alloc (Below.refl w.heap.size w) (.cells #[.int .i64 a1,.int .i64 a2] 39)) (.cells #[.int .i64 b1,.int .i64 b2] 39))
 rw [World.size_alloc] at HY0
 have HS1:=Lib.hid (fun W=>implSpinCoupled_any a1 b1 W (by omega) (by omega) (by omega) (by omega) (by omega))
 have HS2:=Lib.hid (fun W=>implSpinCoupled_any (2*a2) (2*b2) W (by omega) (by omega) (by omega) (by omega) (by omega))
 have HOR:=Lib.hid (fun A n c ts W hn hl hr=>ordered_any A n c ts W hn hl hr)
 unfold IntsPost at HS1 HS2
 rw [hl1] at HS1
 rw [hl2] at HS2
 unfold OrdPost cmpFn at HOR
 clear HIN hMM hN hD1 hD2 hl1 hl2
 go_enter Tryz.func40,Tryz.ntmps40
 go_wp2_with fail
 refine (HVA.out _).mono ?_
 rintro e w1 ⟨rfl,hb1⟩
 have HB1:=Lib.hid (bel_sub HB0.out hb1)
 have HX1:=Lib.hid (HX0.out.sub hb1)
 have HY1:=Lib.hid (HY0.out.sub hb1)
 clear hb1 HB0 HX0 HY0 HVA
 obtain ⟨x1,x2,_,_⟩:=blk2 HX1.out
 obtain ⟨y1,y2,_,_⟩:=blk2 HY1.out
 go_wp2_with fail
 refine (HVB.out _).mono ?_
 rintro e w2 ⟨rfl,hb2⟩
 have HB2:=Lib.hid (bel_sub HB1.out hb2)
 have HX2:=Lib.hid (HX1.out.sub hb2)
 have HY2:=Lib.hid (HY1.out.sub hb2)
 clear hb2 HB1 HX1 HY1 HVB x1 x2 y1 y2
 obtain ⟨x1,x2,_,_⟩:=blk2 HX2.out
 obtain ⟨y1,y2,_,_⟩:=blk2 HY2.out
 have g1:¬(8<a1+b1):=by omega
 have g2:¬(8<a2+b2):=by omega
 go_wp2_with fail
 refine (HS1.out _).mono ?_
 rintro e w3 ⟨⟨A1,c1,rfl,ho1⟩,hb3⟩
 have HB3:=Lib.hid (bel_sub HB2.out hb3)
 have HX3:=Lib.hid (HX2.out.sub hb3)
 have HY3:=Lib.hid (HY2.out.sub hb3)
 have HR3:=Lib.hid (own_reads ho1)
 clear hb3 ho1 HB2 HX2 HY2 HS1 x1 x2 y1 y2
 have HO0:Hid (w3.ownsRow w3.heap.size 39 2 (.slice none 0 0) 0 (tcells (C 0))):=by unfold Hid;rw [HC0.out];exact World.ownsRow_nil _ _ _ _
 have HZ0:Hid (0=0*M):=(Nat.zero_mul M).symm
 go_wp2_with fail
 go_loopw [6,8,41] (fun v _ i wr=>∃(q n:Nat) (A:Option Addr) (c:Nat),q≤N∧i=.int .i64 (q:Int)∧v=.slice A n c∧n≤45∧Hid (n=q*M)∧Hid (wr.ownsRow w3.heap.size 39 2 (.slice A n c) n (tcells (C q)))∧Hid (Below w3.heap.size w3 wr)) (fun _ _ i _=>N-(RowKit.intOf i).toNat)
 case atStart=>exact ⟨0,0,none,0,Nat.zero_le _,rfl,rfl,Nat.zero_le _,HZ0.out,HO0.out,Below.refl _ _⟩
 case round =>
  clear HO0 HZ0
  obtain ⟨q,n,A,c,hq,rfl,rfl,hn45,HN,HW,HB⟩:=hrel
  by_cases hlt:q<N
  ·obtain ⟨g,off,x,rfl,hg,r1,H3,_⟩:=(HR3.out.below HB.out).int hlt
   have hx:=HA1.out q x H3.out
   obtain ⟨x1,x2,_,_⟩:=blk2 (HX3.out.sub HB.out)
   obtain ⟨y1,y2,_,_⟩:=blk2 (HY3.out.sub HB.out)
   have HXE:=Lib.hid hx
   clear hx H3
   obtain ⟨wm,rfl⟩:∃wm:World,wm=wr:=⟨_,rfl⟩
   go_wp2_with fail
   refine (HS2.out _).mono ?_
   rintro e w4 ⟨⟨A2,c2,rfl,ho2⟩,hb4⟩
   have HB4:=Lib.hid (HB.out.trans (hb4.mono HB.out.size))
   have HW4:=Lib.hid (own_below HW.out hb4)
   have HI4:=Lib.hid (own_mono ho2 HB.out.size)
   have HW40:Hid (w4.ownsRow w3.heap.size 39 2 (.slice A n c) n (tcells (C q++U q 0))):=by unfold Hid;rw [HU0.out,List.append_nil];exact HW4.out
   have HN0:Hid (n=q*M+0):=HN.out
   clear hb4 ho2 x1 x2 y1 y2 r1 HW HB HW4
   go_wp2_with fail
   go_loopw [6,10,53] (fun v _ i wr=>∃(m n:Nat) (A:Option Addr) (c:Nat),m≤M∧i=.int .i64 (m:Int)∧v=.slice A n c∧n≤45∧Hid (n=q*M+m)∧Hid (wr.ownsRow w3.heap.size 39 2 (.slice A n c) n (tcells (C q++U q m)))∧Hid (wr.ownsRow w3.heap.size 3 1 (.slice A2 M c2) M (icells (cpl (2*a2) (2*b2))))∧Hid (Below w3.heap.size w3 wr)) (fun _ _ i _=>M-(RowKit.intOf i).toNat)
   case atStart=>exact ⟨0,n,A,c,Nat.zero_le _,rfl,rfl,hn45,HN0.out,HW40.out,HI4.out,HB4.out⟩
   case round =>
    clear HW40 HI4 HB4 HN0 hn45 HN
    obtain ⟨m,n,A,c,hm,rfl,rfl,hn45,HN,HW,HI,HB⟩:=hrel
    by_cases hlm:m<M
    ·obtain ⟨g2,off2,y,rfl,hg2,r2,H5,_⟩:=(own_reads HI.out).int hlm
     have hy:=HA2.out m y H5.out
     have hin:=HIN2.out q (m+1) hlt hlm
     have hnn:=HN.out
     have hn46:n+1≤45:=by omega
     have HN1:Hid (n+1=q*M+(m+1)):=by unfold Hid;omega
     have hxe:=HXE.out
     have hsz:=HB.out.size
     have HM1:=Lib.hid (HMO.out q m)
     obtain ⟨z,hz⟩:∃z:Int,D2+(m:Int)=z:=⟨_,rfl⟩
     rw [hz] at HM1 hy
     rw [←hxe] at HM1
     have hz2:0≤z∧z≤100:=by omega
     have hx2:0≤x∧x≤100:=by omega
     subst hy
     clear hz hin hnn hxe H5
     go_wp2_with (at_builtin;refine wpList_app1K _ rfl (.tmp 57) (.tmp 62) _ rfl w3.heap.size 39 2 16 elTerm A c n (tcells (C q++U q m)) rfl (HW.out.alloc _) wr.heap.size #[.int .i64 x,.int .i64 z] rfl (Blk.new wr _ _) rfl ?h1 (by omega) (by omega) (by simp;omega) ?_)
     case h1=>simp [Value.oneCell']
     intro A5 c5 w5 hown5 hc5 hb5 hk5
     have HW5:Hid (w5.ownsRow w3.heap.size 39 2 (.slice A5 (n+1) c5) (n+1) (tcells (C q++U q (m+1)))):=by unfold Hid;rw [HM1.out,tcells_snoc];exact hown5
     have HI5:=Lib.hid (own_keepT (HI.out.alloc (.cells #[.int .i64 x,.int .i64 z] 39)) hk5 int_ne_term)
     have HB5:=Lib.hid ((HB.out.alloc hsz (.cells #[.int .i64 x,.int .i64 z] 39)).trans hb5)
     clear hown5 hb5 hk5 r2 HW HI HB HM1
     go_wp2_with fail
     go_roundw
     case rel=>exact ⟨m+1,n+1,A5,c5,by omega,by go_num,rfl,hn46,HN1.out,HW5.out,HI5.out,HB5.out⟩
     case measure=>simp [RowKit.intOf];omega
    ·obtain rfl:m=M:=by omega
     have HW6:Hid (wr.ownsRow w3.heap.size 39 2 (.slice A n c) n (tcells (C (q+1)))):=by unfold Hid;rw [HSU.out];exact HW.out
     have HN6:Hid (n=(q+1)*m):=by unfold Hid;rw [HN.out,Nat.succ_mul]
     clear HW HI
     go_wp2_with fail
     go_roundw
     case rel=>exact ⟨q+1,n,A,c,by omega,by go_num,rfl,hn45,HN6.out,HW6.out,HB.out⟩
     case measure=>simp [RowKit.intOf];omega
  ·obtain rfl:q=N:=by omega
   have HLQ:Hid ((C q).length=n):=by unfold Hid;rw [HLI.out,HN.out]
   have HOQ:=Lib.hid (HOR.out A n c (C q) wr (by omega) HLQ.out (own_reads HW.out))
   rw [HSL.out] at HOQ
   have HBB:=Lib.hid (bel_sub HB3.out HB.out)
   clear HW HB HB3
   go_wp2_with fail
   refine HOQ.out.mono ?_
   rintro e w7 ⟨g,c',rfl,hr7,hb7⟩
   have HR7:=Lib.hid hr7
   have HB7:=Lib.hid (bel_sub HBB.out hb7)
   clear hr7 hb7 HOQ HBB
   go_wp2_with fail
   go_ret2
   exact ⟨⟨_,_,rfl,HR7.out⟩,HB7.out⟩
end
section
open Go.RowKit
theorem run_appR4 {P:Program} (w:World) (ty t e:TypeId) (size bytes:Nat) (hE:ElemOk P t e size bytes) (base:Nat)
 (v:Value) (n:Nat) (xs:List Value) (hown:w.ownsRow base e size v n xs)
 (B:Nat) (A:Option Addr) (m c:Nat) (news:List Value) (hr:Reads w B size A m news) (h1:∀u∈news,u.oneCell'=true)
 (hn:n+m≤1000000) (hby:bytes≤1000000) (hbase:base≤w.heap.size) :
 ∃v' w',(Builtin.append_ #[t,t] ty #[v,.slice A m c]).run P w=.ok v' w'∧w'.ownsRow base e size v' (n+m) (xs++news)∧w.grownBy w' v.ownBlock∧(v'=.slice none 0 0→v=.slice none 0 0)∧(v'.ownBlock=v.ownBlock∨v'.ownBlock=some w.heap.size):=by
 obtain ⟨ht,i,z,hi,hz,hsize,hbytes,hzs,hsz⟩:=hE
 have h63:n+m≤maxLen:=by unfold maxLen;omega
 have hbb:(n+m)*bytes≤140737488355328:=by
  calc (n+m)*bytes≤1000000*1000000:=Nat.mul_le_mul hn hby
   _≤_:=by omega
 rcases A with _ | ad
 ·have hm:m=0:=by
   rcases Nat.eq_zero_or_pos m with h0 | h0
   ·exact h0
   ·obtain ⟨b,off,h,_⟩:=hr.2 h0
    cases h
  subst hm
  have hn:news=[]:=List.eq_nil_of_length_eq_zero (by simpa using hr.1)
  subst hn
  exact ⟨v,w,run_app_nil w base t ty e i size ht hi v n xs hown c,by simpa using hown,World.grownBy.refl w _,fun h=>h,.inl rfl⟩
 ·have hcells:∀j u,news[j]?=some u→w.cell? (ad.add j)=some u:=by
   intro j u hu
   rcases Nat.eq_zero_or_pos m with h0 | h0
   ·subst h0
    have hn:news=[]:=List.eq_nil_of_length_eq_zero (by simpa using hr.1)
    subst hn
    simp at hu
   ·obtain ⟨b,off,h,_,hc⟩:=hr.2 h0
    injection h with h
    subst h
    have:(⟨b,off,none⟩:Addr).add j=⟨b,off+j,none⟩:=by unfold Addr.add;split <;> simp_all
    rw [this]
    exact hc j u hu
  obtain ⟨v',w',hrun,h2,h3,h4,h5⟩:=run_append_own_at (P:=P) w base t ty e i z size bytes ht hi hz hsize hbytes hzs hsz v n xs hown ad m c news hr.1 hcells h1 h63 hbb hbase
  exact ⟨v',w',hrun,h2,h3,fun h=>(h4.1 h).1,h5⟩
theorem wpList_appRB {P:Program} (w:World) {ops:Array Oper} {rest:List Oper} {o:Oper} {a:Act} {Q:Exit→Act→World→Prop} (hgd:o.guard=none) (s x:Operand) (t:TypeId)
 (ho:o.op=.call { callee:=.builtin .append,args:=#[s,x],argTypes:=#[t,t] })
 (base:Nat) (e:TypeId) (size bytes:Nat) (hE:ElemOk P t e size bytes)
 (A:Option Addr) (c n:Nat) (xs:List Value) (hs:a.eval s=.slice A n c) (hown:w.ownsRow base e size (.slice A n c) n xs)
 (B:Nat) (A1:Option Addr) (m mc:Nat) (news:List Value) (hx:a.eval x=.slice A1 m mc) (hr:Reads w B size A1 m news) (h1:∀u∈news,u.oneCell'=true)
 (N:Nat) (hN:N=n+m) (hn:N≤1000000) (hby:bytes≤1000000) (hbase:base≤w.heap.size)
 (h:∀A' c' w',w'.ownsRow base e size (.slice A' N c') N (xs++news)→N≤c'→Below base w w'→Mi.Others (.slice A n c) w (.slice A' N c') w'→(A≠none→∃g,A'=some ⟨g,0,none⟩)→wpList P ops Q rest (a.put o.dst (.slice A' N c')) w'):wpList P ops Q (o :: rest) a w:=by
 subst hN
 obtain ⟨v',w',hrun,hown',hg,hnil,hbk⟩:=run_appR4 w o.type t e size bytes hE base _ n xs hown B A1 m mc news hr h1 hn hby hbase
 obtain ⟨A',c',rfl,hc'⟩:=own_form hown'
 have hb:Below base w w':=(Below.refl base w).grown hg hbase (fun k hk=>(hown.lt k hk).1)
 refine wpList_plain hgd fun _ hK=>?_
 unfold Oper.wp execOp
 simp only [ho,resolve,invoke,builtin,Sem.run_bind,Sem.run_pure,Result.andThen_ok,List.map_toArray,List.map_cons,List.map_nil,hs,hx,hrun]
 refine hK _ _ (h A' c' w' hown' hc' hb (fun T hT ha=>⟨?_,hg.block T hT (fun e'=>ha e'.symm)⟩) fun hA=>?_)
 ·intro e'
  rcases hbk with h2 | h2
  ·exact ha (h2.symm.trans e')
  ·rw [h2] at e'
   injection e' with e'
   omega
 ·rcases hown'.2 with ⟨hv,_⟩ | ⟨g,cap,cur,hv,_⟩
  ·have:=hnil hv
   injection this with h1
   exact absurd h1 hA
  ·injection hv with h1
   exact ⟨g,h1⟩
end
section
open Go.RowKit Go.Sort
attribute [local go_sem ↓] Go.wp_at_zero Go.wp_at_succ
theorem implCouple_no (a b:T2) (w:World) (h:cpOk a b=false) :
 Calls Tryz.prog 40 #[.agg #[.int .i64 a.1,.int .i64 a.2],.agg #[.int .i64 b.1,.int .i64 b.2]] w fun e w' =>
  e=.returned (.tuple #[.slice none 0 0,.bool false])∧Below w.heap.size w w':=by
 have h':¬(tvB a=true∧tvB b=true∧a.1+b.1≤8∧a.2+b.2≤8):=by rw [←cpOk_iff,h];simp
 clear h
 have HVA:=Lib.hid (fun W=>implTermValid_any a W)
 have HVB:=Lib.hid (fun W=>implTermValid_any b W)
 obtain ⟨a1,a2⟩:=a
 obtain ⟨b1,b2⟩:=b
 simp only at HVA HVB h'
 have HX0:=Lib.hid ((Blk.new w 39 #[.int .i64 a1,.int .i64 a2]).alloc (.cells #[.int .i64 b1,.int .i64 b2] 39))
 have HY0:=Lib.hid (Blk.new (w.alloc (.cells #[.int .i64 a1,.int .i64 a2] 39)) 39 #[.int .i64 b1,.int .i64 b2])
 have HB0:=Lib.hid (bel_alloc (bel_alloc (Below.refl w.heap.size w) (.cells #[.int .i64 a1,.int .i64 a2] 39)) (.cells #[.int .i64 b1,.int .i64 b2] 39))
 rw [World.size_alloc] at HY0
 cases hva:tvB (a1,a2)
 ·rw [hva] at HVA
  clear h' hva
  go_enter Tryz.func40,Tryz.ntmps40
  go_wp2_with fail
  refine (HVA.out _).mono ?_
  rintro e w1 ⟨rfl,hb1⟩
  have HB1:=Lib.hid (bel_sub HB0.out hb1);clear hb1
  go_wp2_with fail
  go_ret2
  exact ⟨rfl,HB1.out⟩
 rw [hva] at HVA
 have ha:=tvB_iff.1 hva
 cases hvb:tvB (b1,b2)
 ·rw [hvb] at HVB
  clear h' hva hvb ha
  go_enter Tryz.func40,Tryz.ntmps40
  go_wp2_with fail
  refine (HVA.out _).mono ?_
  rintro e w1 ⟨rfl,hb1⟩
  have HB1:=Lib.hid (bel_sub HB0.out hb1)
  have HY1:=Lib.hid (HY0.out.sub hb1);clear hb1
  obtain ⟨y1,y2,_,_⟩:=blk2 HY1.out
  go_wp2_with fail
  refine (HVB.out _).mono ?_
  rintro e w2 ⟨rfl,hb2⟩
  have HB2:=Lib.hid (bel_sub HB1.out hb2);clear hb2
  go_wp2_with fail
  go_ret2
  exact ⟨rfl,HB2.out⟩
 rw [hvb] at HVB
 have hb:=tvB_iff.1 hvb
 have h2:¬(a1+b1≤8∧a2+b2≤8):=fun h=>h' ⟨hva,hvb,h⟩
 simp only at ha hb
 clear h' hva hvb
 by_cases h1:a1+b1≤8
 ·have g1:¬(8<a1+b1):=by omega
  have g2:8<a2+b2:=by omega
  clear h2 h1
  go_enter Tryz.func40,Tryz.ntmps40
  go_wp2_with fail
  refine (HVA.out _).mono ?_
  rintro e w1 ⟨rfl,hb1⟩
  have HB1:=Lib.hid (bel_sub HB0.out hb1)
  have HX1:=Lib.hid (HX0.out.sub hb1)
  have HY1:=Lib.hid (HY0.out.sub hb1);clear hb1
  obtain ⟨y1,y2,_,_⟩:=blk2 HY1.out
  go_wp2_with fail
  refine (HVB.out _).mono ?_
  rintro e w2 ⟨rfl,hb2⟩
  have HB2:=Lib.hid (bel_sub HB1.out hb2)
  obtain ⟨x1,x2,_,_⟩:=blk2 (HX1.out.sub hb2)
  clear y1 y2
  obtain ⟨y1,y2,_,_⟩:=blk2 (HY1.out.sub hb2)
  clear hb2
  go_wp2_with fail
  go_ret2
  exact ⟨rfl,HB2.out⟩
 ·have g1:8<a1+b1:=by omega
  clear h2 h1
  go_enter Tryz.func40,Tryz.ntmps40
  go_wp2_with fail
  refine (HVA.out _).mono ?_
  rintro e w1 ⟨rfl,hb1⟩
  have HB1:=Lib.hid (bel_sub HB0.out hb1)
  have HX1:=Lib.hid (HX0.out.sub hb1)
  have HY1:=Lib.hid (HY0.out.sub hb1);clear hb1
  obtain ⟨y1,y2,_,_⟩:=blk2 HY1.out
  go_wp2_with fail
  refine (HVB.out _).mono ?_
  rintro e w2 ⟨rfl,hb2⟩
  have HB2:=Lib.hid (bel_sub HB1.out hb2)
  obtain ⟨x1,x2,_,_⟩:=blk2 (HX1.out.sub hb2)
  clear y1 y2
  obtain ⟨y1,y2,_,_⟩:=blk2 (HY1.out.sub hb2)
  clear hb2
  go_wp2_with fail
  go_ret2
  exact ⟨rfl,HB2.out⟩
theorem implCouple_any (a b:T2) (w:World) :
 Calls Tryz.prog 40 #[.agg #[.int .i64 a.1,.int .i64 a.2],.agg #[.int .i64 b.1,.int .i64 b.2]] w (CplPost a b w):=by
 unfold CplPost cpR
 cases h:cpOk a b
 ·refine (implCouple_no a b w h).mono fun e w' ⟨he,hb⟩=>⟨⟨none,0,he,Reads.none_⟩,hb⟩
 ·exact implCouple_yes a b w h
theorem cpR_len (a b:T2):(cpR a b).length≤45:=by
 unfold cpR
 split
 ·rename_i h;exact cplT_len h
 ·simp
def JnPost (r:List T2 × Bool) (w:World) (e:Ending) (w':World):Prop :=
 (∃A c,e=.returned (.tuple #[.slice A r.1.length c,.bool r.2])∧Reads w' w'.heap.size 2 A r.1.length (tcells r.1))∧Below w.heap.size w w'
theorem implTermsJoin_any (A1 A2:Option Addr) (n1 c1 n2 c2:Nat) (ts us:List T2) (w:World) (hn1:n1≤100000) (hn2:n2≤100000) (hl1:ts.length=n1) (hl2:us.length=n2) (hr1:Reads w w.heap.size 2 A1 n1 (tcells ts)) (hr2:Reads w w.heap.size 2 A2 n2 (tcells us)) :
 Calls Tryz.prog 17 #[.slice A1 n1 c1,.slice A2 n2 c2] w (JnPost (joinT ts us) w):=by
 have HR1:=Lib.hid hr1
 have HR2:=Lib.hid hr2
 have HL1:=Lib.hid hl1
 have HL2:=Lib.hid hl2
 have HV1:=Lib.hid (fun W (hB:Below w.heap.size w W)=>termListValid_any A1 n1 c1 ts W hn1 hl1 ((hr1.below hB).more hB.size))
 have HV2:=Lib.hid (fun W (hB:Below w.heap.size w W)=>termListValid_any A2 n2 c2 us W hn2 hl2 ((hr2.below hB).more hB.size))
 have HCP:=Lib.hid (fun a b W=>implCouple_any a b W)
 have HOR:=Lib.hid (fun A n c ts W hn hl hr=>ordered_any A n c ts W hn hl hr)
 have HB0:=Lib.hid (Below.refl w.heap.size w)
 unfold CplPost at HCP
 unfold OrdPost cmpFn at HOR
 unfold JnPost
 cases v1:vldT ts
 ·have hj:joinT ts us=([],false):=joinT_no (by rw [v1];simp)
  rw [hj]
  rw [v1] at HV1
  clear hj v1 hr1 hr2 hl1 hl2
  go_enter Tryz.func17,Tryz.ntmps17
  go_wp2_with fail
  refine (HV1.out _ HB0.out).mono ?_
  rintro e w1 ⟨rfl,hb1⟩
  have HB1:=Lib.hid hb1;clear hb1
  go_wp2_with fail
  go_ret2
  exact ⟨⟨none,0,rfl,Reads.none_⟩,HB1.out⟩
 cases v2:vldT us
 ·have hj:joinT ts us=([],false):=joinT_no (by rw [v2];simp)
  rw [hj]
  rw [v1] at HV1
  rw [v2] at HV2
  clear hj v1 v2 hr1 hr2 hl1 hl2
  go_enter Tryz.func17,Tryz.ntmps17
  go_wp2_with fail
  refine (HV1.out _ HB0.out).mono ?_
  rintro e w1 ⟨rfl,hb1⟩
  have HB1:=Lib.hid hb1;clear hb1
  go_wp2_with fail
  refine (HV2.out _ HB1.out).mono ?_
  rintro e w2 ⟨rfl,hb2⟩
  have HB2:=Lib.hid (bel_sub HB1.out hb2);clear hb2
  go_wp2_with fail
  go_ret2
  exact ⟨⟨none,0,rfl,Reads.none_⟩,HB2.out⟩
 have hj:=joinT_at v1 v2
 obtain ⟨R,hR⟩:∃R,joinT ts us=R:=⟨_,rfl⟩
 rw [hR] at hj ⊢
 rw [v1] at HV1
 rw [v2] at HV2
 have HJ:Hid (jGo (jPairs (ts.drop 0) us) []=R):=hj.symm
 have hs1:n1≤400:=by rw [←hl1];exact (vldT_iff.1 v1).1
 have hs2:n2≤400:=by rw [←hl2];exact (vldT_iff.1 v2).1
 clear hj hR v1 v2 hr1 hr2 hl1 hl2 hn1 hn2
 go_enter Tryz.func17,Tryz.ntmps17
 go_wp2_with fail
 refine (HV1.out _ HB0.out).mono ?_
 rintro e w1 ⟨rfl,hb1⟩
 have HB1:=Lib.hid hb1;clear hb1
 go_wp2_with fail
 refine (HV2.out _ HB1.out).mono ?_
 rintro e w2 ⟨rfl,hb2⟩
 have HB2:=Lib.hid (bel_sub HB1.out hb2);clear hb2
 replace HR1:=Lib.hid ((HR1.out.below HB2.out).more HB2.out.size)
 replace HR2:=Lib.hid ((HR2.out.below HB2.out).more HB2.out.size)
 clear HB1 HB0 HV1 HV2
 go_wp2_with fail
 go_loopw [6,23] (fun v i wr=>∃(k n:Nat) (A:Option Addr) (c:Nat) (acc:List T2),k≤n1∧i=.int .i64 (k:Int)∧v=.slice A n c∧n≤400∧Hid (acc.length=n)∧Hid (jGo (jPairs (ts.drop k) us) acc=R)∧Hid (wr.ownsRow w2.heap.size 39 2 (.slice A n c) n (tcells acc))∧Hid (Below w2.heap.size w2 wr)) (fun _ i _=>n1-(RowKit.intOf i).toNat)
 case atStart=>exact ⟨0,0,none,0,[],Nat.zero_le _,rfl,rfl,Nat.zero_le _,rfl,HJ.out,World.ownsRow_nil _ _ _ _,Below.refl _ _⟩
 case round =>
  clear HJ
  obtain ⟨k,n,A,c,acc,hk,rfl,rfl,hn4,HN,HG,HW,HB⟩:=hrel
  by_cases hlt:k<n1
  ·obtain ⟨g,off,x,y,rfl,hg,r1,r2,H3,_⟩:=(HR1.out.below HB.out).term hlt
   have HGK:Hid (gT ts k=(x,y)):=by unfold Hid gT;rw [H3.out];rfl
   have HG0:Hid (jGo (jRem ts us k 0) acc=R):=by unfold Hid;rw [←jRem_start (by rw [HL1.out];exact hlt)];exact HG.out
   have HX0:=Lib.hid (Blk.new wr 39 #[.int .i64 x,.int .i64 y])
   have HAP:=Lib.hid (Mi.apart_new HW.out (Nat.le_refl _))
   have HW0:=Lib.hid (HW.out.alloc (.cells #[.int .i64 x,.int .i64 y] 39))
   have HBA:=Lib.hid (HB.out.alloc HB.out.size (.cells #[.int .i64 x,.int .i64 y] 39))
   obtain ⟨T,hT⟩:∃T,wr.heap.size=T:=⟨_,rfl⟩
   rw [hT] at HX0 HAP
   have HTs:=Lib.hid hT
   obtain ⟨wm,rfl⟩:∃wm:World,wm=wr:=⟨_,rfl⟩
   clear H3 HG HW HB
   go_wp2_with fail
   try rw [hT]
   clear hT
   go_loopw [6,29] (fun v i wr=>∃(m n:Nat) (A:Option Addr) (c:Nat) (acc:List T2),m≤n2∧i=.int .i64 (m:Int)∧v=.slice A n c∧n≤400∧Hid (acc.length=n)∧Hid (jGo (jRem ts us k m) acc=R)∧Hid (wr.ownsRow w2.heap.size 39 2 (.slice A n c) n (tcells acc))∧Hid (Mi.Apart (.slice A n c) T)∧Hid (Blk wr T 39 #[.int .i64 x,.int .i64 y])∧Hid (Below w2.heap.size w2 wr)) (fun _ i _=>n2-(RowKit.intOf i).toNat)
   case atStart=>exact ⟨0,n,A,c,acc,Nat.zero_le _,rfl,rfl,hn4,HN.out,HG0.out,HW0.out,HAP.out,HX0.out,HBA.out⟩
   case round =>
    clear HG0 HX0 HAP HW0 HBA HTs HN hn4 r1 r2
    obtain ⟨m,n,A,c,acc,hm,rfl,rfl,hn4,HN,HG,HW,HAP,HX,HB⟩:=hrel
    by_cases hlm:m<n2
    ·obtain ⟨g2,off2,x',y',rfl,hg2,q1,q2,H5,_⟩:=(HR2.out.below HB.out).term hlm
     have HGM:Hid (gT us m=(x',y')):=by unfold Hid gT;rw [H5.out];rfl
     have HST:Hid (jGo (((x,y),(x',y')) :: jRem ts us k (m+1)) acc=R):=by
      unfold Hid
      rw [←HGK.out,←HGM.out,←jRem_step (by rw [HL2.out];exact hlm)]
      exact HG.out
     have HC:=Lib.hid (fun W=>HCP.out (x,y) (x',y') W)
     simp only at HC
     have hL:=cpR_len (x,y) (x',y')
     have HPS:Hid (cpOk (x,y) (x',y')=true→cpR (x,y) (x',y')=cplT (x,y) (x',y')):=fun h=>by unfold cpR;rw [if_pos h]
     obtain ⟨ps,hps⟩:∃ps,cpR (x,y) (x',y')=ps:=⟨_,rfl⟩
     rw [hps] at HC hL HPS
     obtain ⟨L,hLe⟩:∃L,ps.length=L:=⟨_,rfl⟩
     rw [hLe] at HC hL
     have HLE:=Lib.hid hLe
     have HXA:=Lib.hid (HX.out.alloc (.cells #[.int .i64 x',.int .i64 y'] 39))
     have HYA:=Lib.hid (Blk.new wr 39 #[.int .i64 x',.int .i64 y'])
     have HWA:=Lib.hid (HW.out.alloc (.cells #[.int .i64 x',.int .i64 y'] 39))
     have HBA:=Lib.hid (HB.out.alloc HB.out.size (.cells #[.int .i64 x',.int .i64 y'] 39))
     obtain ⟨x1,x2,_,_⟩:=blk2 HXA.out
     obtain ⟨y1,y2,_,_⟩:=blk2 HYA.out
     have hTl:=HX.out.lt
     clear hps hLe H5 HG HGM
     cases hok:cpOk (x,y) (x',y')
     ·have HRE:Hid (R=([],false)):=by unfold Hid;rw [←HST.out,jGo_bad (by rw [hok];simp)]
      rw [hok] at HC
      clear hok HST HPS
      go_wp2_with fail
      refine (HC.out _).mono ?_
      rintro e w5 ⟨⟨A5,c5,rfl,hr5⟩,hb5⟩
      have HB5:=Lib.hid (HBA.out.trans (hb5.mono HBA.out.size))
      have HBB:=Lib.hid (bel_sub HB2.out HB5.out)
      clear hr5 hb5
      go_wp2_with fail
      go_ret2
      exact ⟨⟨none,0,by rw [HRE.out];rfl,by rw [HRE.out];exact Reads.none_⟩,HBB.out⟩
     rw [hok] at HC
     have hpe:=HPS.out hok
     by_cases hfit:n+L≤400
     ·have HG2:Hid (jGo (jRem ts us k (m+1)) (acc++ps)=R):=by
       unfold Hid
       rw [←HST.out,jGo_ok hok (by simp only;rw [←hpe,HN.out,HLE.out];exact hfit),hpe]
      have HN2:Hid ((acc++ps).length=n+L):=by unfold Hid;rw [List.length_append,HN.out,HLE.out]
      have i1:¬((400:Int)<(n:Int)+(L:Int)):=by omega
      clear hok hpe HPS HST
      go_wp2_with fail
      refine (HC.out _).mono ?_
      rintro e w5 ⟨⟨A5,c5,rfl,hr5⟩,hb5⟩
      have HB5:=Lib.hid (HBA.out.trans (hb5.mono HBA.out.size))
      have HX5:=Lib.hid (HXA.out.sub hb5)
      have HW5:=Lib.hid (own_below HWA.out hb5)
      have HR5:=Lib.hid hr5
      have hs5:=HB5.out.size
      clear hr5 hb5 HB HX HW HXA HYA HWA HBA x1 x2 y1 y2 q1 q2
      go_wp2_with (at_builtin;refine wpList_appRB _ rfl (.tmp 49) (.tmp 50) _ rfl w2.heap.size 39 2 16 elTerm A c n (tcells acc) rfl HW5.out w5.heap.size A5 L c5 (tcells ps) rfl HR5.out (tcells_one ps) (n+L) rfl (by omega) (by omega) hs5 ?_)
      intro A6 c6 w6 hown6 hc6 hb6 hot6 _
      have h6:=hot6.blk HX5.out HAP.out
      have HAP6:=Lib.hid h6.1
      have HX6:=Lib.hid h6.2
      have HW6:Hid (w6.ownsRow w2.heap.size 39 2 (.slice A6 (n+L) c6) (n+L) (tcells (acc++ps))):=by unfold Hid;rw [tcells_app];exact hown6
      have HB6:=Lib.hid (HB5.out.trans hb6)
      clear h6 hown6 hot6 hb6 HW5 HR5 HX5 HB5
      go_wp2_with fail
      go_roundw
      case rel=>exact ⟨m+1,n+L,A6,c6,acc++ps,by omega,by go_num,rfl,hfit,HN2.out,HG2.out,HW6.out,HAP6.out,HX6.out,HB6.out⟩
      case measure=>simp [RowKit.intOf];omega
     ·have HRE:Hid (R=([],false)):=by
       unfold Hid
       rw [←HST.out,jGo_bad (fun h=>hfit (by have h2:=h.2;simp only at h2;rw [←hpe,HN.out,HLE.out] at h2;exact h2))]
      have i1:(400:Int)<(n:Int)+(L:Int):=by omega
      clear hok hpe HPS HST
      go_wp2_with fail
      refine (HC.out _).mono ?_
      rintro e w5 ⟨⟨A5,c5,rfl,hr5⟩,hb5⟩
      have HB5:=Lib.hid (HBA.out.trans (hb5.mono HBA.out.size))
      have HBB:=Lib.hid (bel_sub HB2.out HB5.out)
      clear hr5 hb5
      go_wp2_with fail
      go_ret2
      exact ⟨⟨none,0,by rw [HRE.out];rfl,by rw [HRE.out];exact Reads.none_⟩,HBB.out⟩
    ·have HG2:Hid (jGo (jPairs (ts.drop (k+1)) us) acc=R):=by
      unfold Hid
      rw [←jRem_end (m:=m) (by rw [HL2.out];omega)]
      exact HG.out
     clear HX HAP HG
     go_wp2_with fail
     go_roundw
     case rel=>exact ⟨k+1,n,A,c,acc,by omega,by go_num,rfl,hn4,HN.out,HG2.out,HW.out,HB.out⟩
     case measure=>simp [RowKit.intOf];omega
  ·have HRE:Hid (R=(srtT acc,true)):=by
    unfold Hid
    rw [←HG.out,jPairs_end (by rw [HL1.out];omega),jGo_nil]
   have HOQ:=Lib.hid (HOR.out A n c acc wr (by omega) HN.out (own_reads HW.out))
   have HBB:=Lib.hid (bel_sub HB2.out HB.out)
   clear HG HW HB
   go_wp2_with fail
   refine HOQ.out.mono ?_
   rintro e w7 ⟨g,c',rfl,hr7,hb7⟩
   have HR7:=Lib.hid hr7
   have HB7:=Lib.hid (bel_sub HBB.out hb7)
   clear hr7 hb7 HOQ HBB
   go_wp2_with fail
   go_ret2
   exact ⟨⟨some ⟨g,0,none⟩,c',by rw [HRE.out];rfl,by rw [HRE.out];exact HR7.out⟩,HB7.out⟩
end
end
end Go.Proofs.YtjdfbnlaiiknpaaGreatDoor
