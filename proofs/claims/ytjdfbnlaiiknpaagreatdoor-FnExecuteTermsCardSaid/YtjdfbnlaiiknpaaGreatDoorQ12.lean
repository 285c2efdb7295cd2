/- Parts of the proof of : Nm RqC. -/
import Derived.Test.YtjdfbnlaiiknpaaGreatDoorQ09
import Derived.Shelf.Strings.SlTrimAscii
import Derived.Test.YtjdfbnlaiiknpaaGreatDoorQ11
import Derived.Test.YtjdfbnlaiiknpaaGreatDoorQ10
set_option maxHeartbeats 20000000
set_option maxRecDepth 1000000
set_option linter.unusedSimpArgs false
set_option linter.unusedVariables false
namespace Go.Proofs.YtjdfbnlaiiknpaaGreatDoor
section
open Go.RowKit Go.Lib
attribute [local go_sem ↓] Go.wp_at_zero Go.wp_at_succ
def dgs:List UInt8→List UInt8
 | []=>[]
 | c :: r=>if c=45 then r else c :: r
def isD (c:UInt8):Bool:=decide (48≤c.toNat) && decide (c.toNat≤57)
def numB (s:List UInt8):Bool:=(decide (1≤(dgs s).length) && decide ((dgs s).length≤3)) && (dgs s).all isD
def numOf (s:List UInt8):Int:=if numB s=true then (if dgs s=s then (dval (dgs s):Int) else -(dval (dgs s):Int)) else 999
def d10:List UInt8:=[48,49,50,51,52,53,54,55,56,57]
theorem d10_in (c:UInt8):d10.contains c=isD c:=by
 have h:∀n:Fin 256,d10.contains (UInt8.ofNat n.1)=isD (UInt8.ofNat n.1):=by decide +kernel
 have:=h ⟨c.toNat,c.toNat_lt⟩
 rwa [UInt8.ofNat_toNat] at this
theorem dropWhile_nil {α:Type} {p:α→Bool}:∀{l:List α},l.dropWhile p=[]↔∀x∈l,p x=true
 | []=>by simp
 | a :: l=>by
  rw [List.dropWhile_cons]
  cases h:p a
  ·simp [h]
  ·simp [h,dropWhile_nil (l:=l)]
theorem dropWhile_head {α:Type} {p:α→Bool}:∀{l:List α} {a:α} {r:List α},l.dropWhile p=a :: r→p a=false
 | [],a,r,h=>by simp at h
 | x :: l,a,r,h=>by
  rw [List.dropWhile_cons] at h
  cases hx:p x
  ·rw [hx] at h;simp at h;rw [←h.1];exact hx
  ·rw [hx] at h;simp at h;exact dropWhile_head h
theorem trim_nil (l:List UInt8):(trimS l d10=[])↔l.all isD=true:=by
 have hp:(fun c=>d10.contains c)=isD:=funext d10_in
 unfold trimS trimLeftS trimRightS
 rw [hp]
 constructor
 ·intro h
  rw [dropWhile_nil] at h
  cases hq:l.reverse.dropWhile isD with
  | nil =>
   rw [dropWhile_nil] at hq
   exact List.all_eq_true.2 fun x hx=>hq x (by simpa using hx)
  | cons a r =>
   rw [hq] at h
   have h1:=dropWhile_head hq
   have h2:=h a (by simp)
   rw [h1] at h2;cases h2
 ·intro h
  have:l.reverse.dropWhile isD=[]:=dropWhile_nil.2 fun x hx=>List.all_eq_true.1 h x (by simpa using hx)
  rw [this];rfl
theorem dgs_pre (s:List UInt8):Lib.trimPrefix s [45]=dgs s:=by
 cases s with
 | nil=>rfl
 | cons c r =>
  unfold Lib.trimPrefix dgs
  by_cases h:c=45
  ·subst h;simp [Lib.hasPrefix]
  ·have h':¬(45:UInt8)=c:=fun e=>h e.symm
   simp [h,h',Lib.hasPrefix]
theorem zv116 (w:World):(zeroValue (Tryz.lays160_ren.t 116)).run Tryz.prog w=.ok (.agg (Array.replicate 256 (.bool false))) w:=by kernel_rfl
theorem trim_any (l:List UInt8) (w:World) (h:l.length≤1000000):Calls Tryz.prog 186 #[.string (bs l),.string ⟨#[48,49,50,51,52,53,54,55,56,57]⟩] w fun e w'=>e=.returned (.string (bs (trimS l d10)))∧Below w.heap.size w w':=by
 have hx:=Any.strings_Trim_ascii Tryz.lays160 zv116 (by kernel_rfl) (bs l) ⟨#[48,49,50,51,52,53,54,55,56,57]⟩ w (by rw [bs_size];omega) (by decide) (fun j b hj=>by
  have:b∈d10:=List.mem_of_getElem? hj
  have h2:=d10_in b
  rw [List.contains_iff_mem.2 this] at h2
  have h3:isD b=true:=h2.symm
  unfold isD at h3
  simp at h3
  omega)
 rw [show (bs l).data.toList=l by simp [bs]] at hx
 exact hx
theorem pre_any (l:List UInt8) (w:World):Calls Tryz.prog 185 #[.string (bs l),.string ⟨#[45]⟩] w fun e w'=>e=.returned (.string (bs (dgs l)))∧w'=w:=by
 have h:=Tryz.strings_TrimPrefix (bs l) ⟨#[45]⟩ w
 rw [show (bs l).data.toList=l by simp [bs],show (⟨#[45]⟩:ByteArray).data.toList=[45] from rfl,dgs_pre] at h
 exact h
theorem dval_999 {l:List UInt8} (h:l.all isD=true) (h3:l.length≤3):dval l≤999:=by
 have h1:=dval_le l (fun c hc=>by have:=List.all_eq_true.1 h c hc;unfold isD at this;simp at this;omega)
 have h2:=Nat.pow_le_pow_right (show 0<10 by omega) h3
 omega
theorem number_any (s:List UInt8) (b off n c i:Nat) (w:World) (hs:s.length≤1000) (hi:i<n) (_:n≤1000) (hb:b<w.heap.size) (hA:w.cell? ⟨b,off+i,none⟩=some (.string (bs s))) :
 Calls Tryz.prog 133 #[.agg #[.slice (some ⟨b,off,none⟩) n c],.int .i64 i] w fun e w'=>e=.returned (.int .i64 (numOf s))∧Below w.heap.size w w':=by
 have HP:=Lib.hid (fun W=>pre_any s W)
 have HT:=Lib.hid (fun W (h:(dgs s).length≤1000000)=>trim_any (dgs s) W h)
 have HB:=Lib.hid (bel_alloc (Below.refl w.heap.size w) (.cells #[.slice (some ⟨b,off,none⟩) n c] 91))
 have HX:=Lib.hid (Blk.new w 91 #[.slice (some ⟨b,off,none⟩) n c])
 have c1:(w.alloc (.cells #[.slice (some ⟨b,off,none⟩) n c] 91)).cell? ⟨b,off+i,none⟩=some (.string (bs s)):=(World.cell?_alloc_lt w _ _ hb).trans hA
 have HC:=Lib.hid c1;clear c1
 have hdl:(dgs s).length≤s.length:=by
  cases s with
  | nil=>exact Nat.le_refl _
  | cons x r =>
   show (if x=45 then r else x :: r).length≤r.length+1
   split <;> simp
 have hzd:(bs (dgs s)).size=(dgs s).length:=bs_size _
 have i0:(0:Int)≤(i:Int):=by omega
 have i1:(i:Int)<(n:Int):=by omega
 obtain ⟨c0,_⟩:=blk1 HX.out
 have c1:=HC.out
 by_cases h1:(dgs s).length<1
 ·have he:numOf s=999:=by unfold numOf numB;rw [if_neg];simp;omega
  rw [he];clear he HT
  have hz:(bs (dgs s)).size=0:=by omega
  clear hzd
  generalize bs (dgs s)=D at *
  generalize bs s=X at *
  go_enter Tryz.func133,Tryz.ntmps133
  go_wp2_with fail
  refine (HP.out _).mono ?_
  rintro e w1 ⟨rfl,rfl⟩
  go_wp2_with fail
  go_ret
  exact ⟨rfl,HB.out⟩
 by_cases h2:3<(dgs s).length
 ·have he:numOf s=999:=by unfold numOf numB;rw [if_neg];simp;omega
  rw [he];clear he HT
  have hz1:¬(bs (dgs s)).size<1:=by omega
  have hz:decide ((bs (dgs s)).size<1)=false:=by simpa using hz1
  have hz2:(3:Int)<(bs (dgs s)).size:=by omega
  have hz3:(bs (dgs s)).size≠0:=by omega
  clear hzd
  generalize bs (dgs s)=D at *
  generalize bs s=X at *
  go_enter Tryz.func133,Tryz.ntmps133
  go_wp2_with fail
  refine (HP.out _).mono ?_
  rintro e w1 ⟨rfl,rfl⟩
  go_wp2_with fail
  all_goals
   go_ret
   exact ⟨rfl,HB.out⟩
 have HT2:=Lib.hid (fun W=>HT.out W (by omega))
 clear HT
 have hzA:1≤(bs (dgs s)).size∧(bs (dgs s)).size≤3:=by omega
 have hzB:¬(bs (dgs s)).size=0:=by omega
 cases hall:(dgs s).all isD
 ·have he:numOf s=999:=by unfold numOf numB;rw [hall,if_neg];simp
  rw [he];clear he
  have ht:(bs (trimS (dgs s) d10)).toList.isEmpty=false:=by
   rw [show (bs (trimS (dgs s) d10)).toList=trimS (dgs s) d10 from ByteArray.toList_mk _]
   cases hq:trimS (dgs s) d10 with
   | nil=>rw [trim_nil] at hq;rw [hq] at hall;cases hall
   | cons _ _=>rfl
  have ht2:(bs (trimS (dgs s) d10)).toList≠[]:=by
   intro h;rw [h] at ht;cases ht
  clear hall hzd h1 h2
  generalize bs (trimS (dgs s) d10)=T at *
  generalize bs (dgs s)=D at *
  generalize bs s=X at *
  go_enter Tryz.func133,Tryz.ntmps133
  go_wp2_with fail
  refine (HP.out _).mono ?_
  rintro e w1 ⟨rfl,rfl⟩
  go_wp2_with fail
  refine (HT2.out _).mono ?_
  rintro e w2 ⟨rfl,hb2⟩
  have HB2:=Lib.hid (bel_sub HB.out hb2);clear hb2
  go_wp2_with fail
  go_ret
  exact ⟨rfl,HB2.out⟩
 have htn:trimS (dgs s) d10=[]:=(trim_nil _).2 hall
 have HAt:=Lib.hid (fun W=>atoi_any (dgs s) W (by omega) (by omega) (fun c hc=>by have:=List.all_eq_true.1 hall c hc;unfold isD at this;simp at this;omega))
 have hv:=dval_999 hall (by omega)
 have hnb:numB s=true:=by unfold numB;rw [hall];simp;omega
 have hnum:numOf s=if dgs s=s then (dval (dgs s):Int) else -(dval (dgs s):Int):=by unfold numOf;rw [if_pos hnb]
 rw [hnum];clear hnum hnb hall
 rw [htn,bs_nil] at HT2;clear htn
 have hne:=bs_eq (dgs s) s
 have ht:(⟨#[]⟩:ByteArray).toList=[]:=ByteArray.toList_mk []
 obtain ⟨q,hq⟩:∃q,decide (dgs s=s)=q:=⟨_,rfl⟩
 have HQ:Hid ((if dgs s=s then (dval (dgs s):Int) else -(dval (dgs s):Int))=if q=true then (dval (dgs s):Int) else -(dval (dgs s):Int)):=by
  unfold Hid
  rw [←hq];simp
 rw [HQ.out];clear HQ
 rw [hq] at hne
 have HN:=Lib.hid hne
 clear hq hzd h1 h2 hne
 generalize dval (dgs s)=v at *
 generalize bs (dgs s)=D at *
 generalize bs s=X at *
 have hne:=HN.out
 go_enter Tryz.func133,Tryz.ntmps133
 go_wp2_with fail
 refine (HP.out _).mono ?_
 rintro e w1 ⟨rfl,rfl⟩
 go_wp2_with fail
 refine (HT2.out _).mono ?_
 rintro e w2 ⟨rfl,hb2⟩
 have HB2:=Lib.hid (bel_sub HB.out hb2)
 have HX2:=Lib.hid (HX.out.sub hb2)
 have HC2:=Lib.hid (cell_sub hb2 HC.out)
 clear hb2
 go_wp2_with fail
 refine (HAt.out _).mono ?_
 rintro e w3 ⟨rfl,hb3⟩
 have HB3:=Lib.hid (bel_sub HB2.out hb3)
 clear c0 c1
 obtain ⟨c0,_⟩:=blk1 (HX2.out.sub hb3)
 have c1:=cell_sub hb3 HC2.out
 clear hb3
 cases q
 ·go_wp2_with fail
  go_ret
  exact ⟨rfl,HB3.out⟩
 ·go_wp2_with fail
  go_ret
  exact ⟨rfl,HB3.out⟩
end
section
open Go.RowKit
attribute [local go_sem ↓] Go.wp_at_zero Go.wp_at_succ
theorem st_3 {T:TypeId} (hi:(Tryz.prog.info? T).map (·.size)=some 3) (W:World) (g:Nat) (z0 z1 z2 a b c:Value) (ha:a.oneCell'=true) (hb:b.oneCell'=true) (hc:c.oneCell'=true) (h:Blk W g T #[z0,z1,z2]) :
 ∃W',(Instr.storeAt T (.pointer (some ⟨g,0,none⟩)) (.agg #[a,b,c])).run Tryz.prog W=.ok () W'∧Fr.Wrote W W' g∧Blk W' g T #[a,b,c]:=by
 obtain ⟨x1,x2,x3,f1,f2,f3⟩:=blk3 h
 refine ⟨((W.setCell ⟨g,0,none⟩ a).setCell ⟨g,1,none⟩ b).setCell ⟨g,2,none⟩ c,?_,((Fr.wrote_set W g 0 a).trans (Fr.wrote_set _ g 1 b)).trans (Fr.wrote_set _ g 2 c),((h.set 0 a).set 1 b).set 2 c⟩
 refine run_storeAt_mid W g 0 T #[a,b,c] (fun j hj=>?_) hi (by simp [ha,hb,hc])
 have hj:j=0∨j=1∨j=2:=by simp at hj;omega
 rcases hj with rfl | rfl | rfl
 ·exact ⟨by rw [Nat.add_zero,x1];rfl,f1⟩
 ·exact ⟨by rw [Nat.zero_add,x2];rfl,f2⟩
 ·exact ⟨by rw [Nat.zero_add,x3];rfl,f3⟩
theorem st_2 {T:TypeId} (hi:(Tryz.prog.info? T).map (·.size)=some 2) (W:World) (g:Nat) (z0 z1 a b:Value) (ha:a.oneCell'=true) (hb:b.oneCell'=true) (h:Blk W g T #[z0,z1]) :
 ∃W',(Instr.storeAt T (.pointer (some ⟨g,0,none⟩)) (.agg #[a,b])).run Tryz.prog W=.ok () W'∧Fr.Wrote W W' g∧Blk W' g T #[a,b]:=by
 obtain ⟨x1,x2,f1,f2⟩:=blk2 h
 refine ⟨(W.setCell ⟨g,0,none⟩ a).setCell ⟨g,1,none⟩ b,?_,(Fr.wrote_set W g 0 a).trans (Fr.wrote_set _ g 1 b),(h.set 0 a).set 1 b⟩
 refine run_storeAt_mid W g 0 T #[a,b] (fun j hj=>?_) hi (by simp [ha,hb])
 have hj:j=0∨j=1:=by simp at hj;omega
 rcases hj with rfl | rfl
 ·exact ⟨by rw [Nat.add_zero,x1];rfl,f1⟩
 ·exact ⟨by rw [Nat.zero_add,x2];rfl,f2⟩
def rqCl (s0 s1 s2 s3 s4:List UInt8):List UInt8 × Bool:=(rootT (clR (numOf s0) (numOf s1) (numOf s2) (numOf s3) (numOf s4)).1,(clR (numOf s0) (numOf s1) (numOf s2) (numOf s3) (numOf s4)).2)
theorem reqClebsch_any (s0 s1 s2 s3 s4:List UInt8) (b:Nat) (w:World) (l0:s0.length≤1000) (l1:s1.length≤1000) (l2:s2.length≤1000) (l3:s3.length≤1000) (l4:s4.length≤1000) (hb:b<w.heap.size)
 (h0:w.cell? ⟨b,1,none⟩=some (.string (bs s0))) (h1:w.cell? ⟨b,2,none⟩=some (.string (bs s1))) (h2:w.cell? ⟨b,3,none⟩=some (.string (bs s2))) (h3:w.cell? ⟨b,4,none⟩=some (.string (bs s3))) (h4:w.cell? ⟨b,5,none⟩=some (.string (bs s4))) (ht:Tab w) :
 Calls Tryz.prog 90 #[.agg #[.slice (some ⟨b,1,none⟩) 5 5]] w fun e w'=>e=.returned (.tuple #[.string (bs (rqCl s0 s1 s2 s3 s4).1),.bool (rqCl s0 s1 s2 s3 s4).2])∧Below w.heap.size w w':=by
 have HN0:=Lib.hid (fun W (hW:Below w.heap.size w W)=>number_any s0 b 1 5 5 0 W l0 (by omega) (by omega) (Nat.lt_of_lt_of_le hb hW.size) (cell_sub hW h0))
 have HN1:=Lib.hid (fun W (hW:Below w.heap.size w W)=>number_any s1 b 1 5 5 1 W l1 (by omega) (by omega) (Nat.lt_of_lt_of_le hb hW.size) (cell_sub hW h1))
 have HN2:=Lib.hid (fun W (hW:Below w.heap.size w W)=>number_any s2 b 1 5 5 2 W l2 (by omega) (by omega) (Nat.lt_of_lt_of_le hb hW.size) (cell_sub hW h2))
 have HN3:=Lib.hid (fun W (hW:Below w.heap.size w W)=>number_any s3 b 1 5 5 3 W l3 (by omega) (by omega) (Nat.lt_of_lt_of_le hb hW.size) (cell_sub hW h3))
 have HN4:=Lib.hid (fun W (hW:Below w.heap.size w W)=>number_any s4 b 1 5 5 4 W l4 (by omega) (by omega) (Nat.lt_of_lt_of_le hb hW.size) (cell_sub hW h4))
 have HTb:=Lib.hid (fun W (hb:Below w.heap.size w W)=>ht.on hb);clear ht h0 h1 h2 h3 h4 l0 l1 l2 l3 l4
 unfold rqCl
 simp only
 have HCl:=Lib.hid (fun W=>implClebsch_any (numOf s0) (numOf s1) (numOf s2) (numOf s3) (numOf s4) W)
 obtain ⟨r,hr⟩:∃r,clR (numOf s0) (numOf s1) (numOf s2) (numOf s3) (numOf s4)=r:=⟨_,rfl⟩
 rw [hr] at HCl ⊢
 clear hr
 generalize numOf s0=n0 at *
 generalize numOf s1=n1 at *
 generalize numOf s2=n2 at *
 generalize numOf s3=n3 at *
 generalize numOf s4=n4 at *
 obtain ⟨⟨sg,x,y⟩,ok⟩:=r
 unfold rtO rtV at HCl
 simp only at HCl ⊢
 have HRT:=Lib.hid (fun W (hW:Tab W)=>implRootText_any sg x y W hW)
 generalize bs (rootT (sg,(x,y)))=Y at *
 have HB0:=Lib.hid (bel_alloc (Below.refl w.heap.size w) (.cells #[.slice (some ⟨b,1,none⟩) 5 5] 91))
 have HQ0:=Lib.hid (Blk.new w 91 #[.slice (some ⟨b,1,none⟩) 5 5])
 go_enter Tryz.func90,Tryz.ntmps90
 go_wp2_with fail
 refine (exactly_any _ 5 5 _).mono ?_
 rintro e w1 ⟨rfl,hb1⟩
 have HB1:=Lib.hid (bel_sub HB0.out hb1)
 have c0:w1.cell? ⟨w.heap.size,0,none⟩=some (.slice (some ⟨b,1,none⟩) 5 5):=(HQ0.out.sub hb1).cell 0
 clear hb1 HB0 HQ0
 go_wp2_with fail
 refine Fr.region_free' [(99,4)] [(99,4,.tmp 20)] (fun _=>99) (fun _=>#[.int .i64 0,.int .i64 0,.int .i64 0]) (fun _=>#[.int .i64 sg,.int .i64 x,.int .i64 y]) 25 (by kernel_rfl) rfl (by kernel_rfl) rfl rfl ?hxq ?hal ?h
 case hxq=>intro s hs e he;simp at hs;subst hs;simp at he;subst he;simp
 case hal=>intro x hx W;simp at hx;subst hx;simp [go_sem]
 case h =>
 apply Exists.intro
 refine ⟨?hW,?hst,?hQ⟩
 case hW =>
  intro A θ hne
  have HTA:=Lib.hid (fun p:Fr.AftB w1 (fun _=>99) A θ=>bel_sub HB1.out p.below)
  have k0:=fun p:Fr.AftB w1 (fun _=>99) A θ=>p.cell c0
  simp only [List.filter_cons,List.filter_nil,Fr.isQ,Fr.alOf,Fr.stOf,Option.isNone_none,Option.isNone_some,Bool.and_self,Bool.and_true,Bool.and_false,Bool.false_eq_true,↓reduceIte]
  repeat (go_big_quiet_step ((first | (go_at_call 133;first | (with_reducible exact Fr.aftB_call _ (HN0.out _ (HTA.out _))) | (with_reducible exact Fr.aftB_call _ (HN1.out _ (HTA.out _))) | (with_reducible exact Fr.aftB_call _ (HN2.out _ (HTA.out _))) | (with_reducible exact Fr.aftB_call _ (HN3.out _ (HTA.out _))) | (with_reducible exact Fr.aftB_call _ (HN4.out _ (HTA.out _)))) | (go_at_call 142;exact Fr.aftB_call _ (HCl.out _)))))
  exact wpQuiet_nil rfl
 case hst =>
  intro s hs W g hB
  simp at hs
  subst hs
  exact st_3 (by kernel_rfl) W g _ _ _ (.int .i64 sg) (.int .i64 x) (.int .i64 y) rfl rfl rfl hB
 case hQ =>
  intro A w' hb hals hap
  obtain ⟨hA,hbl⟩:=hals (99,4) (by simp)
  simp only at hA hbl
  have HB2:=Lib.hid (bel_sub HB1.out hb)
  obtain ⟨y1,y2,y3,_,_,_⟩:=blk3 hbl
  clear hals hap hb hbl
  simp only [Fr.putAls,Act.put,List.setIfInBounds_toArray,List.set_cons_succ,List.set_cons_zero]
  generalize A 4=g at *
  go_wp2_with fail
  refine (HRT.out _ (HTb.out _ HB2.out)).mono ?_
  rintro e w4 ⟨rfl,hb4⟩
  have HB4:=Lib.hid (bel_sub HB2.out hb4)
  go_wp2_with fail
  go_ret2
  exact ⟨rfl,HB4.out⟩
end
end Go.Proofs.YtjdfbnlaiiknpaaGreatDoor
