/- Parts of the proof of : Nm. -/
import Derived.Test.YtlgdndnaiogooaaGreatDoorQ31
import Derived.Test.YtlgdndnaiogooaaGreatDoorQ18
import Derived.Test.YtlgdndnaiogooaaGreatDoorQ16
import Derived.Shelf.Strings.SlTrimAscii
set_option maxHeartbeats 20000000
set_option maxRecDepth 1000000
set_option linter.unusedSimpArgs false
set_option linter.unusedVariables false
namespace Go.Proofs.YtlgdndnaiogooaaGreatDoor
section
open Go.RowKit Go.Lib
attribute [local go_sem ↓] Go.wp_at_zero Go.wp_at_succ
def dgs:List UInt8→List UInt8
 | []=>[]
 | c :: r=>if c=45 then r else c :: r
def isD (c:UInt8):Bool:=decide (48≤c.toNat) && decide (c.toNat≤57)
def numB (s:List UInt8):Bool:=(decide (1≤(dgs s).length) && decide ((dgs s).length≤3)) && (dgs s).all isD
def numOf (s:List UInt8):Int:=if numB s=true then (if dgs s=s then (dval (dgs s):Int) else -(dval (dgs s):Int)) else 999
def d10:List UInt8:=[48,49,50,51,52,53,54,55,56,57]
theorem d10_in (c:UInt8):d10.contains c=isD c:=by
 have h:∀n:Fin 256,d10.contains (UInt8.ofNat n.1)=isD (UInt8.ofNat n.1):=by decide +kernel
 have:=h ⟨c.toNat,c.toNat_lt⟩
 rwa [UInt8.ofNat_toNat] at this
theorem dropWhile_nil {α:Type} {p:α→Bool}:∀{l:List α},l.dropWhile p=[]↔∀x∈l,p x=true
 | []=>by simp
 | a :: l=>by
  rw [List.dropWhile_cons]
  cases h:p a
  ·simp [h]
  ·simp [h,dropWhile_nil (l:=l)]
theorem dropWhile_head {α:Type} {p:α→Bool}:∀{l:List α} {a:α} {r:List α},l.dropWhile p=a :: r→p a=false
 | [],a,r,h=>by simp at h
 | x :: l,a,r,h=>by
  rw [List.dropWhile_cons] at h
  cases hx:p x
  ·rw [hx] at h;simp at h;rw [←h.1];exact hx
  ·rw [hx] at h;simp at h;exact dropWhile_head h
theorem trim_nil (l:List UInt8):(trimS l d10=[])↔l.all isD=true:=by
 have hp:(fun c=>d10.contains c)=isD:=funext d10_in
 unfold trimS trimLeftS trimRightS
 rw [hp]
 constructor
 ·intro h
  rw [dropWhile_nil] at h
  cases hq:l.reverse.dropWhile isD with
  | nil =>
   rw [dropWhile_nil] at hq
   exact List.all_eq_true.2 fun x hx=>hq x (by simpa using hx)
  | cons a r =>
   rw [hq] at h
   have h1:=dropWhile_head hq
   have h2:=h a (by simp)
   rw [h1] at h2;cases h2
 ·intro h
  have:l.reverse.dropWhile isD=[]:=dropWhile_nil.2 fun x hx=>List.all_eq_true.1 h x (by simpa using hx)
  rw [this];rfl
theorem dgs_pre (s:List UInt8):Lib.trimPrefix s [45]=dgs s:=by
 cases s with
 | nil=>rfl
 | cons c r =>
  unfold Lib.trimPrefix dgs
  by_cases h:c=45
  ·subst h;simp [Lib.hasPrefix]
  ·have h':¬(45:UInt8)=c:=fun e=>h e.symm
   simp [h,h',Lib.hasPrefix]
theorem zv116 (w:World):(zeroValue (Tryz.lays160_ren.t 116)).run Tryz.prog w=.ok (.agg (Array.replicate 256 (.bool false))) w:=by kernel_rfl
theorem trim_any (l:List UInt8) (w:World) (h:l.length≤1000000):Calls Tryz.prog 180 #[.string (bs l),.string ⟨#[48,49,50,51,52,53,54,55,56,57]⟩] w fun e w'=>e=.returned (.string (bs (trimS l d10)))∧Below w.heap.size w w':=by
 have hx:=Any.strings_Trim_ascii Tryz.lays160 zv116 (by kernel_rfl) (bs l) ⟨#[48,49,50,51,52,53,54,55,56,57]⟩ w (by rw [bs_size];omega) (by decide) (fun j b hj=>by
  have:b∈d10:=List.mem_of_getElem? hj
  have h2:=d10_in b
  rw [List.contains_iff_mem.2 this] at h2
  have h3:isD b=true:=h2.symm
  unfold isD at h3
  simp at h3
  omega)
 rw [show (bs l).data.toList=l by simp [bs]] at hx
 exact hx
theorem pre_any (l:List UInt8) (w:World):Calls Tryz.prog 179 #[.string (bs l),.string ⟨#[45]⟩] w fun e w'=>e=.returned (.string (bs (dgs l)))∧w'=w:=by
 have h:=Tryz.strings_TrimPrefix (bs l) ⟨#[45]⟩ w
 rw [show (bs l).data.toList=l by simp [bs],show (⟨#[45]⟩:ByteArray).data.toList=[45] from rfl,dgs_pre] at h
 exact h
theorem dval_999 {l:List UInt8} (h:l.all isD=true) (h3:l.length≤3):dval l≤999:=by
 have h1:=dval_le l (fun c hc=>by have:=List.all_eq_true.1 h c hc;unfold isD at this;simp at this;omega)
 have h2:=Nat.pow_le_pow_right (show 0<10 by omega) h3
 omega
theorem number_any (s:List UInt8) (b off n c i:Nat) (w:World) (hs:s.length≤1000) (hi:i<n) (_:n≤1000) (hb:b<w.heap.size) (hA:w.cell? ⟨b,off+i,none⟩=some (.string (bs s))) :
 Calls Tryz.prog 152 #[.agg #[.slice (some ⟨b,off,none⟩) n c],.int .i64 i] w fun e w'=>e=.returned (.int .i64 (numOf s))∧Below w.heap.size w w':=by
 have HP:=Lib.hid (fun W=>pre_any s W)
 have HT:=Lib.hid (fun W (h:(dgs s).length≤1000000)=>trim_any (dgs s) W h)
 have HB:=Lib.hid (bel_alloc (Below.refl w.heap.size w) (.cells #[.slice (some ⟨b,off,none⟩) n c] 136))
 have HX:=Lib.hid (Blk.new w 136 #[.slice (some ⟨b,off,none⟩) n c])
 have c1:(w.alloc (.cells #[.slice (some ⟨b,off,none⟩) n c] 136)).cell? ⟨b,off+i,none⟩=some (.string (bs s)):=(World.cell?_alloc_lt w _ _ hb).trans hA
 have HC:=Lib.hid c1;clear c1
 have hdl:(dgs s).length≤s.length:=by
  cases s with
  | nil=>exact Nat.le_refl _
  | cons x r =>
   show (if x=45 then r else x :: r).length≤r.length+1
   split <;> simp
 have hzd:(bs (dgs s)).size=(dgs s).length:=bs_size _
 have i0:(0:Int)≤(i:Int):=by omega
 have i1:(i:Int)<(n:Int):=by omega
 obtain ⟨c0,_⟩:=blk1 HX.out
 have c1:=HC.out
 by_cases h1:(dgs s).length<1
 ·have he:numOf s=999:=by unfold numOf numB;rw [if_neg];simp;omega
  rw [he];clear he HT
  have hz:(bs (dgs s)).size=0:=by omega
  clear hzd
  generalize bs (dgs s)=D at *
  generalize bs s=X at *
  go_enter Tryz.func152,Tryz.ntmps152
  go_wp2_with fail
  refine (HP.out _).mono ?_
  rintro e w1 ⟨rfl,rfl⟩
  go_wp2_with fail
  go_ret
  exact ⟨rfl,HB.out⟩
 by_cases h2:3<(dgs s).length
 ·have he:numOf s=999:=by unfold numOf numB;rw [if_neg];simp;omega
  rw [he];clear he HT
  have hz1:¬(bs (dgs s)).size<1:=by omega
  have hz:decide ((bs (dgs s)).size<1)=false:=by simpa using hz1
  have hz2:(3:Int)<(bs (dgs s)).size:=by omega
  have hz3:(bs (dgs s)).size≠0:=by omega
  clear hzd
  generalize bs (dgs s)=D at *
  generalize bs s=X at *
  go_enter Tryz.func152,Tryz.ntmps152
  go_wp2_with fail
  refine (HP.out _).mono ?_
  rintro e w1 ⟨rfl,rfl⟩
  go_wp2_with fail
  all_goals
   go_ret
   exact ⟨rfl,HB.out⟩
 have HT2:=Lib.hid (fun W=>HT.out W (by omega))
 clear HT
 have hzA:1≤(bs (dgs s)).size∧(bs (dgs s)).size≤3:=by omega
 have hzB:¬(bs (dgs s)).size=0:=by omega
 cases hall:(dgs s).all isD
 ·have he:numOf s=999:=by unfold numOf numB;rw [hall,if_neg];simp
  rw [he];clear he
  have ht:(bs (trimS (dgs s) d10)).toList.isEmpty=false:=by
   rw [show (bs (trimS (dgs s) d10)).toList=trimS (dgs s) d10 from ByteArray.toList_mk _]
   cases hq:trimS (dgs s) d10 with
   | nil=>rw [trim_nil] at hq;rw [hq] at hall;cases hall
   | cons _ _=>rfl
  have ht2:(bs (trimS (dgs s) d10)).toList≠[]:=by
   intro h;rw [h] at ht;cases ht
  clear hall hzd h1 h2
  generalize bs (trimS (dgs s) d10)=T at *
  generalize bs (dgs s)=D at *
  generalize bs s=X at *
  go_enter Tryz.func152,Tryz.ntmps152
  go_wp2_with fail
  refine (HP.out _).mono ?_
  rintro e w1 ⟨rfl,rfl⟩
  go_wp2_with fail
  refine (HT2.out _).mono ?_
  rintro e w2 ⟨rfl,hb2⟩
  have HB2:=Lib.hid (bel_sub HB.out hb2);clear hb2
  go_wp2_with fail
  go_ret
  exact ⟨rfl,HB2.out⟩
 have htn:trimS (dgs s) d10=[]:=(trim_nil _).2 hall
 have HAt:=Lib.hid (fun W=>atoi_any (dgs s) W (by omega) (by omega) (fun c hc=>by have:=List.all_eq_true.1 hall c hc;unfold isD at this;simp at this;omega))
 have hv:=dval_999 hall (by omega)
 have hnb:numB s=true:=by unfold numB;rw [hall];simp;omega
 have hnum:numOf s=if dgs s=s then (dval (dgs s):Int) else -(dval (dgs s):Int):=by unfold numOf;rw [if_pos hnb]
 rw [hnum];clear hnum hnb hall
 rw [htn,bs_nil] at HT2;clear htn
 have hne:=bs_eq (dgs s) s
 have ht:(⟨#[]⟩:ByteArray).toList=[]:=ByteArray.toList_mk []
 obtain ⟨q,hq⟩:∃q,decide (dgs s=s)=q:=⟨_,rfl⟩
 have HQ:Hid ((if dgs s=s then (dval (dgs s):Int) else -(dval (dgs s):Int))=if q=true then (dval (dgs s):Int) else -(dval (dgs s):Int)):=by
  unfold Hid
  rw [←hq];simp
 rw [HQ.out];clear HQ
 rw [hq] at hne
 have HN:=Lib.hid hne
 clear hq hzd h1 h2 hne
 generalize dval (dgs s)=v at *
 generalize bs (dgs s)=D at *
 generalize bs s=X at *
 have hne:=HN.out
 go_enter Tryz.func152,Tryz.ntmps152
 go_wp2_with fail
 refine (HP.out _).mono ?_
 rintro e w1 ⟨rfl,rfl⟩
 go_wp2_with fail
 refine (HT2.out _).mono ?_
 rintro e w2 ⟨rfl,hb2⟩
 have HB2:=Lib.hid (bel_sub HB.out hb2)
 have HX2:=Lib.hid (HX.out.sub hb2)
 have HC2:=Lib.hid (cell_sub hb2 HC.out)
 clear hb2
 go_wp2_with fail
 refine (HAt.out _).mono ?_
 rintro e w3 ⟨rfl,hb3⟩
 have HB3:=Lib.hid (bel_sub HB2.out hb3)
 clear c0 c1
 obtain ⟨c0,_⟩:=blk1 (HX2.out.sub hb3)
 have c1:=cell_sub hb3 HC2.out
 clear hb3
 cases q
 ·go_wp2_with fail
  go_ret
  exact ⟨rfl,HB3.out⟩
 ·go_wp2_with fail
  go_ret
  exact ⟨rfl,HB3.out⟩
end
end Go.Proofs.YtlgdndnaiogooaaGreatDoor
