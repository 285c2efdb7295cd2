/- Parts of the proof of : Lt1 Lt2 Spl Spg Fc1. -/
import Derived.Test.YtjdfbnlaiiknpaaGreatDoorQ03
set_option maxHeartbeats 20000000
set_option maxRecDepth 1000000
set_option linter.unusedSimpArgs false
set_option linter.unusedVariables false
namespace Go.Proofs.YtjdfbnlaiiknpaaGreatDoor
section
open Go.RowKit
attribute [local go_sem ↓] Go.wp_at_zero Go.wp_at_succ
theorem SpinTriangle_any (a b c:Int) (w:World) (a0:0≤a) (a1:a≤24) (b0:0≤b) (b1:b≤24) (c0:0≤c) (c1:c≤24) (hp:(a+b+c) % 2=0) (h1:a≤b+c) (h2:b≤a+c) (h3:c≤a+b) :
 Calls Tryz.prog 206 #[.int .i64 a,.int .i64 b,.int .i64 c] w fun e w'=>e=.returned (.bool true)∧w=w':=by
 have ia:inB a 0 24=true:=inB_iff.2 ⟨a0,a1⟩
 have ib:inB b 0 24=true:=inB_iff.2 ⟨b0,b1⟩
 have ic:inB c 0 24=true:=inB_iff.2 ⟨c0,c1⟩
 have HA:=Lib.hid (implSpinValid_any a w);rw [ia] at HA
 have HBv:=Lib.hid (implSpinValid_any b w);rw [ib] at HBv
 have HC:=Lib.hid (implSpinValid_any c w);rw [ic] at HC
 clear ia ib ic
 have u1:IntKind.i64.wrap (a+b)=a+b:=IntWalk.i64_in _ (by omega)
 have u2:IntKind.i64.wrap (a+b+c)=a+b+c:=IntWalk.i64_in _ (by omega)
 have u3:IntKind.i64.wrap (b+c)=b+c:=IntWalk.i64_in _ (by omega)
 have u4:IntKind.i64.wrap (a+c)=a+c:=IntWalk.i64_in _ (by omega)
 go_enter Tryz.func206,Tryz.ntmps206
 go_wp2_with fail
 refine HA.out.mono ?_
 rintro e w1 ⟨rfl,rfl⟩
 go_wp2_with fail
 refine HBv.out.mono ?_
 rintro e w1 ⟨rfl,rfl⟩
 go_wp2_with fail
 refine HC.out.mono ?_
 rintro e w1 ⟨rfl,rfl⟩
 go_wp2_with fail
 go_ret
 exact ⟨ret_bool (by simp [*]),rfl⟩
def LvOk (t:T2) (j:Int):Prop:=0≤j∧j≤24∧(2*t.2+t.1+j) % 2=0∧2*t.2≤t.1+j∧t.1≤2*t.2+j∧j≤2*t.2+t.1
theorem lv_ok {t:T2} {j:Int} (hv:tvB t=true) (h:j∈lvJs t):LvOk t j:=by
 have hb:=tvB_iff.1 hv
 unfold lvJs at h
 rw [if_pos hv] at h
 unfold cpl cplTo at h
 obtain ⟨i,hi,rfl⟩:=List.mem_map.1 h
 have hi:=List.mem_range.1 hi
 unfold LvOk
 refine ⟨by omega,by omega,by omega,by omega,by omega,by omega⟩
theorem lv_valid {t:T2} {j:Int} (h:j∈lvJs t):tvB t=true:=by
 unfold lvJs at h
 cases hv:tvB t
 ·rw [hv] at h;cases h
 ·rfl
theorem Level3 {w:World} {g:Nat} {T:TypeId} {a b c:Value} (h:Blk w g T #[a,b,c]):w.cell? ⟨g,0,none⟩=some a∧w.cell? ⟨g,1,none⟩=some b∧w.cell? ⟨g,2,none⟩=some c:=⟨h.cell 0,h.cell 1,h.cell 2⟩
theorem LevelValid_any (t:T2) (j:Int) (w:World) (hv:tvB t=true) (hj:LvOk t j) :
 Calls Tryz.prog 190 #[.agg #[.int .i64 t.1,.int .i64 t.2,.int .i64 j]] w fun e w'=>e=.returned (.bool true)∧Below w.heap.size w w':=by
 have hb:=tvB_iff.1 hv
 have HT:=Lib.hid (implTermValid_any t (w.alloc (.cells #[.int .i64 t.1,.int .i64 t.2,.int .i64 j] 131)))
 rw [hv] at HT;clear hv
 have HS:=Lib.hid (fun W=>SpinTriangle_any (2*t.2) t.1 j W (by omega) (by omega) (by omega) (by omega) hj.1 hj.2.1 hj.2.2.1 hj.2.2.2.1 hj.2.2.2.2.1 hj.2.2.2.2.2)
 clear hj
 obtain ⟨s,l⟩:=t
 simp only at *
 have HB:=Lib.hid ((Below.refl w.heap.size w).alloc (Nat.le_refl _) (.cells #[.int .i64 s,.int .i64 l,.int .i64 j] 131))
 have HD:=Lib.hid (Blk.new w 131 #[.int .i64 s,.int .i64 l,.int .i64 j])
 go_enter Tryz.func190,Tryz.ntmps190
 go_wp2_with fail
 refine HT.out.mono ?_
 rintro e w1 ⟨rfl,hb1⟩
 have HB1:=Lib.hid (HB.out.trans (hb1.mono HB.out.size))
 obtain ⟨d1,d2,d3⟩:=Level3 (HD.out.sub hb1);clear hb1
 go_wp2_with fail
 refine (HS.out _).mono ?_
 rintro e w2 ⟨rfl,rfl⟩
 go_wp2_with fail
 go_ret
 exact ⟨rfl,HB1.out⟩
theorem LevelText_any (t:T2) (j:Int) (w:World) (hm:j∈lvJs t) :
 Calls Tryz.prog 136 #[.agg #[.int .i64 t.1,.int .i64 t.2,.int .i64 j]] w fun e w'=>e=.returned (.string (bs (tmT t++spT j)))∧Below w.heap.size w w':=by
 have hv:=lv_valid hm
 have HV:=Lib.hid (fun W=>LevelValid_any t j W hv (lv_ok hv hm))
 have hz1:(bs (tmT t)).size≤2:=by rw [bs_size,tmT_len hv];exact Nat.le_refl _
 have hz2:(bs (spT j)).size≤9:=by rw [bs_size];exact spT_len j
 have HX:=Lib.hid (fun W=>implTermText_any t W)
 have HY:=Lib.hid (fun W=>implSpinText_any j W)
 rw [←bs_append]
 generalize bs (tmT t)=X at *
 generalize bs (spT j)=Y at *
 clear hv hm
 obtain ⟨s,l⟩:=t
 simp only at *
 have HB:=Lib.hid ((Below.refl w.heap.size w).alloc (Nat.le_refl _) (.cells #[.int .i64 s,.int .i64 l,.int .i64 j] 131))
 have HD:=Lib.hid (Blk.new w 131 #[.int .i64 s,.int .i64 l,.int .i64 j])
 go_enter Tryz.func136,Tryz.ntmps136
 go_wp2_with fail
 refine (HV.out _).mono ?_
 rintro e w1 ⟨rfl,hb1⟩
 have HB1:=Lib.hid (HB.out.trans (hb1.mono HB.out.size))
 obtain ⟨d1,d2,d3⟩:=Level3 (HD.out.sub hb1);clear hb1
 have k1:=After.cell d1
 have k2:=After.cell d2
 have k3:=After.cell d3
 clear d1 d2 d3
 go_wp2_with fail
 refine wp_region_after (by kernel_rfl) (by kernel_rfl) ?_
 repeat (go_big_quiet_step ((first | (go_at_call 31;exact after_call _ (HX.out _)) | (go_at_call 191;exact after_same _ (HY.out _)))))
 refine wpQuiet_nil ?_
 intro w9 hw'
 obtain ⟨⟨w9',hb9⟩,hw''⟩:=hw'
 subst hw''
 have HB9:=Lib.hid (HB1.out.trans (hb9.mono HB1.out.size));clear hb9
 go_wp2_with fail
 go_ret
 exact ⟨rfl,HB9.out⟩
end
section
open Go.RowKit
attribute [local go_sem ↓] Go.wp_at_zero Go.wp_at_succ
theorem results_ct {P:Program} {fn:Func} {p t1:Tmp} {ty:TypeId} (h:fn.results=#[.cell p ty,.tmp t1]) (tmps:Array Value) (w:World) (g:Nat) (t:TypeId) (cs:Array Value) (fr:Nat × Nat) (d:TypeDesc)
 (hp:tmps.getD p undef=.pointer (some ⟨g,0,none⟩)) (hg:w.heap[g]?=some (.cells cs t fr))
 (hu:P.underlying ty=some d) (hd:(match d with | .struct _ | .array _ _=>true | _=>false)=true) (hi:(P.info? ty).map (·.size)=some cs.size) :
 (results fn tmps).run P w=.ok (.tuple #[.agg cs,tmps.getD t1 undef]) w:=by
 have hp':tmps[p]?.getD undef=.pointer (some ⟨g,0,none⟩):=by simpa using hp
 simp [results,h,hp',asAddr,run_loadVar_row w g t ty cs fr d hg hu hd hi]
theorem idx_strk (l:List UInt8) (k:Nat) (x:UInt8) (hx:l[k]?=some x) (W:World):(Instr.index 9 (.string (bs l)) (.int .i64 (k:Int))).run Tryz.prog W=.ok (.int .u8 (x.toNat:Int)) W:=by
 have hj:k<l.length:=by
  rcases Nat.lt_or_ge k l.length with h1 | h1
  ·exact h1
  ·rw [List.getElem?_eq_none h1] at hx;cases hx
 rw [run_index_string (h:=Tryz.underlying9),dif_pos ⟨by omega,by rw [bs_size];omega⟩]
 have:(bs l)[k]'(by rw [bs_size];exact hj)=x:=by
  rw [List.getElem?_eq_getElem hj] at hx
  injection hx
 simp only [Int.toNat_natCast]
 rw [this]
theorem exactly_any (A:Option Addr) (c n:Nat) (w:World) :
 Calls Tryz.prog 131 #[.agg #[.slice A n c],.int .i64 n] w fun e w'=>e=.returned (.tuple #[])∧Below w.heap.size w w':=by
 have HB:=Lib.hid ((Below.refl w.heap.size w).alloc (Nat.le_refl _) (.cells #[.slice A n c] 91))
 have h0:=(Blk.new w 91 #[.slice A n c]).cell 0
 have HC:Hid ((w.alloc (.cells #[.slice A n c] 91)).cell? ⟨w.heap.size,0,none⟩=some (.slice A n c)):=h0
 clear h0
 go_enter Tryz.func131,Tryz.ntmps131
 go_wp2_with fail
 go_end0
 exact ⟨rfl,HB.out⟩
theorem lcells_at (t:T2):∀(js:List Int) (k:Nat),k<js.length→(lcells t js)[k*3]?=some (.int .i64 t.1)∧(lcells t js)[k*3+1]?=some (.int .i64 t.2)∧(lcells t js)[k*3+2]?=some (.int .i64 (js.getD k 0))
 | [],k,h=>by simp at h
 | j :: js,0,_=>⟨rfl,rfl,rfl⟩
 | j :: js,k+1,h=>by
  obtain ⟨a,b,c⟩:=lcells_at t js k (by simpa using h)
  have e:lcells t (j :: js)=.int .i64 t.1 :: .int .i64 t.2 :: .int .i64 j :: lcells t js:=rfl
  rw [e,show (k+1)*3=k*3+3 by omega,show k*3+3+1=(k*3+1)+3 by omega,show k*3+3+2=(k*3+2)+3 by omega]
  exact ⟨a,b,c⟩
theorem Reads.lev {w:World} {B:Nat} {A:Option Addr} {n:Nat} {t:T2} {js:List Int} (h:Reads w B 3 A n (lcells t js)) (hl:js.length=n) {k:Nat} (hk:k<n) :
 ∃b off j,A=some ⟨b,off,none⟩∧b<B∧w.cell? ⟨b,off+k*3,none⟩=some (.int .i64 t.1)∧w.cell? ⟨b,off+k*3+1,none⟩=some (.int .i64 t.2)∧w.cell? ⟨b,off+k*3+2,none⟩=some (.int .i64 j)∧Hid (js[k]?=some j):=by
 obtain ⟨b,off,e,hb,hc⟩:=h.2 (by omega)
 obtain ⟨x1,x2,x3⟩:=lcells_at t js k (by omega)
 refine ⟨b,off,js.getD k 0,e,hb,?_,?_,?_,?_⟩
 ·exact hc _ _ x1
 ·exact hc _ _ x2
 ·exact hc _ _ x3
 ·unfold Hid
  rw [List.getD_eq_getElem?_getD,List.getElem?_eq_getElem (by omega)];rfl
end
section
open Go.Lib
def spl (c:UInt8):List UInt8→List (List UInt8)
 | []=>[[]]
 | x :: r=>if x=c then [] :: spl c r else match spl c r with
  | []=>[[x]]
  | p :: ps=>(x :: p) :: ps
theorem spl_none {c:UInt8} {l:List UInt8} (h:c∉l):spl c l=[l]:=by
 induction l with
 | nil=>rfl
 | cons x r ih =>
  simp only [List.mem_cons,not_or] at h
  unfold spl
  rw [if_neg (fun e=>h.1 e.symm),ih h.2]
theorem spl_app {c:UInt8} {a r:List UInt8} (h:c∉a):spl c (a++c :: r)=a :: spl c r:=by
 induction a with
 | nil=>show (if c=c then _ else _)=_;rw [if_pos rfl]
 | cons x a ih =>
  simp only [List.mem_cons,not_or] at h
  show (if x=c then [] :: spl c (a++c :: r) else match spl c (a++c :: r) with
   | []=>[[x]]
   | p :: ps=>(x :: p) :: ps)=_
  rw [if_neg (fun e=>h.1 e.symm),ih h.2]
theorem index_app {c:UInt8} {a r:List UInt8} (h:c∉a):index (a++c :: r) [c]=(a.length:Nat):=by
 refine index_first (by simp) ?_ ?_
 ·simp [occAt]
 ·intro j hj
  unfold occAt
  rw [List.drop_append_of_le_length (by omega),List.drop_eq_getElem_cons hj]
  have hne:c≠a[j]:=fun e=>h (e ▸ List.getElem_mem hj)
  show (c==a[j] && _)=false
  rw [beq_eq_false_iff_ne.2 hne];rfl
theorem index_no {c:UInt8} {l:List UInt8} (h:c∉l):index l [c]=-1:=by
 refine index_none fun j hj=>?_
 unfold occAt
 rcases Nat.lt_or_ge j l.length with h1 | h1
 ·rw [List.drop_eq_getElem_cons h1]
  have hne:c≠l[j]:=fun e=>h (e ▸ List.getElem_mem h1)
  show (c==l[j] && _)=false
  rw [beq_eq_false_iff_ne.2 hne];rfl
 ·rw [List.drop_eq_nil_of_le h1];rfl
theorem mem_cut {c:UInt8}:∀{l:List UInt8},c∈l→∃a r,l=a++c :: r∧c∉a
 | x :: l,h=>by
  by_cases e:x=c
  ·subst e;exact ⟨[],l,rfl,by simp⟩
  ·obtain ⟨a,r,rfl,ha⟩:=mem_cut (l:=l) (by simpa [Ne.symm e] using h)
   exact ⟨x :: a,r,rfl,by simp [Ne.symm e,ha]⟩
theorem splitK_spl (c:UInt8):∀(n:Nat) (l:List UInt8),l.length<n→splitK [c] 0 (count l [c]) l=spl c l:=by
 intro n
 induction n with
 | zero=>intro l h;omega
 | succ n ih =>
  intro l hl
  by_cases hm:c∈l
  ·obtain ⟨a,r,rfl,ha⟩:=mem_cut hm
   have hi:=index_app (r:=r) ha
   have hd:(a++c :: r).drop (a.length+1)=r:=by
    rw [List.drop_append,List.drop_eq_nil_of_le (by omega)]
    simp [show a.length+1-a.length=1 by omega]
   rw [count_hit (by simp) hi,spl_app ha,Nat.add_comm 1]
   unfold splitK
   rw [if_neg (by rw [hi];simp),hi]
   simp only [Int.toNat_natCast,List.length_cons,List.length_nil,Nat.zero_add,hd,Nat.add_zero]
   rw [ih r (by simp at hl;omega),List.take_append_of_le_length (Nat.le_refl _),List.take_length]
  ·rw [count_miss (index_no hm),spl_none hm];rfl
theorem count_spl (c:UInt8) (l:List UInt8):count l [c]+1=(spl c l).length:=by
 have h1:=splitK_spl c (l.length+1) l (by omega)
 have h2:=splitB_all (bs [c]) (by rw [bs_size];exact Nat.le_refl _) 0 (countB (bs l) (bs [c])) (bs l) rfl
 have h3:=congrArg List.length (splitB_data (bs [c]) 0 (countB (bs l) (bs [c])) (bs l))
 rw [List.length_map,h2] at h3
 have e1:(bs l).data.toList=l:=by simp [bs]
 have e2:(bs [c]).data.toList=[c]:=by simp [bs]
 have e3:countB (bs l) (bs [c])=count l [c]:=by show count _ _=_;rw [e1,e2]
 rw [e3,e1,e2,h1] at h3
 exact h3
theorem splitB_spl (c:UInt8) (l:List UInt8):splitB (bs [c]) 0 (countB (bs l) (bs [c])) (bs l)=(spl c l).map bs:=by
 have h1:=splitK_spl c (l.length+1) l (by omega)
 have h3:=splitB_data (bs [c]) 0 (countB (bs l) (bs [c])) (bs l)
 have e1:(bs l).data.toList=l:=by simp [bs]
 have e2:(bs [c]).data.toList=[c]:=by simp [bs]
 have e3:countB (bs l) (bs [c])=count l [c]:=by show count _ _=_;rw [e1,e2]
 rw [e3,e1,e2,h1] at h3
 rw [e3,←h3,List.map_map]
 have:∀L:List ByteArray,L=L.map (bs ∘ fun x=>x.data.toList):=fun L=>by
  induction L with
  | nil=>rfl
  | cons x L ih=>rw [List.map_cons,←ih];rfl
 exact this _
end
section
open Go.RowKit Go.Lib
theorem bs_eq (x y:List UInt8):((bs x).toList==(bs y).toList)=decide (x=y):=by
 rw [show (bs x).toList=x from ByteArray.toList_mk x,show (bs y).toList=y from ByteArray.toList_mk y]
 rw [Bool.eq_iff_iff];simp
def Mx (w:World):Prop:=∃m,w.cell? ⟨0,0,none⟩=some (.int .i64 m)
theorem Mx.on {w w':World} (h:Mx w) (hb:Below w.heap.size w w'):Mx w':=by
 obtain ⟨m,hm⟩:=h
 exact ⟨m,(hb.cell (World.block_lt_of_cell? _ _ hm)).trans hm⟩
theorem split_any (l:List UInt8) (c:UInt8) (w:World) (hm:Mx w) (hs:l.length<4294967281) :
 Calls Tryz.prog 23 #[.string (bs l),.string (bs [c])] w fun e w' =>
  e=.returned (.slice (some ⟨w.heap.size,0,none⟩) (spl c l).length (spl c l).length)∧w'=w.alloc (.cells ((spl c l).map fun x=>Value.string (bs x)).toArray 9):=by
 obtain ⟨m,hm⟩:=hm
 have h:=Tryz.strings_Split (bs l) (bs [c]) m w (by rw [bs_size];exact hs) hm (by rw [bs_size];exact Nat.le_refl _)
 rw [splitB_spl,show countB (bs l) (bs [c])+1=(spl c l).length from ?_,List.map_map] at h
 ·exact h
 ·have:countB (bs l) (bs [c])=count l [c]:=by
   show count _ _=_
   rw [show (bs l).data.toList=l by simp [bs],show (bs [c]).data.toList=[c] by simp [bs]]
  rw [this];exact count_spl c l
end
section
open Go.RowKit
attribute [local go_sem ↓] Go.wp_at_zero Go.wp_at_succ
def tmU (s:List UInt8):T2:=(((s.getD 0 0).toNat:Int)-49,Lib.indexByte lts (s.getD 1 0))
def tmF (s:List UInt8):T2 × Bool:=if s.length=2∧tmT (tmU s)=s then (tmU s,true) else ((0,0),false)
def tmV (r:T2 × Bool):Value:=.tuple #[.agg #[.int .i64 r.1.1,.int .i64 r.1.2],.bool r.2]
theorem ix_lts (c:UInt8):-1≤Lib.indexByte lts c∧Lib.indexByte lts c≤8:=by
 have h:∀n:Fin 256,-1≤Lib.indexByte lts (UInt8.ofNat n.1)∧Lib.indexByte lts (UInt8.ofNat n.1)≤8:=by decide +kernel
 have:=h ⟨c.toNat,c.toNat_lt⟩
 rwa [UInt8.ofNat_toNat] at this
theorem u8_rt (c:UInt8):((c.toNat:Int)).toNat.toUInt8=c:=by
 rw [Int.toNat_natCast];show UInt8.ofNat c.toNat=c;exact UInt8.ofNat_toNat
theorem TermFrom_all (s:List UInt8) (w:World) (hl:s.length≤1000000) :
 Calls Tryz.prog 137 #[.string (bs s)] w fun e w'=>e=.returned (tmV (tmF s))∧Below w.heap.size w w':=by
 have HB0:=Lib.hid ((Below.refl w.heap.size w).alloc (Nat.le_refl _) (.cells #[.int .i64 0,.int .i64 0] 39))
 have HX0:=Lib.hid (Blk.new w 39 #[.int .i64 0,.int .i64 0])
 have hzs:(bs s).size≤1000000:=by rw [bs_size];exact hl
 by_cases hn:s.length=2
 case neg =>
  have HE:Hid (tmF s=((0,0),false)):=by unfold Hid tmF;rw [if_neg (fun h=>hn h.1)]
  have hn2:(((bs s).size:Int) != 2)=true:=by rw [bs_size];simp;omega
  have hn3:(bs s).size≠2:=by rw [bs_size];exact hn
  rw [HE.out];clear HE hn
  generalize bs s=X at *
  go_enter Tryz.func137,Tryz.ntmps137
  go_wp2_with fail
  refine bodyPost_ret (results_ct rfl _ _ w.heap.size _ _ _ _ rfl HX0.out Tryz.underlying39 rfl (by kernel_rfl)) rfl ?_
  exact ⟨rfl,HB0.out⟩
 have HX:=Lib.hid (fun W=>implTermText_any (tmU s) W)
 have HE:Hid (tmF s=if tmT (tmU s)=s then (tmU s,true) else ((0,0),false)):=by
  unfold Hid tmF
  by_cases h:tmT (tmU s)=s
  ·rw [if_pos ⟨hn,h⟩,if_pos h]
  ·rw [if_neg (fun h'=>h h'.2),if_neg h]
 rw [HE.out]
 have HBE:=Lib.hid (bs_eq (tmT (tmU s)) s)
 have hn2:(bs s).size=2:=by rw [bs_size];exact hn
 obtain ⟨a,b,rfl⟩:∃a b,s=[a,b]:=by
  match s,hn with
  | [a,b],_=>exact ⟨a,b,rfl⟩
 have ha:(a.toNat:Int)<256:=by have:=a.toNat_lt;omega
 have hbb:(b.toNat:Int)<256:=by have:=b.toNat_lt;omega
 have hix:=ix_lts b
 have htu:tmU [a,b]=((a.toNat:Int)-49,Lib.indexByte lts b):=rfl
 rw [htu] at HX HBE ⊢
 have HI0:Hid (∀W:World,(Instr.index 9 (.string (bs [a,b])) (.int .i64 0)).run Tryz.prog W=.ok (.int .u8 (a.toNat:Int)) W):=fun W=>idx_strk [a,b] 0 a rfl W
 have HI1:Hid (∀W:World,(Instr.index 9 (.string (bs [a,b])) (.int .i64 1)).run Tryz.prog W=.ok (.int .u8 (b.toNat:Int)) W):=fun W=>idx_strk [a,b] 1 b rfl W
 have HIX:Hid (∀W:World,Calls Tryz.prog 192 #[.string ⟨#[83,80,68,70,71,72,73,75,76]⟩,.int .u8 (b.toNat:Int)] W fun e w'=>e=.returned (.int .i64 (Lib.indexByte lts b))∧w'=W):=fun W=>by
  have h:=Tryz.strings_IndexByte ⟨#[83,80,68,70,71,72,73,75,76]⟩ (b.toNat:Int) W
  rw [show (⟨#[83,80,68,70,71,72,73,75,76]⟩:ByteArray).data.toList=lts from rfl,u8_rt] at h
  exact h
 clear hn htu HE hl
 have u1:IntKind.i64.wrap ((a.toNat:Int))=(a.toNat:Int):=IntWalk.i64_in _ (by omega)
 have u2:IntKind.i64.wrap ((a.toNat:Int)-49)=(a.toNat:Int)-49:=IntWalk.i64_in _ (by omega)
 generalize Lib.indexByte lts b=l at *
 generalize (b.toNat:Int)=B at *
 simp only at HX HBE ⊢
 obtain ⟨A,hA⟩:∃A:Int,(a.toNat:Int)=A:=⟨_,rfl⟩
 rw [hA] at u1 u2 HX HBE HI0 ha ⊢
 obtain ⟨eqb,heq⟩:∃q:Bool,decide (tmT (A-49,l)=[a,b])=q:=⟨_,rfl⟩
 have HE:Hid ((if tmT (A-49,l)=[a,b] then ((A-49,l),true) else (((0:Int),(0:Int)),false))=if eqb then ((A-49,l),true) else ((0,0),false)):=by
  unfold Hid
  rw [←heq]
  by_cases h:tmT (A-49,l)=[a,b]
  ·rw [if_pos h,decide_eq_true h];rfl
  ·rw [if_neg h,decide_eq_false h];rfl
 rw [HE.out]
 have hz:=HBE.out
 rw [heq] at hz
 clear hA heq HE HBE
 generalize bs (tmT (A-49,l))=D at *
 generalize bs [a,b]=X at *
 go_enter Tryz.func137,Tryz.ntmps137
 go_wp2_with fail
 have i0:=HI0.out
 have i1:=HI1.out
 obtain ⟨W0,hW0⟩:∃W0,w.alloc (.cells #[.int .i64 0,.int .i64 0] 39)=W0:=⟨_,rfl⟩
 have hsz:W0.heap.size=w.heap.size+1:=by rw [←hW0];simp
 rw [hW0] at HB0 HX0
 rw [hW0]
 clear hW0
 go_region_with ((go_at_call 192;refine (HIX.out _).mono ?_;rintro e w' ⟨rfl,rfl⟩))
 all_goals
  obtain ⟨W1,hW1⟩:∃W1,(W0.alloc (.cells #[.int .i64 (A-49),.int .i64 l] 39)).drew=W1:=⟨_,rfl⟩
  have hst:Below W0.heap.size W0 W1:=by rw [←hW1];exact ((Below.refl _ _).alloc (Nat.le_refl _) _).drew
  have HX1:=Lib.hid (HX0.out.sub hst)
  have HY1:Hid (Blk W1 (w.heap.size+1) 39 #[.int .i64 (A-49),.int .i64 l]):=by
   unfold Hid;rw [←hW1,←hsz];exact (Blk.new W0 39 #[.int .i64 (A-49),.int .i64 l]).drew
  have HB1:=Lib.hid (HB0.out.trans (hst.mono HB0.out.size))
  have HZ1:Hid (w.heap.size+1<W1.heap.size):=by unfold Hid;rw [←hW1,←hsz];show _<(W0.alloc _).heap.size;simp
  rw [hW1]
  clear hW1 hst
  obtain ⟨y1,y2,_,_⟩:=blk2 HY1.out
  go_wp2_with fail
  refine (HX.out _).mono ?_
  rintro e w2 ⟨rfl,hb2⟩
  have HX2:=Lib.hid (HX1.out.sub hb2)
  have HY2:=Lib.hid (HY1.out.sub hb2)
  have HB2:=Lib.hid (HB1.out.trans (hb2.mono HB1.out.size))
  clear hb2 y1 y2
  obtain ⟨y1,y2,_,_⟩:=blk2 HY2.out
  obtain ⟨x1,x2,f1,f2⟩:=blk2 HX2.out
  cases eqb
  ·have HZ:=Lib.hid ((HX2.out.set 0 (.int .i64 0)).set 1 (.int .i64 0))
   have HBZ:=Lib.hid ((HB2.out.setCell (p:=⟨w.heap.size,0,none⟩) (Nat.le_refl _) (.int .i64 0)).setCell (p:=⟨w.heap.size,1,none⟩) (Nat.le_refl _) (.int .i64 0))
   go_wp2_with fail
   refine bodyPost_ret (results_ct rfl _ _ w.heap.size _ _ _ _ rfl HZ.out Tryz.underlying39 rfl (by kernel_rfl)) rfl ?_
   exact ⟨rfl,HBZ.out⟩
  ·have HZ:=Lib.hid ((HX2.out.set 0 (.int .i64 (A-49))).set 1 (.int .i64 l))
   have HBZ:=Lib.hid ((HB2.out.setCell (p:=⟨w.heap.size,0,none⟩) (Nat.le_refl _) (.int .i64 (A-49))).setCell (p:=⟨w.heap.size,1,none⟩) (Nat.le_refl _) (.int .i64 l))
   go_wp2_with fail
   refine bodyPost_ret (results_ct rfl _ _ w.heap.size _ _ _ _ rfl HZ.out Tryz.underlying39 rfl (by kernel_rfl)) rfl ?_
   exact ⟨rfl,HBZ.out⟩
end
end Go.Proofs.YtjdfbnlaiiknpaaGreatDoor
