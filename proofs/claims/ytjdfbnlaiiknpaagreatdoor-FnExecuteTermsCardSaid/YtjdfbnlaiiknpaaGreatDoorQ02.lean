/- Parts of the proof of : Tx1 Tx2 Ak Words2 Tm1 Smg Cpl. -/
import Derived.Test.YtjdfbnlaiiknpaaGreatDoorQ00
import Derived.Test.YtjdfbnlaiiknpaaGreatDoorQ01
import Derived.Deep.DrawnRows
import Derived.Lib.AppendIntMem
set_option maxHeartbeats 20000000
set_option maxRecDepth 1000000
set_option linter.unusedSimpArgs false
set_option linter.unusedVariables false
namespace Go.Proofs.YtjdfbnlaiiknpaaGreatDoor
section
open Go.RowKit
attribute [local go_sem ↓] Go.wp_at_zero Go.wp_at_succ
def bs (l:List UInt8):ByteArray:=⟨l.toArray⟩
theorem bs_append (x y:List UInt8):bs x++bs y=bs (x++y):=ByteArray.mk_append_mk x y
theorem bs_size (l:List UInt8):(bs l).size=l.length:=by show l.toArray.size=_;simp
theorem bs_nil:bs []=⟨#[]⟩:=rfl
theorem bs_inj {x y:List UInt8} (h:bs x=bs y):x=y:=by
 have:(bs x).data.toList=(bs y).data.toList:=by rw [h]
 simpa [bs] using this
theorem ret_str {a b:ByteArray} (h:a=b):Ending.returned (.string a)=.returned (.string b):=by rw [h]
theorem conv_at (W:World) (g:Nat) (x:Int) (h0:0≤x) (h1:x≤255) (hg:Blk W g 5 #[.int .u8 x]) :
 (convert 22 9 (.slice (some ⟨g,0,none⟩) 1 1)).run Tryz.prog W=.ok (.string (bs [UInt8.ofNat x.toNat])) W:=by
 refine run_convert_bytes_back (P:=Tryz.prog) W 22 9 5 ⟨g,0,none⟩ 1 [UInt8.ofNat x.toNat] Tryz.underlying22 Tryz.underlying5 Tryz.underlying9 ?_
 intro j hj
 obtain rfl:j=0:=by simpa using hj
 have:(⟨g,0,none⟩:Addr).add 0=⟨g,0,none⟩:=by simp [Addr.add]
 rw [this,hg.cell]
 simp
 omega
theorem conv_new (W:World) (x:Int) (h0:0≤x) (h1:x≤255) :
 (convert 22 9 (.slice (some ⟨W.heap.size,0,none⟩) 1 1)).run Tryz.prog (W.alloc (.cells #[.int .u8 x] 5))=.ok (.string (bs [UInt8.ofNat x.toNat])) (W.alloc (.cells #[.int .u8 x] 5)) :=
 conv_at _ _ x h0 h1 (Blk.new _ _ _)
theorem dig_step {n:Nat} (h:10≤n):Lib.decDigits n=Lib.decDigits (n / 10)++[UInt8.ofNat (48+n % 10)]:=by
 rw [Lib.decDigits,dif_neg (by omega)]
theorem dig_len:∀(k n:Nat),n<10 ^ (k+1)→(Lib.decDigits n).length≤k+1
 | 0,n,h=>by rw [Lib.decDigits_one (by omega)];simp
 | k+1,n,h=>by
  by_cases h1:n<10
  ·rw [Lib.decDigits_one h1];simp
  ·rw [dig_step (by omega),List.length_append]
   have:=dig_len k (n / 10) (by rw [Nat.pow_succ] at h;omega)
   simp;omega
theorem dig_len7 {n:Nat} (h:n≤1000000):(Lib.decDigits n).length≤7:=dig_len 6 n (by omega)
end
section
open Go.RowKit Go.Sort
attribute [local go_sem ↓] Go.wp_at_zero Go.wp_at_succ
def Tab (w : World) : Prop := Lib.TabBelow Tryz.prog w.heap.size w "internal/strconv.uint64pow10" .u64 Lib.pow10Tab
theorem Tab.on {w w':World} (h:Tab w) (hb:Below w.heap.size w w'):Tab w':=fun W hW=>h W (hb.trans (hW.mono hb.size))
theorem below_grow' (w:World) (k:Nat) (os:Array Obj):Below w.heap.size w (grow (w.drewN k) os) :=
 ⟨rfl,rfl,rfl,by show w.heap.size≤(w.heap++os).size;simp,fun i hi=>by
  show (w.heap++os)[i]?=_
  rw [Array.getElem?_append_left hi]⟩
theorem itoaSmall_any (n:Nat) (h:n<100) (w:World):Calls Tryz.prog 27 #[.int .i64 n] w fun e w'=>e=.returned (.string (bs (Lib.decDigits n)))∧w=w' :=
 (Tryz.strconv_Itoa_small n h w).mono fun _ _ ⟨he,hw⟩=>⟨he,hw.symm⟩
theorem itoa_any (n:Nat) (h:n≤1000000) (w:World) (ht:Tab w):Calls Tryz.prog 27 #[.int .i64 n] w fun e w'=>e=.returned (.string (bs (Lib.decDigits n)))∧Below w.heap.size w w' :=
 (Tryz.strconv_Itoa n (by omega) (by omega) w ht.here).mono fun _ _ ⟨he,k,os,hw⟩=>⟨by rw [he];unfold Lib.itoa;rw [if_neg (by omega),Int.toNat_natCast];rfl,by rw [hw];exact below_grow' w k os⟩
theorem implSpinValid_any (j:Int) (w:World):Calls Tryz.prog 120 #[.int .i64 j] w fun e w'=>e=.returned (.bool (inB j 0 24))∧w=w':=by
 go_enter Tryz.func120,Tryz.ntmps120
 go_wp2
 all_goals
  go_ret
  exact ⟨ret_bool (by simp [inB, *] <;> omega),rfl⟩
theorem specSpinValid_any (j:Int) (w:World):Calls Tryz.prog 166 #[.int .i64 j] w fun e w'=>e=.returned (.bool (inB j 0 24))∧w=w':=by
 go_enter Tryz.func166,Tryz.ntmps166
 go_wp2_with fail
 refine (l6In_any _ _ _ _).mono ?_
 rintro e w1 ⟨rfl,rfl⟩
 go_wp2_with fail
 go_ret
 exact ⟨rfl,rfl⟩
def spT (j:Int):List UInt8:=if inB j 0 24=true then (if j % 2=0 then Lib.decDigits (j / 2).toNat else Lib.decDigits j.toNat++[47,50]) else []
theorem spT_len (j:Int):(spT j).length≤9:=by
 unfold spT
 split
 ·rename_i h
  rw [inB_iff] at h
  split
  ·have:=dig_len7 (n:=(j / 2).toNat) (by omega);omega
  ·have:=dig_len7 (n:=j.toNat) (by omega);simp;omega
 ·simp
theorem implSpinText_any (j:Int) (w:World):Calls Tryz.prog 191 #[.int .i64 j] w fun e w'=>e=.returned (.string (bs (spT j)))∧w=w':=by
 have HV:=Lib.hid (fun W=>implSpinValid_any j W)
 cases hv:inB j 0 24
 ·have he:spT j=[]:=by unfold spT;rw [hv];simp
  rw [he,bs_nil];rw [hv] at HV;clear hv he
  go_enter Tryz.func191,Tryz.ntmps191
  go_wp2_with fail
  refine (HV.out _).mono ?_
  rintro e w1 ⟨rfl,rfl⟩
  go_wp2_with fail
  go_ret
  exact ⟨rfl,rfl⟩
 have hb:=inB_iff.1 hv
 rw [hv] at HV
 obtain ⟨n,rfl⟩:=Int.eq_ofNat_of_zero_le hb.1
 by_cases h2:n % 2=0
 ·have he:spT (n:Int)=Lib.decDigits (n / 2):=by unfold spT;rw [hv,if_pos rfl,if_pos (by omega),show ((n:Int) / 2).toNat=n / 2 by omega]
  rw [he];clear hv he
  have hi:=fun W=>itoaSmall_any (n / 2) (by omega) W
  rw [show (((n / 2:Nat):Int))=(n:Int) / 2 by omega] at hi
  have HI:=Lib.hid hi;clear hi
  have e1:((n:Int) % 2==0)=true:=by simp;omega
  generalize Lib.decDigits (n / 2)=D at *
  go_enter Tryz.func191,Tryz.ntmps191
  go_wp2_with fail
  refine (HV.out _).mono ?_
  rintro e w1 ⟨rfl,rfl⟩
  go_wp2_with fail
  refine (HI.out _).mono ?_
  rintro e w1 ⟨rfl,rfl⟩
  go_wp2_with fail
  go_ret
  exact ⟨rfl,rfl⟩
 ·have he:spT (n:Int)=Lib.decDigits n++[47,50]:=by unfold spT;rw [hv,if_pos rfl,if_neg (by omega),Int.toNat_natCast]
  rw [he,←bs_append];clear hv he
  have HI:=Lib.hid (fun W=>itoaSmall_any n (by omega) W)
  have e1:((n:Int) % 2==0)=false:=by simp;omega
  have hz:(bs (Lib.decDigits n)).size≤7:=by rw [bs_size];exact dig_len7 (by omega)
  generalize bs (Lib.decDigits n)=D at *
  go_enter Tryz.func191,Tryz.ntmps191
  go_wp2_with fail
  refine (HV.out _).mono ?_
  rintro e w1 ⟨rfl,rfl⟩
  go_wp2_with fail
  refine (HI.out _).mono ?_
  rintro e w1 ⟨rfl,rfl⟩
  go_wp2_with fail
  go_ret
  exact ⟨rfl,rfl⟩
end
section
open Go.RowKit
theorem bcell {W w1:World} (hb:Below W.heap.size W w1):(∀b o,b<W.heap.size→w1.cell? ⟨b,o,none⟩=W.cell? ⟨b,o,none⟩)∧(∀b o,b<W.heap.size→w1.frozen? ⟨b,o,none⟩=W.frozen? ⟨b,o,none⟩)∧W.heap.size≤w1.heap.size :=
 ⟨fun b o h=>hb.cell (p:=⟨b,o,none⟩) h,fun b o h=>hb.frozen (p:=⟨b,o,none⟩) h,hb.size⟩
theorem wp_gen {P:Program} {c:Code} {Q:Exit→Act→World→Prop} {a:Act} {W:World} (h:∀W',Hid (W=W')→c.wp P Q a W'):c.wp P Q a W:=h W rfl
theorem results_ct0 {P:Program} {fn:Func} {p t1:Tmp} {ty:TypeId} {cs:Array Value} (h:fn.results=#[.cell p ty,.tmp t1]) (tmps:Array Value) (w:World) (g:Nat) (t:TypeId) (d:TypeDesc)
 (hp:tmps.getD p undef=.pointer (some ⟨g,0,none⟩)) (hg:Blk w g t cs)
 (hu:P.underlying ty=some d) (hd:(match d with | .struct _ | .array _ _=>true | _=>false)=true) (hi:(P.info? ty).map (·.size)=some cs.size) :
 (results fn tmps).run P w=.ok (.tuple #[.agg cs,tmps.getD t1 undef]) w:=by
 have hp':tmps[p]?.getD undef=.pointer (some ⟨g,0,none⟩):=by simpa using hp
 simp [results,h,hp',asAddr,run_loadVar_row w g t ty cs (0,0) d hg hu hd hi]
theorem bel_alloc {a w:World} (h:Below a.heap.size a w) (o:Obj):Below a.heap.size a (w.alloc o):=h.alloc h.size o
theorem bel_set {a w:World} {g i:Nat} {u:Value} (h:Below a.heap.size a w) (hg:a.heap.size≤g):Below a.heap.size a (w.setCell ⟨g,i,none⟩ u):=h.setCell (p:=⟨g,i,none⟩) hg u
theorem bel_sub {a w w':World} (h:Below a.heap.size a w) (k:Below w.heap.size w w'):Below a.heap.size a w':=h.trans (k.mono h.size)
theorem bel_drew {a w:World} (h:Below a.heap.size a w):Below a.heap.size a w.drew:=h.drew
theorem blk_sub {w w':World} {g:Nat} {t:TypeId} {cs:Array Value} (h:Blk w g t cs) (hb:Below w.heap.size w w'):Blk w' g t cs:=h.sub hb
theorem blk_far {w:World} {g p i:Nat} {t:TypeId} {cs:Array Value} {u:Value} (h:Blk w g t cs) (hp:g≠p):Blk (w.setCell ⟨p,i,none⟩ u) g t cs:=h.far (p:=⟨p,i,none⟩) hp u
theorem blk_new' {w:World} {g:Nat} {t:TypeId} {cs:Array Value} (h:w.heap.size=g):Blk (w.alloc (.cells cs t)) g t cs:=h ▸ Blk.new w t cs
theorem blk_set2 {w:World} {g:Nat} {t:TypeId} {a b x y:Value} (h:Blk w g t #[a,b]):Blk ((w.setCell ⟨g,0,none⟩ x).setCell ⟨g,1,none⟩ y) g t #[x,y]:=(h.set 0 x).set 1 y
theorem blk_far2 {w:World} {g p:Nat} {t:TypeId} {cs:Array Value} {x y:Value} (h:Blk w g t cs) (hp:g≠p):Blk ((w.setCell ⟨p,0,none⟩ x).setCell ⟨p,1,none⟩ y) g t cs:=blk_far (blk_far h hp) hp
theorem bel_set2 {a w:World} {g:Nat} {x y:Value} (h:Below a.heap.size a w) (hg:a.heap.size≤g):Below a.heap.size a ((w.setCell ⟨g,0,none⟩ x).setCell ⟨g,1,none⟩ y):=bel_set (bel_set h hg) hg
theorem cell_far {w:World} {g i b q:Nat} {u v:Value} (hne:b≠g) (h:w.cell? ⟨b,q,none⟩=some v):(w.setCell ⟨g,i,none⟩ u).cell? ⟨b,q,none⟩=some v :=
 (World.cell?_of_block (Below.heap_setCell w ⟨g,i,none⟩ u b hne)).trans h
theorem cell_sub {w w':World} {b q:Nat} {v:Value} (hb:Below w.heap.size w w') (h:w.cell? ⟨b,q,none⟩=some v):w'.cell? ⟨b,q,none⟩=some v:=(hb.cell (World.block_lt_of_cell? _ _ h)).trans h
end
section
open Go.RowKit
theorem ownsRow_drew' {w:World} {base:Nat} {e:TypeId} {size n:Nat} {v:Value} {xs:List Value} (h:w.ownsRow base e size v n xs):w.drew.ownsRow base e size v n xs:=h
theorem one1 {a:Value} (h:a.oneCell'=true):∀u∈(#[a]:Array Value).toList,u.oneCell'=true:=by simp [h]
theorem one3 {a b c:Value} (h:a.oneCell'=true) (h':b.oneCell'=true) (h2:c.oneCell'=true):∀u∈(#[a,b,c]:Array Value).toList,u.oneCell'=true:=by simp [h,h',h2]
def KeepT (e:TypeId) (w w':World):Prop:=∀(k:Nat) (cs:Array Value) (t:TypeId) (m:Nat × Nat),w.heap[k]?=some (.cells cs t m)→t≠e→w'.heap[k]?=some (.cells cs t m)
theorem keepT_refl (e:TypeId) (w:World):KeepT e w w:=fun _ _ _ _ h _=>h
theorem keepT_of {w w':World} {base:Nat} {e:TypeId} {size n:Nat} {v:Value} {xs:List Value} (hown:w.ownsRow base e size v n xs) (hg:w.grownBy w' v.ownBlock):KeepT e w w':=by
 intro k cs t m hk ht
 have hlt:k<w.heap.size:=by
  rcases Nat.lt_or_ge k w.heap.size with hlt | hge
  ·exact hlt
  ·rw [Array.getElem?_eq_none hge] at hk;cases hk
 rw [hg.block k hlt ?_]
 ·exact hk
 ·intro he
  rcases hown.2 with ⟨rfl,_⟩ | ⟨g,cap,cur,rfl,_,hh,_⟩
  ·simp [Value.ownBlock] at he
  ·have:k=g:=by simpa [Value.ownBlock] using he
   subst this
   rw [hk] at hh
   injection hh with hh
   injection hh with _ hh2
   exact ht hh2
theorem keepT_set {e:TypeId} {a w:World} {g i:Nat} {cs:Array Value} (h:KeepT e a w) (hb:Blk w g e cs) (u:Value):KeepT e a (w.setCell ⟨g,i,none⟩ u):=fun k cs' t m hk ht=>by
 have h1:=h k cs' t m hk ht
 rw [Below.heap_setCell _ _ _ _ ?_]
 ·exact h1
 ·show k≠g
  rintro rfl
  unfold Blk at hb
  rw [hb] at h1
  injection h1 with h1
  injection h1 with _ h2
  exact ht h2.symm
theorem Blk.keepT {e:TypeId} {w w':World} {g:Nat} {t:TypeId} {cs:Array Value} (h:Blk w g t cs) (hk:KeepT e w w') (ht:t≠e):Blk w' g t cs:=hk g cs t _ h ht
theorem own_keepT {e e':TypeId} {w w':World} {base size n:Nat} {v:Value} {xs:List Value} (h:w.ownsRow base e' size v n xs) (hk:KeepT e w w') (ht:e'≠e):w'.ownsRow base e' size v n xs:=by
 refine ⟨h.1,?_⟩
 rcases h.2 with h2 | ⟨g,cap,cur,h3,h4,h5,h6⟩
 ·exact .inl h2
 ·exact .inr ⟨g,cap,cur,h3,h4,hk _ _ _ _ h5 ht,h6⟩
theorem own_mono {w:World} {base base':Nat} {e:TypeId} {size n:Nat} {v:Value} {xs:List Value} (h:w.ownsRow base e size v n xs) (hb:base'≤base):w.ownsRow base' e size v n xs:=by
 refine ⟨h.1,?_⟩
 rcases h.2 with h2 | ⟨g,cap,cur,h3,h4,h5⟩
 ·exact .inl h2
 ·exact .inr ⟨g,cap,cur,h3,Nat.le_trans hb h4,h5⟩
theorem own_cell_keep {e e':TypeId} {w w':World} {base size n c b off:Nat} {xs:List Value} (h:w.ownsRow base e' size (.slice (some ⟨b,off,none⟩) n c) n xs) (hk:KeepT e w w') (ht:e'≠e) (q:Nat) :
 w'.cell? ⟨b,q,none⟩=w.cell? ⟨b,q,none⟩:=by
 rcases h.2 with ⟨hv,_⟩ | ⟨g,cap,cur,hv,_,hh,_⟩
 ·cases hv
 ·injection hv with hv
  injection hv with hv
  injection hv with hv
  subst hv
  exact World.cell?_of_block ((hk _ _ _ _ hh ht).trans hh.symm)
theorem cell_past {w:World} {b q:Nat} {v:Value} (o:Obj) (h:w.cell? ⟨b,q,none⟩=some v):(w.alloc o).cell? ⟨b,q,none⟩=some v :=
 (World.cell?_alloc_lt w o _ (World.block_lt_of_cell? _ _ h)).trans h
theorem step_app2 {P:Program} (w:World) {ops:Array Oper} {o:Oper} {a:Act} {K:Act→World→Prop} {Q:Exit→Act→World→Prop} {E:Prop} (hgd:o.guard=none) (s x:Operand) (t:TypeId)
 (ho:o.op=.call { callee:=.builtin .append,args:=#[s,x],argTypes:=#[t,t] })
 (base:Nat) (e:TypeId) (size bytes:Nat) (hE:ElemOk P t e size bytes)
 (A:Option Addr) (c n:Nat) (xs:List Value) (hs:a.eval s=.slice A n c) (hown:w.ownsRow base e size (.slice A n c) n xs)
 (L:Nat) (cs:Array Value) (hx:a.eval x=.slice (some ⟨L,0,none⟩) 1 1) (hL:Blk w L e cs) (hcs:cs.size=size) (h1:∀u∈cs.toList,u.oneCell'=true)
 (hn:n≤1000000) (hby:bytes≤1000000) (hbase:base≤w.heap.size)
 (h:∀A' c' w',w'.ownsRow base e size (.slice A' (n+1) c') (n+1) (xs++cs.toList)→n+1≤c'→Below base w w'→KeepT e w w'→K (a.put o.dst (.slice A' (n+1) c')) w') :
 if Region.wanted o (yielded ops a.tmps)=true then Oper.wp P o a w K Q else E:=by
 have hw:Region.wanted o (yielded ops a.tmps)=true:=by simp [Region.wanted,hgd]
 rw [if_pos hw]
 obtain ⟨ht,i,z,hi,hz,hsize,hbytes,hzs,hsz⟩:=hE
 refine wp_append_own w s x t ho base e i z size bytes ht hi hz hsize hbytes hzs hsz _ n xs hs hown ⟨L,0,none⟩ 1 1 cs.toList hx (by simp [hcs]) ?_ h1 (by unfold maxLen;omega) ?_ hbase ?_
 ·intro j u hj
  have:(⟨L,0,none⟩:Addr).add j=⟨L,j,none⟩:=by unfold Addr.add;split <;> simp_all
  rw [this,hL.cell]
  simpa using hj
 ·calc (n+1)*bytes≤1000001*1000000:=Nat.mul_le_mul (by omega) hby
   _≤_:=by omega
 ·intro v' w' hown' hg _
  obtain ⟨A',c',rfl,hc'⟩:=own_form hown'
  refine h A' c' w' hown' hc' ?_ (keepT_of hown hg)
  exact (Below.refl base w).grown hg hbase (fun k hk=>(hown.lt k hk).1)
end
section
open Go.RowKit
attribute [local go_sem ↓] Go.wp_at_zero Go.wp_at_succ
def tvB (t:T2):Bool:=inB t.1 0 8 && inB t.2 0 8
theorem tvB_iff {t:T2}:tvB t=true↔(0≤t.1∧t.1≤8)∧(0≤t.2∧t.2≤8):=by simp [tvB,inB_iff]
theorem specTermValid_any (t:T2) (w:World) :
 Calls Tryz.prog 77 #[.agg #[.int .i64 t.1,.int .i64 t.2]] w fun e w'=>e=.returned (.bool (tvB t))∧Below w.heap.size w w':=by
 obtain ⟨a,b⟩:=t
 have hB:=(Below.refl w.heap.size w).alloc (Nat.le_refl _) (.cells #[.int .i64 a,.int .i64 b] 39)
 have hT:tvB (a,b)=(inB a 0 8 && inB b 0 8):=rfl
 have HT:=Lib.hid hT;clear hT
 cases ha:inB a 0 8
 ·go_enter Tryz.func77,Tryz.ntmps77
  go_wp2_with (go_at_call 76;refine (l6In_any _ _ _ _).mono ?_;rintro e w' ⟨rfl,rfl⟩)
  go_ret
  exact ⟨ret_bool (by rw [HT.out,ha];rfl),hB⟩
 ·go_enter Tryz.func77,Tryz.ntmps77
  go_wp2_with (go_at_call 76;refine (l6In_any _ _ _ _).mono ?_;rintro e w' ⟨rfl,rfl⟩)
  go_ret
  exact ⟨ret_bool (by rw [HT.out,ha];rfl),hB⟩
theorem implTermValid_any (t:T2) (w:World) :
 Calls Tryz.prog 30 #[.agg #[.int .i64 t.1,.int .i64 t.2]] w fun e w'=>e=.returned (.bool (tvB t))∧Below w.heap.size w w':=by
 obtain ⟨a,b⟩:=t
 have hB:=(Below.refl w.heap.size w).alloc (Nat.le_refl _) (.cells #[.int .i64 a,.int .i64 b] 39)
 have hT:tvB (a,b)=(inB a 0 8 && inB b 0 8):=rfl
 have HT:=Lib.hid hT;clear hT
 go_enter Tryz.func30,Tryz.ntmps30
 go_wp2
 all_goals
  go_ret
  refine ⟨ret_bool ?_,hB⟩
  rw [HT.out]
  simp [inB, *] <;> omega
end
section
open Go.RowKit
theorem l1Abs_any (n:Int) (w:World) (h:-9223372036854775807≤n) (h':n≤9223372036854775807) :
 Calls Tryz.prog 78 #[.int .i64 n] w fun e w'=>e=.returned (.int .i64 (n.natAbs:Int))∧w=w':=by
 by_cases h1:n<0
 ·go_enter Tryz.func78,Tryz.ntmps78
  go_wp2
  go_ret
  exact ⟨ret_int (by omega),rfl⟩
 ·go_enter Tryz.func78,Tryz.ntmps78
  go_wp2
  go_ret
  exact ⟨ret_int (by omega),rfl⟩
theorem abs_any (n:Int) (w:World) (h:-9223372036854775807≤n) (h':n≤9223372036854775807) :
 Calls Tryz.prog 121 #[.int .i64 n] w fun e w'=>e=.returned (.int .i64 (n.natAbs:Int))∧w=w':=by
 by_cases h1:n<0
 ·go_enter Tryz.func121,Tryz.ntmps121
  go_wp2
  go_ret
  exact ⟨ret_int (by omega),rfl⟩
 ·go_enter Tryz.func121,Tryz.ntmps121
  go_wp2
  go_ret
  exact ⟨ret_int (by omega),rfl⟩
end
section
open Go.RowKit
def icells (l:List Int):List Value:=l.map (Value.int .i64)
def cplTo (a b:Int) (k:Nat):List Int:=(List.range k).map fun i:Nat=>((a-b).natAbs:Int)+2*(i:Int)
def cpl (a b:Int):List Int:=cplTo a b ((min a b).toNat+1)
theorem cplTo_succ (a b:Int) (k:Nat):cplTo a b (k+1)=cplTo a b k++[((a-b).natAbs:Int)+2*(k:Int)]:=by
 simp [cplTo,List.range_succ]
theorem cplTo_len (a b:Int) (k:Nat):(cplTo a b k).length=k:=by simp [cplTo]
theorem cpl_len (a b:Int):(cpl a b).length=(min a b).toNat+1:=cplTo_len _ _ _
theorem icells_snoc (l:List Int) (x:Int):icells (l++[x])=icells l++[.int .i64 x]:=by simp [icells]
theorem elInt:ElemOk Tryz.prog 94 3 1 8:=elemOk Tryz.underlying94 (z:=.int .i64 0) (by kernel_rfl) rfl (by omega)
def IntsPost (w:World) (l:List Int) (e:Ending) (w':World):Prop :=
 (∃A c,e=.returned (.slice A l.length c)∧w'.ownsRow w.heap.size 3 1 (.slice A l.length c) l.length (icells l))∧Below w.heap.size w w'
theorem specSpinCoupled_any (a b:Int) (w:World) (a0:0≤a) (a1:a≤24) (b0:0≤b) (b1:b≤24) (h:a+b≤24) :
 Calls Tryz.prog 160 #[.int .i64 a,.int .i64 b] w (IntsPost w (cpl a b)):=by
 have ha:inB a 0 24=true:=inB_iff.2 ⟨a0,a1⟩
 have hb:inB b 0 24=true:=inB_iff.2 ⟨b0,b1⟩
 have HO:=Lib.hid (own_empty w 3 1)
 have HB:=Lib.hid ((Below.refl w.heap.size w).alloc (Nat.le_refl _) (.cells #[] 3))
 go_enter Tryz.func160,Tryz.ntmps160
 go_wp2_with (first
  | (go_at_call 166;refine (specSpinValid_any _ _).mono ?_;rintro e w' ⟨rfl,rfl⟩)
  | (go_at_call 78;refine (l1Abs_any _ _ (by omega) (by omega)).mono ?_;rintro e w' ⟨rfl,rfl⟩))
 go_loopw [5,6] (fun v i wr=>∃(k:Nat) (A:Option Addr) (c:Nat),k≤(min a b).toNat+1∧i=.int .i64 (((a-b).natAbs:Int)+2*(k:Int))∧v=.slice A k c∧wr.ownsRow w.heap.size 3 1 (.slice A k c) k (icells (cplTo a b k))∧Below w.heap.size w wr) (fun _ i _=>(a+b+2-intOf i).toNat)
 case atStart=>exact ⟨0,_,_,by omega,by go_num,rfl,HO.out,HB.out⟩
 case round =>
  obtain ⟨k,A,c,hk,rfl,rfl,hown,hB⟩:=hrel
  have HW:=Lib.hid hown;clear hown
  have HB1:=Lib.hid hB;clear hB
  by_cases hlt:k≤(min a b).toNat
  ·have g1:((a-b).natAbs:Int)+2*(k:Int)≤a+b:=by omega
   generalize hz:((a-b).natAbs:Int)+2*(k:Int)=z at *
   have HZ:=Lib.hid hz
   have z0:0≤z:=by omega
   clear hz
   go_wp2_with (at_builtin;refine wpList_app1 _ rfl (.tmp 34) (.tmp 36) _ rfl w.heap.size 3 1 8 elInt A c k (icells (cplTo a b k)) rfl (HW.out.alloc _) wr.heap.size #[.int .i64 z] rfl (Blk.new wr _ _) rfl ?h1 (by omega) (by omega) (by have:=HB1.out.size;simp;omega) ?_)
   case h1=>rfl
   intro A' c' w3 hown3 hc3 hb3
   have HW3:=Lib.hid hown3;clear hown3
   have HB3:=Lib.hid ((HB1.out.alloc HB1.out.size _).trans hb3);clear hb3
   go_wp2_with fail
   go_roundw
   case rel =>
    refine ⟨k+1,A',c',by omega,by rw [←HZ.out];go_num,rfl,?_,HB3.out⟩
    rw [cplTo_succ,icells_snoc,HZ.out];exact HW3.out
   case measure=>simp [intOf];omega
  ·have g1:¬(((a-b).natAbs:Int)+2*(k:Int)≤a+b):=by omega
   generalize ((a-b).natAbs:Int)+2*(k:Int)=z at *
   go_wp2_with fail
   go_ret
   have hk':k=(min a b).toNat+1:=by omega
   subst hk'
   have hr:=HW.out
   exact ⟨⟨A,c,by rw [cpl_len];rfl,by rw [cpl_len];exact hr⟩,HB1.out⟩
theorem implSpinCoupled_any (a b:Int) (w:World) (a0:0≤a) (a1:a≤24) (b0:0≤b) (b1:b≤24) (h:a+b≤24) :
 Calls Tryz.prog 72 #[.int .i64 a,.int .i64 b] w (IntsPost w (cpl a b)):=by
 have ha:inB a 0 24=true:=inB_iff.2 ⟨a0,a1⟩
 have hb:inB b 0 24=true:=inB_iff.2 ⟨b0,b1⟩
 have HO:=Lib.hid (World.ownsRow_nil w w.heap.size 3 1)
 have HB:=Lib.hid (Below.refl w.heap.size w)
 go_enter Tryz.func72,Tryz.ntmps72
 go_wp2_with (first
  | (go_at_call 120;refine (implSpinValid_any _ _).mono ?_;rintro e w' ⟨rfl,rfl⟩)
  | (go_at_call 121;refine (abs_any _ _ (by omega) (by omega)).mono ?_;rintro e w' ⟨rfl,rfl⟩))
 go_loopw [5,6] (fun v i wr=>∃(k:Nat) (A:Option Addr) (c:Nat),k≤(min a b).toNat+1∧i=.int .i64 (((a-b).natAbs:Int)+2*(k:Int))∧v=.slice A k c∧wr.ownsRow w.heap.size 3 1 (.slice A k c) k (icells (cplTo a b k))∧Below w.heap.size w wr) (fun _ i _=>(a+b+2-intOf i).toNat)
 case atStart=>exact ⟨0,_,_,by omega,by go_num,rfl,HO.out,HB.out⟩
 case round =>
  obtain ⟨k,A,c,hk,rfl,rfl,hown,hB⟩:=hrel
  have HW:=Lib.hid hown;clear hown
  have HB1:=Lib.hid hB;clear hB
  by_cases hlt:k≤(min a b).toNat
  ·have g1:((a-b).natAbs:Int)+2*(k:Int)≤a+b:=by omega
   generalize hz:((a-b).natAbs:Int)+2*(k:Int)=z at *
   have HZ:=Lib.hid hz
   have z0:0≤z:=by omega
   clear hz
   go_wp2_with (at_builtin;refine wpList_app1 _ rfl (.tmp 32) (.tmp 34) _ rfl w.heap.size 3 1 8 elInt A c k (icells (cplTo a b k)) rfl (HW.out.alloc _) wr.heap.size #[.int .i64 z] rfl (Blk.new wr _ _) rfl ?h1 (by omega) (by omega) (by have:=HB1.out.size;simp;omega) ?_)
   case h1=>rfl
   intro A' c' w3 hown3 hc3 hb3
   have HW3:=Lib.hid hown3;clear hown3
   have HB3:=Lib.hid ((HB1.out.alloc HB1.out.size _).trans hb3);clear hb3
   go_wp2_with fail
   go_roundw
   case rel =>
    refine ⟨k+1,A',c',by omega,by rw [←HZ.out];go_num,rfl,?_,HB3.out⟩
    rw [cplTo_succ,icells_snoc,HZ.out];exact HW3.out
   case measure=>simp [intOf];omega
  ·have g1:¬(((a-b).natAbs:Int)+2*(k:Int)≤a+b):=by omega
   generalize ((a-b).natAbs:Int)+2*(k:Int)=z at *
   go_wp2_with fail
   go_ret
   have hk':k=(min a b).toNat+1:=by omega
   subst hk'
   have hr:=HW.out
   exact ⟨⟨A,c,by rw [cpl_len];rfl,by rw [cpl_len];exact hr⟩,HB1.out⟩
end
end Go.Proofs.YtjdfbnlaiiknpaaGreatDoor
