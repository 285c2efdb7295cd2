/- Parts of the proof of : Lev Tx3. -/
import Derived.Test.YtjdfbnlaiiknpaaGreatDoorQ02
import Derived.Deep.RegionHeld3
set_option maxHeartbeats 20000000
set_option maxRecDepth 1000000
set_option linter.unusedSimpArgs false
set_option linter.unusedVariables false
namespace Go.Proofs.YtjdfbnlaiiknpaaGreatDoor
section
open Go.RowKit
attribute [local go_sem ↓] Go.wp_at_zero Go.wp_at_succ
def lvJs (t:T2):List Int:=if tvB t then cpl (2*t.2) t.1 else []
def lcells (t:T2) (js:List Int):List Value:=js.flatMap fun j=>[.int .i64 t.1,.int .i64 t.2,.int .i64 j]
theorem lcells_snoc (t:T2) (js:List Int) (j:Int):lcells t (js++[j])=lcells t js++[.int .i64 t.1,.int .i64 t.2,.int .i64 j]:=by simp [lcells]
theorem icells_at (l:List Int) (k:Nat) (h:k<l.length):(icells l)[k]?=some (.int .i64 l[k]):=by simp [icells,h]
theorem Reads.int {w:World} {B:Nat} {A:Option Addr} {n:Nat} {l:List Int} (h:Reads w B 1 A n (icells l)) {k:Nat} (hk:k<n) :
 ∃b off x,A=some ⟨b,off,none⟩∧b<B∧w.cell? ⟨b,off+k,none⟩=some (.int .i64 x)∧Hid (l[k]?=some x)∧Hid (l.take (k+1)=l.take k++[x]):=by
 obtain ⟨b,off,e,hb,hc⟩:=h.2 (by omega)
 have hl:l.length=n:=by have:=h.1;simp [icells] at this;omega
 have hkl:k<l.length:=by omega
 exact ⟨b,off,_,e,hb,hc _ _ (icells_at l k hkl),by unfold Hid;rw [List.getElem?_eq_getElem hkl],by unfold Hid;rw [List.take_succ_eq_append_getElem hkl]⟩
theorem elLevel:ElemOk Tryz.prog 137 131 3 24:=elemOk Tryz.underlying137 (z:=.agg #[.int .i64 0,.int .i64 0,.int .i64 0]) (by kernel_rfl) rfl (by omega)
def LevelsPost (w:World) (t:T2) (e:Ending) (w':World):Prop :=
 (∃A c,e=.returned (.slice A (lvJs t).length c)∧w'.ownsRow w.heap.size 131 3 (.slice A (lvJs t).length c) (lvJs t).length (lcells t (lvJs t)))∧Below w.heap.size w w'
theorem implLevelsOf_any (t:T2) (w:World) :
 Calls Tryz.prog 138 #[.agg #[.int .i64 t.1,.int .i64 t.2]] w (LevelsPost w t):=by
 obtain ⟨s,l⟩:=t
 have HB:=Lib.hid ((Below.refl w.heap.size w).alloc (Nat.le_refl _) (.cells #[.int .i64 s,.int .i64 l] 39))
 have HD:=Lib.hid (Blk.new w 39 #[.int .i64 s,.int .i64 l])
 cases hv:tvB (s,l)
 ·have HL:=Lib.hid (show lvJs (s,l)=[] by unfold lvJs;rw [hv];rfl)
  have HT:=Lib.hid (implTermValid_any (s,l) (w.alloc (.cells #[.int .i64 s,.int .i64 l] 39)))
  rw [hv] at HT
  clear hv
  go_enter Tryz.func138,Tryz.ntmps138
  go_wp2_with fail
  refine HT.out.mono ?_
  rintro e w1 ⟨rfl,hb1⟩
  have HB1:=Lib.hid (HB.out.trans (hb1.mono HB.out.size));clear hb1
  go_wp2_with fail
  go_ret
  exact ⟨⟨none,0,by rw [HL.out];rfl,by rw [HL.out];exact World.ownsRow_nil _ _ _ _⟩,HB1.out⟩
 ·have hv2:=tvB_iff.1 hv
  simp only at hv2
  obtain ⟨⟨s0,s1⟩,l0,l1⟩:=hv2
  have HL:=Lib.hid (show lvJs (s,l)=cpl (2*l) s by unfold lvJs;rw [hv];rfl)
  have HT:=Lib.hid (implTermValid_any (s,l) (w.alloc (.cells #[.int .i64 s,.int .i64 l] 39)))
  rw [hv] at HT
  clear hv
  go_enter Tryz.func138,Tryz.ntmps138
  go_wp2_with fail
  refine HT.out.mono ?_
  rintro e w1 ⟨rfl,hb1⟩
  have HB1:=Lib.hid (HB.out.trans (hb1.mono HB.out.size))
  have HD1:=Lib.hid (HD.out.sub hb1);clear hb1 HB HD
  obtain ⟨d1,d2,_,_⟩:=blk2 HD1.out
  go_wp2_with fail
  refine (implSpinCoupled_any (2*l) s w1 (by omega) (by omega) (by omega) (by omega) (by omega)).mono ?_
  rintro e w2 ⟨⟨A,c,rfl,hr2⟩,hb2⟩
  have HD2:=Lib.hid (HD1.out.sub hb2)
  have HB2:=Lib.hid (HB1.out.trans (hb2.mono HB1.out.size))
  have HR2:=Lib.hid (own_reads hr2)
  have hn:=cpl_len (2*l) s
  have hn2:(cpl (2*l) s).length≤20:=by omega
  generalize hq:(cpl (2*l) s).length=n at *
  have HN:=Lib.hid hq
  clear hb2 HD1 HB1 d1 d2 hr2 hn hq
  have ho:=World.ownsRow_nil w2 w.heap.size 131 3
  go_wp2_with fail
  go_loopw [3,5,16] (fun v u i wr=>∃(k:Nat) (A:Option Addr) (c:Nat),k≤n∧i=.int .i64 k∧v=.slice A k c∧wr.ownsRow w2.heap.size 131 3 (.slice A k c) k (lcells (s,l) ((cpl (2*l) s).take k))∧Below w2.heap.size w2 wr) (fun _ _ i _=>n-(intOf i).toNat)
  case atStart=>exact ⟨0,none,0,Nat.zero_le _,rfl,rfl,World.ownsRow_nil w2 w2.heap.size 131 3,Below.refl _ _⟩
  case round =>
   clear ho
   obtain ⟨k,A',c',hk,rfl,rfl,hown,hB⟩:=hrel
   have HW:=Lib.hid hown;clear hown
   have HB:=Lib.hid hB;clear hB
   by_cases hlt:k<n
   ·obtain ⟨b,off,x,rfl,hb,h1,H3,H4⟩:=(HR2.out.below HB.out).int hlt
    obtain ⟨d1,d2,_,_⟩:=blk2 (HD2.out.sub HB.out)
    go_wp2_with (at_builtin;refine wpList_app1 _ rfl (.tmp 20) (.tmp 24) _ rfl w2.heap.size 131 3 24 elLevel A' c' k (lcells (s,l) ((cpl (2*l) s).take k)) rfl (HW.out.alloc _) wr.heap.size #[.int .i64 s,.int .i64 l,.int .i64 x] rfl (Blk.new wr _ _) rfl ?h1 (by omega) (by omega) (by have:=HB.out.size;simp;omega) ?_)
    case h1=>exact ⟨rfl,rfl,rfl⟩
    intro A'' c'' w3 hown3 hc3 hb3
    have HW3:=Lib.hid hown3;clear hown3
    have HB3:=Lib.hid ((HB.out.alloc HB.out.size _).trans hb3);clear hb3
    go_wp2_with fail
    go_roundw
    case rel =>
     refine ⟨k+1,A'',c'',by omega,by go_num,rfl,?_,HB3.out⟩
     rw [H4.out,lcells_snoc];exact HW3.out
    case measure=>simp [intOf];omega
   ·go_wp2_with fail
    go_ret
    have hk':k=n:=by omega
    subst hk'
    have hr:=own_mono HW.out (HB2.out.size)
    rw [List.take_of_length_le (by rw [HN.out];exact Nat.le_refl _)] at hr
    exact ⟨⟨A',c',by rw [HL.out,HN.out];rfl,by rw [HL.out,HN.out];exact hr⟩,HB2.out.trans (HB.out.mono HB2.out.size)⟩
theorem specLevelsOf_any (t:T2) (w:World) :
 Calls Tryz.prog 104 #[.agg #[.int .i64 t.1,.int .i64 t.2]] w (LevelsPost w t):=by
 obtain ⟨s,l⟩:=t
 have HB:=Lib.hid (((Below.refl w.heap.size w).alloc (Nat.le_refl _) (.cells #[.int .i64 s,.int .i64 l] 39)).alloc (by simp) (.cells #[] 131))
 have HD:=Lib.hid ((Blk.new w 39 #[.int .i64 s,.int .i64 l]).alloc (.cells #[] 131))
 have HE0:=Lib.hid (own_empty (w.alloc (.cells #[.int .i64 s,.int .i64 l] 39)) 131 3)
 cases hv:tvB (s,l)
 ·have HL:=Lib.hid (show lvJs (s,l)=[] by unfold lvJs;rw [hv];rfl)
  have HT:=Lib.hid (specTermValid_any (s,l) ((w.alloc (.cells #[.int .i64 s,.int .i64 l] 39)).alloc (.cells #[] 131)))
  rw [hv] at HT
  clear hv
  go_enter Tryz.func104,Tryz.ntmps104
  go_wp2_with fail
  refine HT.out.mono ?_
  rintro e w1 ⟨rfl,hb1⟩
  have HB1:=Lib.hid (HB.out.trans (hb1.mono HB.out.size))
  have HX:=Lib.hid hb1;clear hb1
  go_wp2_with fail
  go_ret
  exact ⟨⟨_,_,by rw [HL.out];rfl,by rw [HL.out];have hq:=own_below HE0.out HX.out;rw [World.size_alloc] at hq;exact own_mono hq (Nat.le_succ _)⟩,HB1.out⟩
 ·have hv2:=tvB_iff.1 hv
  simp only at hv2
  obtain ⟨⟨s0,s1⟩,l0,l1⟩:=hv2
  have HL:=Lib.hid (show lvJs (s,l)=cpl (2*l) s by unfold lvJs;rw [hv];rfl)
  have HT:=Lib.hid (specTermValid_any (s,l) ((w.alloc (.cells #[.int .i64 s,.int .i64 l] 39)).alloc (.cells #[] 131)))
  rw [hv] at HT
  clear hv
  go_enter Tryz.func104,Tryz.ntmps104
  go_wp2_with fail
  refine HT.out.mono ?_
  rintro e w1 ⟨rfl,hb1⟩
  have HB1:=Lib.hid (HB.out.trans (hb1.mono HB.out.size))
  have HD1:=Lib.hid (HD.out.sub hb1)
  have HE1:=Lib.hid (own_below HE0.out hb1);clear hb1 HB HD HE0
  obtain ⟨d1,d2,_,_⟩:=blk2 HD1.out
  go_wp2_with fail
  refine (specSpinCoupled_any (2*l) s w1 (by omega) (by omega) (by omega) (by omega) (by omega)).mono ?_
  rintro e w2 ⟨⟨A0,c0,rfl,hr2⟩,hb2⟩
  have HD2:=Lib.hid (HD1.out.sub hb2)
  have HB2:=Lib.hid (HB1.out.trans (hb2.mono HB1.out.size))
  have HR2:=Lib.hid hr2
  have HE2:=Lib.hid (own_below HE1.out hb2)
  have hbase:(w.alloc (.cells #[.int .i64 s,.int .i64 l] 39)).heap.size=w.heap.size+1:=by simp
  rw [hbase] at HE2
  clear hbase HE1
  have hs2:w.heap.size+1≤w2.heap.size:=HD2.out.lt
  have hn:=cpl_len (2*l) s
  have hn2:(cpl (2*l) s).length≤20:=by omega
  generalize hq:(cpl (2*l) s).length=n at *
  have HN:=Lib.hid hq
  clear hb2 HD1 HB1 d1 d2 hr2 hn hq
  go_wp2_with fail
  go_loopw [3,5] (fun v i wr=>∃(k:Nat) (A:Option Addr) (c:Nat),k≤n∧i=.int .i64 k∧v=.slice A k c∧wr.ownsRow (w.heap.size+1) 131 3 (.slice A k c) k (lcells (s,l) ((cpl (2*l) s).take k))∧wr.ownsRow w1.heap.size 3 1 (.slice A0 n c0) n (icells (cpl (2*l) s))∧Below (w.heap.size+1) w2 wr) (fun _ i _=>n-(intOf i).toNat)
  case atStart=>exact ⟨0,_,_,Nat.zero_le _,rfl,rfl,HE2.out,HR2.out,Below.refl _ _⟩
  case round =>
   obtain ⟨k,A',c',hk,rfl,rfl,hown,hri,hB⟩:=hrel
   have HRI:=Lib.hid hri;clear hri
   have HW:=Lib.hid hown;clear hown
   have HB:=Lib.hid hB;clear hB
   by_cases hlt:k<n
   ·obtain ⟨b,off,x,rfl,hb,h1,H3,H4⟩:=(own_reads HRI.out).int hlt
    obtain ⟨d1,d2,_,_⟩:=blk2 (HD2.out.below HB.out (Nat.lt_succ_self _))
    have i1:(0:Int)≤(k:Int):=by omega
    have i2:(k:Int)<(n:Int):=by omega
    have hsr:=HB.out.size
    have HSR:Hid (w.heap.size+1≤(wr.drew.alloc (.cells #[.int .i64 s,.int .i64 l,.int .i64 x] 131)).heap.size):=by unfold Hid;simp;omega
    go_wp2_with fail
    go_region_held3 (fun w'=>w'.cell? ⟨w.heap.size,0,none⟩=some (.int .i64 s)∧w'.cell? ⟨w.heap.size,1,none⟩=some (.int .i64 l)∧w'.cell? ⟨b,off+k,none⟩=some (.int .i64 x)) (first | exact ⟨d1,d2,h1⟩ | exact ⟨cell_past _ d1,cell_past _ d2,cell_past _ h1⟩ | exact ⟨(hb3.cell (Nat.lt_succ_self _)).trans (cell_past (w:=wr.drew) _ d1),(hb3.cell (Nat.lt_succ_self _)).trans (cell_past (w:=wr.drew) _ d2),(own_cell_keep ((ownsRow_drew' HRI.out).alloc _) hk3 (by decide) _).trans (cell_past (w:=wr.drew) _ h1)⟩)
     ((refine step_app2 _ (by rfl) (.tmp 23) (.tmp 30) _ (by rfl) (w.heap.size+1) 131 3 24 elLevel A' c' k (lcells (s,l) ((cpl (2*l) s).take k)) (by rfl) ((ownsRow_drew' HW.out).alloc _) wr.heap.size #[.int .i64 s,.int .i64 l,.int .i64 x] (by rfl) (Blk.new wr.drew _ _) (by rfl) (one3 (by rfl) (by rfl) (by rfl)) (by omega) (by omega) HSR.out ?_;intro A'' c'' w3 hown3 hc3 hb3 hk3))
    have HW3:=Lib.hid hown3
    have HI3:=Lib.hid (own_keepT ((ownsRow_drew' HRI.out).alloc _) hk3 (by decide))
    have HB3:=Lib.hid (((HB.out.drew).alloc (by show w.heap.size+1≤wr.heap.size;omega) _).trans hb3)
    clear hown3 hk3 hb3
    go_wp2_with fail
    go_roundw
    case rel =>
     refine ⟨k+1,A'',c'',by omega,by go_num,rfl,?_,HI3.out,HB3.out⟩
     rw [H4.out,lcells_snoc];exact HW3.out
    case measure=>simp [intOf];omega
   ·go_wp2_with fail
    go_ret
    have hk':k=n:=by omega
    subst hk'
    have hr:=own_mono HW.out (Nat.le_succ w.heap.size)
    rw [List.take_of_length_le (by rw [HN.out];exact Nat.le_refl _)] at hr
    exact ⟨⟨A',c',by rw [HL.out,HN.out];rfl,by rw [HL.out,HN.out];exact hr⟩,HB2.out.trans (HB.out.mono (Nat.le_succ _))⟩
end
section
open Go.RowKit Go.Sort
attribute [local go_sem ↓] Go.wp_at_zero Go.wp_at_succ
def lts:List UInt8:=[83,80,68,70,71,72,73,75,76]
def tmT (t:T2):List UInt8:=if tvB t=true then Lib.decDigits (t.1.toNat+1)++[lts.getD t.2.toNat 0] else []
theorem tmT_len {t:T2} (h:tvB t=true):(tmT t).length=2:=by
 have hb:=tvB_iff.1 h
 unfold tmT
 rw [if_pos h,Lib.decDigits_one (by omega)];rfl
theorem lts_cut (l:Nat) (h:l≤8):(⟨#[83,80,68,70,71,72,73,75,76]⟩:ByteArray).extract l (l+1)=bs [lts.getD l 0]:=by
 have hl:l=0∨l=1∨l=2∨l=3∨l=4∨l=5∨l=6∨l=7∨l=8:=by omega
 rcases hl with rfl | rfl | rfl | rfl | rfl | rfl | rfl | rfl | rfl <;> rfl
theorem slice_lts (l:Nat) (h:l≤8) (W:World) :
 (Instr.slice 9 (.string ⟨#[83,80,68,70,71,72,73,75,76]⟩) (some (.int .i64 (l:Int))) (some (.int .i64 ((l:Int)+1))) none).run Tryz.prog W=.ok (.string (bs [lts.getD l 0])) W:=by
 rw [run_slice_string_if (h:=Tryz.underlying9),if_pos ⟨by omega,by show (l:Int)+1≤9;omega⟩,if_pos ⟨by omega,by omega⟩,Int.toNat_natCast,show ((l:Int)+1).toNat=l+1 by omega,lts_cut l h]
theorem implTermText_any (t:T2) (w:World) :
 Calls Tryz.prog 31 #[.agg #[.int .i64 t.1,.int .i64 t.2]] w fun e w'=>e=.returned (.string (bs (tmT t)))∧Below w.heap.size w w':=by
 have HB0:=Lib.hid ((Below.refl w.heap.size w).alloc (Nat.le_refl _) (.cells #[.int .i64 t.1,.int .i64 t.2] 39))
 have HX0:=Lib.hid (Blk.new w 39 #[.int .i64 t.1,.int .i64 t.2])
 have HV:=Lib.hid (fun W=>implTermValid_any t W)
 cases hv:tvB t
 ·have he:tmT t=[]:=by unfold tmT;rw [hv];simp
  rw [he,bs_nil];rw [hv] at HV;clear hv he
  go_enter Tryz.func31,Tryz.ntmps31
  go_wp2_with fail
  refine (HV.out _).mono ?_
  rintro e w1 ⟨rfl,hb1⟩
  have HB:=Lib.hid (HB0.out.trans (hb1.mono HB0.out.size));clear hb1
  go_wp2_with fail
  go_ret
  exact ⟨rfl,HB.out⟩
 have hb:=tvB_iff.1 hv
 have he:bs (tmT t)=bs (Lib.decDigits (t.1.toNat+1))++bs [lts.getD t.2.toNat 0]:=by unfold tmT;rw [if_pos hv,bs_append]
 rw [he];rw [hv] at HV;clear hv he
 obtain ⟨a,b⟩:=t
 simp only at *
 obtain ⟨s,rfl⟩:=Int.eq_ofNat_of_zero_le hb.1.1
 obtain ⟨l,rfl⟩:=Int.eq_ofNat_of_zero_le hb.2.1
 simp only [Int.toNat_natCast]
 have hi:=fun W=>itoaSmall_any (s+1) (by omega) W
 rw [show (((s+1:Nat):Int))=(s:Int)+1 by omega] at hi
 have HI:=Lib.hid hi;clear hi
 have hz1:(bs (Lib.decDigits (s+1))).size≤7:=by rw [bs_size];exact dig_len7 (by omega)
 have hz2:(bs [lts.getD l 0]).size≤1:=Nat.le_of_eq (bs_size _)
 have HSL:=Lib.hid (fun W=>slice_lts l (by omega) W)
 generalize bs (Lib.decDigits (s+1))=D at *
 generalize bs [lts.getD l 0]=V at *
 have u1:IntKind.i64.wrap ((s:Int)+1)=(s:Int)+1:=IntWalk.i64_in _ (by omega)
 have u2:IntKind.i64.wrap ((l:Int)+1)=(l:Int)+1:=IntWalk.i64_in _ (by omega)
 have HU:=Lib.hid (And.intro u1 u2);clear u1 u2
 go_enter Tryz.func31,Tryz.ntmps31
 go_wp2_with fail
 refine (HV.out _).mono ?_
 rintro e w1 ⟨rfl,hb1⟩
 have HB:=Lib.hid (HB0.out.trans (hb1.mono HB0.out.size))
 obtain ⟨x1,x2,_,_⟩:=blk2 (HX0.out.sub hb1)
 clear hb1
 have k1:=After.cell x1
 have k2:=After.cell x2
 have k3:=HSL.out
 obtain ⟨u1,u2⟩:=HU.out
 go_wp2_with fail
 refine wp_region_after (by kernel_rfl) (by kernel_rfl) ?_
 repeat (go_big_quiet_step ((go_at_call 27;exact after_same _ (HI.out _))))
 refine wpQuiet_nil ?_
 intro w9 hw'
 obtain ⟨⟨w9',hb9⟩,hw''⟩:=hw'
 subst hw''
 have HB9:=Lib.hid (HB.out.trans (hb9.mono HB.out.size));clear hb9 k3 u1 u2
 go_wp2_with fail
 go_ret
 exact ⟨rfl,HB9.out⟩
def jn (ts:List T2):Nat→List UInt8
 | 0=>[]
 | k+1=>(if k=0 then [] else jn ts k++[32])++tmT (ts.getD k (0,0))
def tsT (ts:List T2):List UInt8:=if ts.length=0 then [45] else if ts.all tvB=true then jn ts ts.length else []
theorem jn_le (ts:List T2) (k:Nat) (h:∀i,i<k→tvB (ts.getD i (0,0))=true) (hk:k≤ts.length):(jn ts k).length≤3*k:=by
 induction k with
 | zero=>simp [jn]
 | succ k ih =>
  have h1:=ih (fun i hi=>h i (by omega)) (by omega)
  have h2:=tmT_len (h k (by omega))
  show ((if k=0 then [] else jn ts k++[32])++tmT (ts.getD k (0,0))).length≤_
  split
  ·rw [List.nil_append,h2];omega
  ·rw [List.length_append,List.length_append,h2];simp;omega
theorem join_snoc (xs:List (List UInt8)) (y sep:List UInt8):Lib.join (xs++[y]) sep=(if xs=[] then [] else Lib.join xs sep++sep)++y:=by
 cases xs with
 | nil=>simp [Lib.join_one]
 | cons x xs =>
  rw [if_neg (by simp),List.cons_append,Lib.join_cons,Lib.join_cons]
  simp [Lib.joinTail,List.append_assoc]
theorem jn_join (ts:List T2) (k:Nat) (hk:k≤ts.length):Lib.join ((ts.take k).map tmT) [32]=jn ts k:=by
 induction k with
 | zero=>rfl
 | succ k ih =>
  have hlt:k<ts.length:=by omega
  rw [List.take_succ_eq_append_getElem hlt,List.map_append,List.map_cons,List.map_nil,join_snoc,ih (by omega)]
  show _=(if k=0 then [] else jn ts k++[32])++tmT (ts.getD k (0,0))
  rw [show ts.getD k (0,0)=ts[k] by simp [List.getD,List.getElem?_eq_getElem hlt]]
  congr 1
  by_cases h0:k=0
  ·subst h0;simp
  ·rw [if_neg h0,if_neg (by simp [h0];intro h;rw [h] at hlt;simp at hlt)]
theorem tsT_none {ts:List T2} (h:ts.length=0):tsT ts=[45]:=by unfold tsT;rw [if_pos h]
theorem tsT_all {ts:List T2} (h0:ts.length≠0) (h:∀i,i<ts.length→tvB (ts.getD i (0,0))=true):tsT ts=jn ts ts.length:=by
 unfold tsT
 rw [if_neg h0,if_pos]
 rw [List.all_eq_true]
 intro t ht
 obtain ⟨i,hi,rfl⟩:=List.getElem_of_mem ht
 have:=h i hi
 rwa [show ts.getD i (0,0)=ts[i] by simp [List.getD,List.getElem?_eq_getElem hi]] at this
theorem tsT_bad {ts:List T2} {i:Nat} (hi:i<ts.length) (h:tvB (ts.getD i (0,0))=false):tsT ts=[]:=by
 unfold tsT
 rw [if_neg (by omega),if_neg]
 rw [List.all_eq_true]
 intro hall
 have:=hall ts[i] (List.getElem_mem hi)
 rw [show ts.getD i (0,0)=ts[i] by simp [List.getD,List.getElem?_eq_getElem hi],this] at h
 cases h
theorem Reads.trm {w:World} {B:Nat} {A:Option Addr} {n:Nat} {ts:List T2} (h:Reads w B 2 A n (tcells ts)) {k:Nat} (hk:k<n) :
 ∃b off,A=some ⟨b,off,none⟩∧b<B∧w.cell? ⟨b,off+k*2,none⟩=some (.int .i64 (ts.getD k (0,0)).1)∧w.cell? ⟨b,off+k*2+1,none⟩=some (.int .i64 (ts.getD k (0,0)).2):=by
 obtain ⟨b,off,x,y,e,hb,h1,h2,H3,_⟩:=h.term hk
 have h3:=H3.out
 exact ⟨b,off,e,hb,by simp [List.getD,h3,h1],by simp [List.getD,h3,h2]⟩
theorem wpList_app1b {P:Program} (w:World) {ops:Array Oper} {rest:List Oper} {o:Oper} {a:Act} {Q:Exit→Act→World→Prop} (hgd:o.guard=none) (s x:Operand) (t:TypeId)
 (ho:o.op=.call { callee:=.builtin .append,args:=#[s,x],argTypes:=#[t,t] })
 (base:Nat) (e:TypeId) (size bytes:Nat) (hE:ElemOk P t e size bytes)
 (A:Option Addr) (c n:Nat) (xs:List Value) (hs:a.eval s=.slice A n c) (hown:w.ownsRow base e size (.slice A n c) n xs)
 (L:Nat) (cs:Array Value) (hx:a.eval x=.slice (some ⟨L,0,none⟩) 1 1) (hL:Blk w L e cs) (hcs:cs.size=size) (h1:∀u∈cs.toList,u.oneCell'=true)
 (hn:n≤2000000) (hby:bytes≤1000) (hbase:base≤w.heap.size)
 (h:∀A' c' w',w'.ownsRow base e size (.slice A' (n+1) c') (n+1) (xs++cs.toList)→n+1≤c'→Below base w w'→wpList P ops Q rest (a.put o.dst (.slice A' (n+1) c')) w'):wpList P ops Q (o :: rest) a w:=by
 obtain ⟨ht,i,z,hi,hz,hsize,hbytes,hzs,hsz⟩:=hE
 refine wpList_append_own w hgd s x t ho base e i z size bytes ht hi hz hsize hbytes hzs hsz _ n xs hs hown ⟨L,0,none⟩ 1 1 cs.toList hx (by simp [hcs]) ?_ h1 (by unfold maxLen;omega) ?_ hbase ?_
 ·intro j u hj
  have:(⟨L,0,none⟩:Addr).add j=⟨L,j,none⟩:=by unfold Addr.add;split <;> simp_all
  rw [this,hL.cell]
  simpa using hj
 ·calc (n+1)*bytes≤2000001*1000:=Nat.mul_le_mul (by omega) hby
   _≤_:=by omega
 ·intro v' w' hown' hg _
  obtain ⟨A',c',rfl,hc'⟩:=own_form hown'
  refine h A' c' w' hown' hc' ?_
  exact (Below.refl base w).grown hg hbase (fun k hk=>(hown.lt k hk).1)
theorem run_mk0 {P:Program} {t e:TypeId} {size bytes:Nat} (hE:ElemOk P t e size bytes) (n:Nat) (hb:bytes*n≤281474976710656) (hn:n≤9223372036854775807) :
 ∃cs:Array Value,cs.size=n*size∧∀w:World,(Instr.makeSlice t (.int .i64 0) (.int .i64 (n:Int))).run P w=.ok (.slice (some ⟨w.heap.size,0,none⟩) 0 n) (w.alloc (.cells cs e)):=by
 obtain ⟨ht,i,z,hi,hz,hsize,hbytes,hzs,hsz⟩:=hE
 refine ⟨madeCells z.cells (n*i.size),by rw [size_madeCells,hsize],fun w=>?_⟩
 have hb':(i.bytes:Int)*(n:Int)≤281474976710656:=by
  have h:((i.bytes*n:Nat):Int)≤281474976710656:=by rw [hbytes];omega
  rwa [Int.natCast_mul] at h
 have hr:=run_make (P:=P) w t e i z ht hi hz .i64 .i64 0 n (by omega) (by omega) hb' (by omega)
 simpa using hr
theorem elStr:ElemOk Tryz.prog 45 9 1 16:=elemOk Tryz.underlying45 (z:=.string ⟨#[]⟩) (by kernel_rfl) rfl (by omega)
theorem own_blk2 {w:World} {base:Nat} {e:TypeId} {size n c:Nat} {A:Option Addr} {xs:List Value} (h:w.ownsRow base e size (.slice A n c) n xs) (hn:0<n) :
 ∃g cur,A=some ⟨g,0,none⟩∧base≤g∧Blk w g e cur∧Filled cur xs:=by
 have hr:=own_reads h
 rcases h.2 with ⟨hv,h0⟩ | ⟨g,cap,cur,hv,hb,hh,_⟩
 ·omega
 ·have hA:A=some ⟨g,0,none⟩:=by injection hv
  subst hA
  obtain ⟨b,off,e1,_,hc⟩:=hr.2 hn
  cases e1
  refine ⟨g,cur,rfl,hb,hh,fun j u hu=>?_⟩
  have:=hc j u hu
  rw [Nat.zero_add] at this
  rw [←this]
  exact (Blk.cell (t:=e) hh j).symm
def scells (ls:List (List UInt8)):List Value:=ls.map fun l=>.string (bs l)
theorem implTermsText_any (A:Option Addr) (n c:Nat) (ts:List T2) (w:World) (hn:n≤1048576) (hts:ts.length=n) (hr:Reads w w.heap.size 2 A n (tcells ts)) :
 Calls Tryz.prog 11 #[.slice A n c] w fun e w'=>e=.returned (.string (bs (tsT ts)))∧Below w.heap.size w w':=by
 have HR:=Lib.hid (fun W (hB:Below w.heap.size w W)=>(hr.below hB).more hB.size);clear hr
 have HT:=Lib.hid hts;clear hts
 have hB0:=Below.refl w.heap.size w
 by_cases h00:n=0
 ·have HE:=Lib.hid (tsT_none (HT.out.trans h00))
  subst h00
  go_enter Tryz.func11,Tryz.ntmps11
  go_wp2_with fail
  go_ret
  exact ⟨ret_str (by rw [HE.out];rfl),hB0⟩
 have e00:((n:Int)==0)=false:=by simp;omega
 have H00:=Lib.hid h00;clear h00
 obtain ⟨cs,hcs,hmk⟩:=run_mk0 elStr n (by omega) (by omega)
 have HO:=Lib.hid (World.ownsRow_made (base:=w.heap.size) (e:=9) (size:=1) w cs n (Nat.le_refl _) (by unfold maxLen;omega) hcs)
 have HB1:=Lib.hid (hB0.alloc hB0.size (.cells cs 9));clear hB0 hcs
 go_enter Tryz.func11,Tryz.ntmps11
 go_wp2_with fail
 clear hmk
 go_loopw [3,14] (fun v i wr=>∃(k:Nat) (A':Option Addr) (c':Nat),k≤n∧i=.int .i64 k∧v=.slice A' k c'∧k≤c'∧Hid (wr.ownsRow w.heap.size 9 1 (.slice A' k c') k (scells ((ts.take k).map tmT)))∧Hid (∀i,i<k→tvB (ts.getD i (0,0))=true)∧Hid (Below w.heap.size w wr)) (fun _ i _=>n-(intOf i).toNat)
 case atStart=>exact ⟨0,_,_,Nat.zero_le _,rfl,rfl,Nat.zero_le _,HO.out,fun i hi=>absurd hi (Nat.not_lt_zero _),HB1.out⟩
 case round =>
  clear HO HB1
  obtain ⟨k,A',c',hk,rfl,rfl,hkc,HW,HOK,HB⟩:=hrel
  by_cases hlt:k<n
  ·obtain ⟨b,off,rfl,hb,h1,h2⟩:=(HR.out wr HB.out).trm hlt
   have HV:=Lib.hid (fun W=>implTermValid_any (ts.getD k (0,0)) W)
   have HX:=Lib.hid (fun W=>implTermText_any (ts.getD k (0,0)) W)
   cases hv:tvB (ts.getD k (0,0))
   ·have HE:=Lib.hid (tsT_bad (by rw [HT.out];exact hlt) hv)
    rw [hv] at HV
    clear hv HX
    generalize (ts.getD k (0,0)).1=x at *
    generalize (ts.getD k (0,0)).2=y at *
    have HB1:=Lib.hid (HB.out.alloc HB.out.size (.cells #[.int .i64 x,.int .i64 y] 39))
    go_wp2_with fail
    refine (HV.out _).mono ?_
    rintro e w1 ⟨rfl,hb1⟩
    have HB2:=Lib.hid (HB1.out.trans (hb1.mono HB1.out.size));clear hb1
    go_wp2_with fail
    go_ret
    exact ⟨ret_str (by rw [HE.out,bs_nil]),HB2.out⟩
   have HOK2:Hid (∀i,i<k+1→tvB (ts.getD i (0,0))=true):=fun i hi=>by
    rcases Nat.lt_or_ge i k with h | h
    ·exact HOK.out i h
    ·obtain rfl:i=k:=by omega
     exact hv
   have HJ:Hid (scells ((ts.take (k+1)).map tmT)=scells ((ts.take k).map tmT)++[.string (bs (tmT (ts.getD k (0,0))))]):=by
    have hl:k<ts.length:=by rw [HT.out];exact hlt
    unfold Hid scells
    rw [List.take_succ_eq_append_getElem hl,List.map_append,List.map_append,show ts.getD k (0,0)=ts[k] by simp [List.getD,List.getElem?_eq_getElem hl]]
    rfl
   rw [hv] at HV
   clear hv
   generalize bs (tmT (ts.getD k (0,0)))=T at *
   generalize (ts.getD k (0,0)).1=x at *
   generalize (ts.getD k (0,0)).2=y at *
   have HB1:=Lib.hid (HB.out.alloc HB.out.size (.cells #[.int .i64 x,.int .i64 y] 39))
   have HX1:=Lib.hid (Blk.new wr 39 #[.int .i64 x,.int .i64 y])
   have HW1:=Lib.hid (own_below HW.out ((Below.refl _ _).alloc (Nat.le_refl _) (.cells #[.int .i64 x,.int .i64 y] 39)))
   go_wp2_with fail
   refine (HV.out _).mono ?_
   rintro e w1 ⟨rfl,hb1⟩
   have HB2:=Lib.hid (HB1.out.trans (hb1.mono HB1.out.size))
   have HW2:=Lib.hid (own_below HW1.out hb1)
   obtain ⟨x1,x2,_,_⟩:=blk2 (HX1.out.sub hb1)
   clear hb1 HB1 HW1
   go_wp2_with fail
   refine (HX.out _).mono ?_
   rintro e w2 ⟨rfl,hb2⟩
   have HB3:=Lib.hid (HB2.out.trans (hb2.mono HB2.out.size))
   have HW3:=Lib.hid (own_below HW2.out hb2)
   have hs3:=HB3.out.size
   clear hb2 x1 x2
   go_wp2_with (at_builtin;refine wpList_app1b _ rfl (.tmp 21) (.tmp 24) _ rfl w.heap.size 9 1 16 elStr A' c' k (scells ((ts.take k).map tmT)) rfl (HW3.out.alloc _) w2.heap.size #[.string T] rfl (Blk.new w2 _ _) rfl ?h1 (by omega) (by omega) (by simp;omega) ?_)
   case h1=>simp [Value.oneCell']
   intro A2 c2 w4 hown4 hc4 hb4
   have HW4:=Lib.hid hown4
   have HB4:=Lib.hid ((HB3.out.alloc HB3.out.size (.cells #[.string T] 9)).trans hb4);clear hown4 hb4
   go_wp2_with fail
   go_roundw
   case rel =>
    refine ⟨k+1,A2,c2,by omega,by go_num,rfl,hc4,?_,HOK2,HB4⟩
    unfold Hid
    rw [HJ.out];simpa only [List.map_take] using HW4.out
   case measure=>simp [intOf];omega
  ·obtain rfl:k=n:=by omega
   have he:=tsT_all (ts:=ts) (by rw [HT.out];exact H00.out) (fun i hi=>HOK.out i (by rw [HT.out] at hi;exact hi))
   have hjl:=jn_le ts k HOK.out (by rw [HT.out];exact Nat.le_refl _)
   rw [HT.out] at he
   have hjj:=jn_join ts k (by rw [HT.out];exact Nat.le_refl _)
   obtain ⟨g,cur,rfl,hg,hblk,hfl⟩:=own_blk2 HW.out (by have:=H00.out;omega)
   have hmm:(((ts.take k).map fun t=>bs (tmT t)).map fun x:ByteArray=>x.data.toList)=(ts.take k).map tmT:=by
    rw [List.map_map]
    congr 1
   have hln:((ts.take k).map fun t=>bs (tmT t)).length=k:=by rw [List.length_map,List.length_take,HT.out,Nat.min_self]
   have hj:=Tryz.strings_Join g 0 c' ((ts.take k).map fun t=>bs (tmT t)) ⟨#[32]⟩ wr (fun j x hx=>by
    rw [Nat.zero_add,hblk.cell]
    refine hfl j _ ?_
    unfold scells
    rw [List.map_map]
    rw [List.getElem?_map] at hx ⊢
    cases hq:(ts.take k)[j]? with
    | none=>rw [hq] at hx;cases hx
    | some l=>rw [hq] at hx;cases hx;rfl) hblk.lt (by rw [hln];omega) (by rw [hln];exact hkc) (by rw [hmm];show (Lib.join _ [32]).length≤_;rw [hjj];omega)
   rw [hmm,show (⟨#[32]⟩:ByteArray).data.toList=[32] from rfl,hjj,hln] at hj
   have HJ:=Lib.hid hj
   have HE:=Lib.hid he
   clear hj he hjl hjj hblk hfl
   go_wp2_with fail
   refine HJ.out.mono ?_
   rintro e w1 ⟨rfl,hb1⟩
   have HB1:=Lib.hid (HB.out.trans (hb1.mono HB.out.size));clear hb1
   go_wp2_with fail
   go_ret
   exact ⟨ret_str (by rw [HE.out];rfl),HB1.out⟩
end
end Go.Proofs.YtjdfbnlaiiknpaaGreatDoor
