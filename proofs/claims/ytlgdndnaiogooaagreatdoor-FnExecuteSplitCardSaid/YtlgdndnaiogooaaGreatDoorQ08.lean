/- Parts of the proof of : Lev. -/
import Derived.Test.YtlgdndnaiogooaaGreatDoorQ06
import Derived.Test.YtlgdndnaiogooaaGreatDoorQ07
import Derived.Deep.RegionHeld3
set_option maxHeartbeats 20000000
set_option maxRecDepth 1000000
set_option linter.unusedSimpArgs false
set_option linter.unusedVariables false
namespace Go.Proofs.YtlgdndnaiogooaaGreatDoor
section
open Go.RowKit
attribute [local go_sem ↓] Go.wp_at_zero Go.wp_at_succ
def lvJs (t:T2):List Int:=if tvB t then cpl (2*t.2) t.1 else []
def lcells (t:T2) (js:List Int):List Value:=js.flatMap fun j=>[.int .i64 t.1,.int .i64 t.2,.int .i64 j]
theorem lcells_snoc (t:T2) (js:List Int) (j:Int):lcells t (js++[j])=lcells t js++[.int .i64 t.1,.int .i64 t.2,.int .i64 j]:=by simp [lcells]
theorem icells_at (l:List Int) (k:Nat) (h:k<l.length):(icells l)[k]?=some (.int .i64 l[k]):=by simp [icells,h]
theorem Reads.int {w:World} {B:Nat} {A:Option Addr} {n:Nat} {l:List Int} (h:Reads w B 1 A n (icells l)) {k:Nat} (hk:k<n) :
 ∃b off x,A=some ⟨b,off,none⟩∧b<B∧w.cell? ⟨b,off+k,none⟩=some (.int .i64 x)∧Hid (l[k]?=some x)∧Hid (l.take (k+1)=l.take k++[x]):=by
 obtain ⟨b,off,e,hb,hc⟩:=h.2 (by omega)
 have hl:l.length=n:=by have:=h.1;simp [icells] at this;omega
 have hkl:k<l.length:=by omega
 exact ⟨b,off,_,e,hb,hc _ _ (icells_at l k hkl),by unfold Hid;rw [List.getElem?_eq_getElem hkl],by unfold Hid;rw [List.take_succ_eq_append_getElem hkl]⟩
theorem elLevel:ElemOk Tryz.prog 26 31 3 24:=elemOk Tryz.underlying26 (z:=.agg #[.int .i64 0,.int .i64 0,.int .i64 0]) (by kernel_rfl) rfl (by omega)
def LevelsPost (w:World) (t:T2) (e:Ending) (w':World):Prop :=
 (∃A c,e=.returned (.slice A (lvJs t).length c)∧w'.ownsRow w.heap.size 31 3 (.slice A (lvJs t).length c) (lvJs t).length (lcells t (lvJs t)))∧Below w.heap.size w w'
theorem implLevelsOf_any (t:T2) (w:World) :
 Calls Tryz.prog 9 #[.agg #[.int .i64 t.1,.int .i64 t.2]] w (LevelsPost w t):=by
 obtain ⟨s,l⟩:=t
 have HB:=Lib.hid ((Below.refl w.heap.size w).alloc (Nat.le_refl _) (.cells #[.int .i64 s,.int .i64 l] 24))
 have HD:=Lib.hid (Blk.new w 24 #[.int .i64 s,.int .i64 l])
 cases hv:tvB (s,l)
 ·have HL:=Lib.hid (show lvJs (s,l)=[] by unfold lvJs;rw [hv];rfl)
  have HT:=Lib.hid (implTermValid_any (s,l) (w.alloc (.cells #[.int .i64 s,.int .i64 l] 24)))
  rw [hv] at HT
  clear hv
  go_enter Tryz.func9,Tryz.ntmps9
  go_wp2_with fail
  refine HT.out.mono ?_
  rintro e w1 ⟨rfl,hb1⟩
  have HB1:=Lib.hid (HB.out.trans (hb1.mono HB.out.size));clear hb1
  go_wp2_with fail
  go_ret
  exact ⟨⟨none,0,by rw [HL.out];rfl,by rw [HL.out];exact World.ownsRow_nil _ _ _ _⟩,HB1.out⟩
 ·have hv2:=tvB_iff.1 hv
  simp only at hv2
  obtain ⟨⟨s0,s1⟩,l0,l1⟩:=hv2
  have HL:=Lib.hid (show lvJs (s,l)=cpl (2*l) s by unfold lvJs;rw [hv];rfl)
  have HT:=Lib.hid (implTermValid_any (s,l) (w.alloc (.cells #[.int .i64 s,.int .i64 l] 24)))
  rw [hv] at HT
  clear hv
  go_enter Tryz.func9,Tryz.ntmps9
  go_wp2_with fail
  refine HT.out.mono ?_
  rintro e w1 ⟨rfl,hb1⟩
  have HB1:=Lib.hid (HB.out.trans (hb1.mono HB.out.size))
  have HD1:=Lib.hid (HD.out.sub hb1);clear hb1 HB HD
  obtain ⟨d1,d2,_,_⟩:=blk2 HD1.out
  go_wp2_with fail
  refine (implSpinCoupled_any (2*l) s w1 (by omega) (by omega) (by omega) (by omega) (by omega)).mono ?_
  rintro e w2 ⟨⟨A,c,rfl,hr2⟩,hb2⟩
  have HD2:=Lib.hid (HD1.out.sub hb2)
  have HB2:=Lib.hid (HB1.out.trans (hb2.mono HB1.out.size))
  have HR2:=Lib.hid (own_reads hr2)
  have hn:=cpl_len (2*l) s
  have hn2:(cpl (2*l) s).length≤20:=by omega
  generalize hq:(cpl (2*l) s).length=n at *
  have HN:=Lib.hid hq
  clear hb2 HD1 HB1 d1 d2 hr2 hn hq
  have ho:=World.ownsRow_nil w2 w.heap.size 31 3
  go_wp2_with fail
  go_loopw [3,5,16] (fun v u i wr=>∃(k:Nat) (A:Option Addr) (c:Nat),k≤n∧i=.int .i64 k∧v=.slice A k c∧wr.ownsRow w2.heap.size 31 3 (.slice A k c) k (lcells (s,l) ((cpl (2*l) s).take k))∧Below w2.heap.size w2 wr) (fun _ _ i _=>n-(intOf i).toNat)
  case atStart=>exact ⟨0,none,0,Nat.zero_le _,rfl,rfl,World.ownsRow_nil w2 w2.heap.size 31 3,Below.refl _ _⟩
  case round =>
   clear ho
   obtain ⟨k,A',c',hk,rfl,rfl,hown,hB⟩:=hrel
   have HW:=Lib.hid hown;clear hown
   have HB:=Lib.hid hB;clear hB
   by_cases hlt:k<n
   ·obtain ⟨b,off,x,rfl,hb,h1,H3,H4⟩:=(HR2.out.below HB.out).int hlt
    obtain ⟨d1,d2,_,_⟩:=blk2 (HD2.out.sub HB.out)
    go_wp2_with (at_builtin;refine wpList_app1 _ rfl (.tmp 20) (.tmp 24) _ rfl w2.heap.size 31 3 24 elLevel A' c' k (lcells (s,l) ((cpl (2*l) s).take k)) rfl (HW.out.alloc _) wr.heap.size #[.int .i64 s,.int .i64 l,.int .i64 x] rfl (Blk.new wr _ _) rfl ?h1 (by omega) (by omega) (by have:=HB.out.size;simp;omega) ?_)
    case h1=>exact ⟨rfl,rfl,rfl⟩
    intro A'' c'' w3 hown3 hc3 hb3
    have HW3:=Lib.hid hown3;clear hown3
    have HB3:=Lib.hid ((HB.out.alloc HB.out.size _).trans hb3);clear hb3
    go_wp2_with fail
    go_roundw
    case rel =>
     refine ⟨k+1,A'',c'',by omega,by go_num,rfl,?_,HB3.out⟩
     rw [H4.out,lcells_snoc];exact HW3.out
    case measure=>simp [intOf];omega
   ·go_wp2_with fail
    go_ret
    have hk':k=n:=by omega
    subst hk'
    have hr:=own_mono HW.out (HB2.out.size)
    rw [List.take_of_length_le (by rw [HN.out];exact Nat.le_refl _)] at hr
    exact ⟨⟨A',c',by rw [HL.out,HN.out];rfl,by rw [HL.out,HN.out];exact hr⟩,HB2.out.trans (HB.out.mono HB2.out.size)⟩
theorem specLevelsOf_any (t:T2) (w:World) :
 Calls Tryz.prog 10 #[.agg #[.int .i64 t.1,.int .i64 t.2]] w (LevelsPost w t):=by
 obtain ⟨s,l⟩:=t
 have HB:=Lib.hid (((Below.refl w.heap.size w).alloc (Nat.le_refl _) (.cells #[.int .i64 s,.int .i64 l] 24)).alloc (by simp) (.cells #[] 31))
 have HD:=Lib.hid ((Blk.new w 24 #[.int .i64 s,.int .i64 l]).alloc (.cells #[] 31))
 have HE0:=Lib.hid (own_empty (w.alloc (.cells #[.int .i64 s,.int .i64 l] 24)) 31 3)
 cases hv:tvB (s,l)
 ·have HL:=Lib.hid (show lvJs (s,l)=[] by unfold lvJs;rw [hv];rfl)
  have HT:=Lib.hid (specTermValid_any (s,l) ((w.alloc (.cells #[.int .i64 s,.int .i64 l] 24)).alloc (.cells #[] 31)))
  rw [hv] at HT
  clear hv
  go_enter Tryz.func10,Tryz.ntmps10
  go_wp2_with fail
  refine HT.out.mono ?_
  rintro e w1 ⟨rfl,hb1⟩
  have HB1:=Lib.hid (HB.out.trans (hb1.mono HB.out.size))
  have HX:=Lib.hid hb1;clear hb1
  go_wp2_with fail
  go_ret
  exact ⟨⟨_,_,by rw [HL.out];rfl,by rw [HL.out];have hq:=own_below HE0.out HX.out;rw [World.size_alloc] at hq;exact own_mono hq (Nat.le_succ _)⟩,HB1.out⟩
 ·have hv2:=tvB_iff.1 hv
  simp only at hv2
  obtain ⟨⟨s0,s1⟩,l0,l1⟩:=hv2
  have HL:=Lib.hid (show lvJs (s,l)=cpl (2*l) s by unfold lvJs;rw [hv];rfl)
  have HT:=Lib.hid (specTermValid_any (s,l) ((w.alloc (.cells #[.int .i64 s,.int .i64 l] 24)).alloc (.cells #[] 31)))
  rw [hv] at HT
  clear hv
  go_enter Tryz.func10,Tryz.ntmps10
  go_wp2_with fail
  refine HT.out.mono ?_
  rintro e w1 ⟨rfl,hb1⟩
  have HB1:=Lib.hid (HB.out.trans (hb1.mono HB.out.size))
  have HD1:=Lib.hid (HD.out.sub hb1)
  have HE1:=Lib.hid (own_below HE0.out hb1);clear hb1 HB HD HE0
  obtain ⟨d1,d2,_,_⟩:=blk2 HD1.out
  go_wp2_with fail
  refine (specSpinCoupled_any (2*l) s w1 (by omega) (by omega) (by omega) (by omega) (by omega)).mono ?_
  rintro e w2 ⟨⟨A0,c0,rfl,hr2⟩,hb2⟩
  have HD2:=Lib.hid (HD1.out.sub hb2)
  have HB2:=Lib.hid (HB1.out.trans (hb2.mono HB1.out.size))
  have HR2:=Lib.hid hr2
  have HE2:=Lib.hid (own_below HE1.out hb2)
  have hbase:(w.alloc (.cells #[.int .i64 s,.int .i64 l] 24)).heap.size=w.heap.size+1:=by simp
  rw [hbase] at HE2
  clear hbase HE1
  have hs2:w.heap.size+1≤w2.heap.size:=HD2.out.lt
  have hn:=cpl_len (2*l) s
  have hn2:(cpl (2*l) s).length≤20:=by omega
  generalize hq:(cpl (2*l) s).length=n at *
  have HN:=Lib.hid hq
  clear hb2 HD1 HB1 d1 d2 hr2 hn hq
  go_wp2_with fail
  go_loopw [3,5] (fun v i wr=>∃(k:Nat) (A:Option Addr) (c:Nat),k≤n∧i=.int .i64 k∧v=.slice A k c∧wr.ownsRow (w.heap.size+1) 31 3 (.slice A k c) k (lcells (s,l) ((cpl (2*l) s).take k))∧wr.ownsRow w1.heap.size 3 1 (.slice A0 n c0) n (icells (cpl (2*l) s))∧Below (w.heap.size+1) w2 wr) (fun _ i _=>n-(intOf i).toNat)
  case atStart=>exact ⟨0,_,_,Nat.zero_le _,rfl,rfl,HE2.out,HR2.out,Below.refl _ _⟩
  case round =>
   obtain ⟨k,A',c',hk,rfl,rfl,hown,hri,hB⟩:=hrel
   have HRI:=Lib.hid hri;clear hri
   have HW:=Lib.hid hown;clear hown
   have HB:=Lib.hid hB;clear hB
   by_cases hlt:k<n
   ·obtain ⟨b,off,x,rfl,hb,h1,H3,H4⟩:=(own_reads HRI.out).int hlt
    obtain ⟨d1,d2,_,_⟩:=blk2 (HD2.out.below HB.out (Nat.lt_succ_self _))
    have i1:(0:Int)≤(k:Int):=by omega
    have i2:(k:Int)<(n:Int):=by omega
    have hsr:=HB.out.size
    have HSR:Hid (w.heap.size+1≤(wr.drew.alloc (.cells #[.int .i64 s,.int .i64 l,.int .i64 x] 31)).heap.size):=by unfold Hid;simp;omega
    go_wp2_with fail
    go_region_held3 (fun w'=>w'.cell? ⟨w.heap.size,0,none⟩=some (.int .i64 s)∧w'.cell? ⟨w.heap.size,1,none⟩=some (.int .i64 l)∧w'.cell? ⟨b,off+k,none⟩=some (.int .i64 x)) (first | exact ⟨d1,d2,h1⟩ | exact ⟨cell_past _ d1,cell_past _ d2,cell_past _ h1⟩ | exact ⟨(hb3.cell (Nat.lt_succ_self _)).trans (cell_past (w:=wr.drew) _ d1),(hb3.cell (Nat.lt_succ_self _)).trans (cell_past (w:=wr.drew) _ d2),(own_cell_keep ((ownsRow_drew' HRI.out).alloc _) hk3 (by decide) _).trans (cell_past (w:=wr.drew) _ h1)⟩)
     ((refine step_app2 _ (by rfl) (.tmp 23) (.tmp 30) _ (by rfl) (w.heap.size+1) 31 3 24 elLevel A' c' k (lcells (s,l) ((cpl (2*l) s).take k)) (by rfl) ((ownsRow_drew' HW.out).alloc _) wr.heap.size #[.int .i64 s,.int .i64 l,.int .i64 x] (by rfl) (Blk.new wr.drew _ _) (by rfl) (one3 (by rfl) (by rfl) (by rfl)) (by omega) (by omega) HSR.out ?_;intro A'' c'' w3 hown3 hc3 hb3 hk3))
    have HW3:=Lib.hid hown3
    have HI3:=Lib.hid (own_keepT ((ownsRow_drew' HRI.out).alloc _) hk3 (by decide))
    have HB3:=Lib.hid (((HB.out.drew).alloc (by show w.heap.size+1≤wr.heap.size;omega) _).trans hb3)
    clear hown3 hk3 hb3
    go_wp2_with fail
    go_roundw
    case rel =>
     refine ⟨k+1,A'',c'',by omega,by go_num,rfl,?_,HI3.out,HB3.out⟩
     rw [H4.out,lcells_snoc];exact HW3.out
    case measure=>simp [intOf];omega
   ·go_wp2_with fail
    go_ret
    have hk':k=n:=by omega
    subst hk'
    have hr:=own_mono HW.out (Nat.le_succ w.heap.size)
    rw [List.take_of_length_le (by rw [HN.out];exact Nat.le_refl _)] at hr
    exact ⟨⟨A',c',by rw [HL.out,HN.out];rfl,by rw [HL.out,HN.out];exact hr⟩,HB2.out.trans (HB.out.mono (Nat.le_succ _))⟩
end
end Go.Proofs.YtlgdndnaiogooaaGreatDoor
