/- Parts of the proof of : Sc3. -/
import Derived.Test.YtammfhheibaeaaaGreatDoorQ09
import Derived.Test.YtammfhheibaeaaaGreatDoorQ11
set_option maxHeartbeats 20000000
set_option maxRecDepth 1000000
set_option linter.unusedSimpArgs false
set_option linter.unusedVariables false
namespace Go.Proofs.YtammfhheibaeaaaGreatDoor
section
open Go.RowKit
attribute [local go_sem ↓] Go.wp_at_zero Go.wp_at_succ
def scP (ns:List T3):Nat→List UInt8
 | 0=>[]
 | k+1=>scP ns k++(ndT (gN ns k).1 (gN ns k).2.1 (gN ns k).2.2++[10])
def scT (ns:List T3):List UInt8:=if svB ns=true then scP ns ns.length else []
theorem ndT_len (e j:Int) (odd:Bool):(ndT e j odd).length≤19:=by
 unfold ndT
 split
 ·rename_i h
  have hb:(0≤e∧e≤200000)∧(0≤j∧j≤24):=by unfold ndB at h;rw [Bool.and_eq_true,inB_iff,inB_iff] at h;exact h
  have h1:=dig_len7 (n:=e.toNat) (by omega)
  have h2:=spT_len j
  simp only [List.length_append,List.length_cons,List.length_nil]
  omega
 ·simp
theorem scP_len (ns:List T3) (k:Nat):(scP ns k).length≤20*k:=by
 induction k with
 | zero=>simp [scP]
 | succ k ih =>
  have:=ndT_len (gN ns k).1 (gN ns k).2.1 (gN ns k).2.2
  simp only [scP,List.length_append,List.length_cons,List.length_nil]
  omega
theorem writeString_any (B b:Nat) (l s:List UInt8) (w:World) (h:Lib.IsBuilderF 53 5 B b (Lib.byteCells l) w) (hlen:l.length+s.length≤140737488355328) (hBw:B≤w.heap.size) :
 Calls Tryz.prog 24 #[.pointer (some ⟨b,0,none⟩),.string (bs s)] w fun e w'=>e=.returned (.tuple #[.int .i64 (bs s).size,.nilIface])∧Lib.IsBuilderF 53 5 B b (Lib.byteCells (l++s)) w'∧Below B w w' :=
 (Any.Builder_WriteString_k (ρ:=Tryz.lays156_ren) { Tryz.lays156 with } Tryz.Builder_Extra_156 B b _ (bs s) w h (by rw [Lib.byteCells_length,bs_size];exact hlen) hBw).mono fun e w' hw=>⟨hw.1,.inr (by rw [Lib.byteCells_append];exact hw.2.1),hw.2.2.1⟩
theorem builder_new {w:World} {B:Nat} (hB:B≤w.heap.size):Lib.IsBuilderF 53 5 B w.heap.size (Lib.byteCells []) (w.alloc (.cells #[.pointer none,.slice none 0 0] 53)) :=
 .inl ⟨hB,.slice none 0 0,heap_alloc_new w _,World.ownsRowF_nil _ _ _ _,by simp [Value.ownBlock]⟩
theorem builder_below {B b:Nat} {xs:List Value} {W W':World} (h:Lib.IsBuilderF 53 5 B b xs W) (hb:Below W.heap.size W W'):Lib.IsBuilderF 53 5 B b xs W':=by
 have go:∀p,Lib.BuilderAtF 53 5 B b p xs W→Lib.BuilderAtF 53 5 B b p xs W':=fun p h=>by
  have hlt:=h.lt
  obtain ⟨hB,v,hv,hown,hne⟩:=h
  exact ⟨hB,v,(hb.block b hlt).trans hv,hown.kept (row:=none) ⟨hb.os,hb.tape,hb.output,hb.size,fun k hk _=>hb.block k hk⟩ (Classical.em _),hne⟩
 exact h.elim (fun x=>.inl (go _ x)) (fun x=>.inr (go _ x))
theorem specSchemeText_any (A:Option Addr) (n c:Nat) (ns:List T3) (w:World) (hn:n≤1048576) (hns:ns.length=n) (hr:Reads w w.heap.size 3 A n (ncells ns)) :
 Calls Tryz.prog 15 #[.slice A n c] w fun e w'=>e=.returned (.string (bs (scT ns)))∧Below w.heap.size w w':=by
 have HR:=Lib.hid (fun W (hB:Below w.heap.size w W)=>(hr.below hB).more hB.size)
 have HT:=Lib.hid hns
 have hB0:=Below.refl w.heap.size w
 have HV:=Lib.hid (fun W (hB:Below w.heap.size w W)=>specSchemeValid_any A n c ns W hn hns (HR.out W hB))
 clear hns
 cases hv:svB ns
 ·have he:scT ns=[]:=by unfold scT;rw [hv];simp
  rw [he,bs_nil];rw [hv] at HV;clear hv he hr
  by_cases h0:n=0
  ·subst h0
   go_enter Tryz.func15,Tryz.ntmps15
   go_wp2_with fail
   go_loopw [3,4] (fun v i wr=>v=.string ⟨#[]⟩∧i=.int .i64 0∧Hid (Below w.heap.size w wr)) (fun _ _ _=>0)
   case atStart=>exact ⟨rfl,rfl,hB0⟩
   case round =>
    obtain ⟨rfl,rfl,HB⟩:=hrel
    go_wp2_with fail
    go_ret
    exact ⟨rfl,HB.out⟩
  ·have i0:0<n:=by omega
   clear h0
   go_enter Tryz.func15,Tryz.ntmps15
   go_wp2_with fail
   go_loopw [3,4] (fun v i wr=>v=.string ⟨#[]⟩∧i=.int .i64 0∧Hid (Below w.heap.size w wr)) (fun _ _ _=>0)
   case atStart=>exact ⟨rfl,rfl,hB0⟩
   case round =>
    obtain ⟨rfl,rfl,HB⟩:=hrel
    go_wp2_with fail
    refine (HV.out _ HB.out).mono ?_
    rintro e w1 ⟨rfl,hb1⟩
    have HB1:=Lib.hid (HB.out.trans (hb1.mono HB.out.size));clear hb1
    go_wp2_with fail
    go_ret
    exact ⟨rfl,HB1.out⟩
 have hN:=(svB_iff.1 hv).1
 rw [HT.out] at hN
 have he:scT ns=scP ns n:=by unfold scT;rw [if_pos hv,HT.out]
 have HE:=Lib.hid he
 rw [hv] at HV;clear hv he
 obtain ⟨b,off,rfl,hb,_,_,_⟩:=hr.node (show 0<n by omega)
 clear hr
 go_enter Tryz.func15,Tryz.ntmps15
 go_wp2_with fail
 go_loopw [3,4] (fun v i wr=>∃k:Nat,k≤n∧i=.int .i64 k∧v=.string (bs (scP ns k))∧Hid (Below w.heap.size w wr)) (fun _ i _=>n-(intOf i).toNat)
 case atStart=>exact ⟨0,Nat.zero_le _,rfl,rfl,hB0⟩
 case round =>
  clear hB0
  obtain ⟨k,hk,rfl,rfl,HB⟩:=hrel
  by_cases hlt:k<n
  ·obtain ⟨b',off',e',hb2,r1,r2,r3⟩:=(HR.out wr HB.out).node hlt
   cases e'
   have hz:=scP_len ns k
   rw [←bs_size] at hz
   have hz2:=ndT_len (gN ns k).1 (gN ns k).2.1 (gN ns k).2.2
   rw [←bs_size] at hz2
   have HJ:Hid (bs (scP ns (k+1))=bs (scP ns k)++bs (ndT (gN ns k).1 (gN ns k).2.1 (gN ns k).2.2)++⟨#[10]⟩):=by
    unfold Hid
    show bs (scP ns k++(ndT (gN ns k).1 (gN ns k).2.1 (gN ns k).2.2++[10]))=_
    rw [←List.append_assoc,←bs_append,←bs_append];rfl
   have HX:=Lib.hid (fun W=>specNodeText_any (gN ns k).1 (gN ns k).2.1 (gN ns k).2.2 W)
   generalize bs (scP ns k)=S at *
   generalize bs (ndT (gN ns k).1 (gN ns k).2.1 (gN ns k).2.2)=D at *
   generalize (gN ns k).1=E at *
   generalize (gN ns k).2.1=J at *
   generalize (gN ns k).2.2=O at *
   have i3:(0:Int)≤(k:Int):=by omega
   have i4:(k:Int)<(n:Int):=by omega
   go_wp2_with fail
   refine (HV.out _ HB.out).mono ?_
   rintro e w1 ⟨rfl,hb1⟩
   replace r1:=(hb1.cell (p:=⟨b,off+k*3,none⟩) (by have:=HB.out.size;omega)).trans r1
   replace r2:=(hb1.cell (p:=⟨b,off+k*3+1,none⟩) (by have:=HB.out.size;omega)).trans r2
   replace r3:=(hb1.cell (p:=⟨b,off+k*3+2,none⟩) (by have:=HB.out.size;omega)).trans r3
   have HB1:=Lib.hid (HB.out.trans (hb1.mono HB.out.size));clear hb1
   go_wp2_with fail
   refine (HX.out _).mono ?_
   rintro e w2 ⟨rfl,hb2'⟩
   have HB2:=Lib.hid (HB1.out.trans (hb2'.mono HB1.out.size));clear hb2'
   go_wp2_with fail
   go_roundw
   case rel=>exact ⟨k+1,by omega,by go_num,by rw [HJ.out],HB2.out⟩
   case measure=>simp [intOf];omega
  ·obtain rfl:k=n:=by omega
   have hz:=scP_len ns k
   rw [←bs_size] at hz
   obtain ⟨S,hS⟩:∃S,bs (scP ns k)=S:=⟨_,rfl⟩
   rw [hS] at hz ⊢
   have HS:=Lib.hid hS;clear hS
   go_wp2_with fail
   go_ret
   exact ⟨ret_str (by rw [HE.out,HS.out]),HB.out⟩
theorem implSchemeText_any (A:Option Addr) (n c:Nat) (ns:List T3) (w:World) (hn:n≤1048576) (hns:ns.length=n) (hr:Reads w w.heap.size 3 A n (ncells ns)) (ht:Tab w) :
 Calls Tryz.prog 13 #[.slice A n c] w fun e w'=>e=.returned (.string (bs (scT ns)))∧Below w.heap.size w w':=by
 have HR:=Lib.hid (fun W (hB:Below w.heap.size w W)=>(hr.below hB).more hB.size)
 have HT:=Lib.hid hns
 have HTab:=Lib.hid ht
 have hB0:=Below.refl w.heap.size w
 have HV:=Lib.hid (fun W (hB:Below w.heap.size w W)=>implSchemeValid_any A n c ns W hn hns (HR.out W hB))
 clear hns ht
 cases hv:svB ns
 ·have he:scT ns=[]:=by unfold scT;rw [hv];simp
  rw [he,bs_nil];rw [hv] at HV;clear hv he hr
  go_enter Tryz.func13,Tryz.ntmps13
  go_wp2_with fail
  refine (HV.out _ hB0).mono ?_
  rintro e w1 ⟨rfl,hb1⟩
  have HB1:=Lib.hid hb1;clear hb1
  go_wp2_with fail
  go_ret
  exact ⟨rfl,HB1.out⟩
 have hN:=(svB_iff.1 hv).1
 rw [HT.out] at hN
 have he:scT ns=scP ns n:=by unfold scT;rw [if_pos hv,HT.out]
 have HE:=Lib.hid he
 rw [hv] at HV;clear hv he
 obtain ⟨b,off,rfl,hb,_,_,_⟩:=hr.node (show 0<n by omega)
 clear hr
 go_enter Tryz.func13,Tryz.ntmps13
 go_wp2_with fail
 refine (HV.out _ hB0).mono ?_
 rintro e w1 ⟨rfl,hb1⟩
 have HB1:=Lib.hid (hb1.alloc hb1.size (.cells #[.pointer none,.slice none 0 0] 53))
 have HU1:=Lib.hid (builder_new (w:=w1) hb1.size)
 obtain ⟨D,hD⟩:∃D,w1.heap.size=D:=⟨_,rfl⟩
 rw [hD] at HU1
 clear hb1 HV
 go_wp2_with fail
 go_loopw [11] (fun i wr=>∃k:Nat,k≤n∧i=.int .i64 k∧Hid (Below w.heap.size w wr)∧Hid (Lib.IsBuilderF 53 5 w.heap.size D (Lib.byteCells (scP ns k)) wr)) (fun i _=>n-(intOf i).toNat)
 case atStart=>exact ⟨0,Nat.zero_le _,rfl,HB1.out,HU1.out⟩
 case round =>
  clear hB0 HB1 HU1 hD
  obtain ⟨k,hk,rfl,HB,HU⟩:=hrel
  by_cases hlt:k<n
  ·obtain ⟨b',off',e',hb2,r1,r2,r3⟩:=(HR.out wr HB.out).node hlt
   cases e'
   have hz:=scP_len ns k
   have hz2:=ndT_len (gN ns k).1 (gN ns k).2.1 (gN ns k).2.2
   have hz3:=hz2
   rw [←bs_size] at hz3
   have HJ:Hid (scP ns (k+1)=scP ns k++(ndT (gN ns k).1 (gN ns k).2.1 (gN ns k).2.2++[10])):=rfl
   have HX:=Lib.hid (fun W=>implNodeText_any (gN ns k).1 (gN ns k).2.1 (gN ns k).2.2 W)
   have HS:Hid (bs (ndT (gN ns k).1 (gN ns k).2.1 (gN ns k).2.2)++⟨#[10]⟩=bs (ndT (gN ns k).1 (gN ns k).2.1 (gN ns k).2.2++[10])):=bs_append _ [10]
   have hz4:(ndT (gN ns k).1 (gN ns k).2.1 (gN ns k).2.2++[10]).length≤20:=by rw [List.length_append];simpa using hz2
   obtain ⟨L,hL⟩:∃L,ndT (gN ns k).1 (gN ns k).2.1 (gN ns k).2.2++[10]=L:=⟨_,rfl⟩
   rw [hL] at HS HJ hz4
   clear hL hz2
   generalize bs (ndT (gN ns k).1 (gN ns k).2.1 (gN ns k).2.2)=S at *
   generalize (gN ns k).1=E at *
   generalize (gN ns k).2.1=J at *
   generalize (gN ns k).2.2=O at *
   have HB1:=Lib.hid (HB.out.alloc HB.out.size (.cells #[.int .i64 E,.int .i64 J,.bool O] 34))
   have HU1:=Lib.hid (HU.out.alloc (.cells #[.int .i64 E,.int .i64 J,.bool O] 34))
   obtain ⟨y1,y2,y3,_,_,_⟩:=blk3 (Blk.new wr 34 #[.int .i64 E,.int .i64 J,.bool O])
   have i3:(0:Int)≤(k:Int):=by omega
   have i4:(k:Int)<(n:Int):=by omega
   go_wp2_with fail
   refine (HX.out _ (HTab.out.on HB1.out)).mono ?_
   rintro e w2 ⟨rfl,hb2'⟩
   have HB2:=Lib.hid (HB1.out.trans (hb2'.mono HB1.out.size))
   have HU2:=Lib.hid (builder_below HU1.out hb2');clear hb2'
   go_wp2_with fail
   rw [HS.out]
   refine (writeString_any w.heap.size D (scP ns k) L w2 HU2.out (by omega) HB2.out.size).mono ?_
   rintro e w3 ⟨rfl,hu3,hb3⟩
   have HB3:=Lib.hid (HB2.out.trans hb3);clear hb3
   have HU3:=Lib.hid hu3;clear hu3
   go_wp2_with fail
   go_roundw
   case rel=>exact ⟨k+1,by omega,by go_num,HB3.out,by rw [HJ.out];exact HU3.out⟩
   case measure=>simp [intOf];omega
  ·obtain rfl:k=n:=by omega
   go_wp2_with fail
   refine (Tryz.Builder_String_any_f w.heap.size D _ wr HU.out HB.out.size).mono ?_
   rintro e w3 ⟨rfl,_,hb3⟩
   have HB3:=Lib.hid (HB.out.trans hb3);clear hb3
   go_wp2_with fail
   go_ret
   exact ⟨ret_str (by rw [HE.out];rfl),HB3.out⟩
end
end Go.Proofs.YtammfhheibaeaaaGreatDoor
