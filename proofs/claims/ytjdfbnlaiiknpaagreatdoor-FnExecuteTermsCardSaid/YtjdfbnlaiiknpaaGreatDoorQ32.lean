/- Parts of the proof of : RqX RqL. -/
import Derived.Test.YtjdfbnlaiiknpaaGreatDoorQ31
set_option maxHeartbeats 20000000
set_option maxRecDepth 1000000
set_option linter.unusedSimpArgs false
set_option linter.unusedVariables false
namespace Go.Proofs.YtjdfbnlaiiknpaaGreatDoor
section
open Go.RowKit
attribute [local go_sem ↓] Go.wp_at_zero Go.wp_at_succ
def rqSx (s0 s1 s2 s3 s4 s5:List UInt8):List UInt8 × Bool:=(rootT (sxJ (numOf s0) (numOf s1) (numOf s2) (numOf s3) (numOf s4) (numOf s5)).1,(sxJ (numOf s0) (numOf s1) (numOf s2) (numOf s3) (numOf s4) (numOf s5)).2)
theorem reqSix_any (s0 s1 s2 s3 s4 s5:List UInt8) (b:Nat) (w:World) (l0:s0.length≤1000) (l1:s1.length≤1000) (l2:s2.length≤1000) (l3:s3.length≤1000) (l4:s4.length≤1000) (l5:s5.length≤1000) (hb:b<w.heap.size)
 (h0:w.cell? ⟨b,1,none⟩=some (.string (bs s0))) (h1:w.cell? ⟨b,2,none⟩=some (.string (bs s1))) (h2:w.cell? ⟨b,3,none⟩=some (.string (bs s2))) (h3:w.cell? ⟨b,4,none⟩=some (.string (bs s3))) (h4:w.cell? ⟨b,5,none⟩=some (.string (bs s4))) (h5:w.cell? ⟨b,6,none⟩=some (.string (bs s5))) (ht:Tab w) :
 Calls Tryz.prog 91 #[.agg #[.slice (some ⟨b,1,none⟩) 6 6]] w fun e w'=>e=.returned (.tuple #[.string (bs (rqSx s0 s1 s2 s3 s4 s5).1),.bool (rqSx s0 s1 s2 s3 s4 s5).2])∧Below w.heap.size w w':=by
 have HN0:=Lib.hid (fun W (hW:Below w.heap.size w W)=>number_any s0 b 1 6 6 0 W l0 (by omega) (by omega) (Nat.lt_of_lt_of_le hb hW.size) (cell_sub hW h0))
 have HN1:=Lib.hid (fun W (hW:Below w.heap.size w W)=>number_any s1 b 1 6 6 1 W l1 (by omega) (by omega) (Nat.lt_of_lt_of_le hb hW.size) (cell_sub hW h1))
 have HN2:=Lib.hid (fun W (hW:Below w.heap.size w W)=>number_any s2 b 1 6 6 2 W l2 (by omega) (by omega) (Nat.lt_of_lt_of_le hb hW.size) (cell_sub hW h2))
 have HN3:=Lib.hid (fun W (hW:Below w.heap.size w W)=>number_any s3 b 1 6 6 3 W l3 (by omega) (by omega) (Nat.lt_of_lt_of_le hb hW.size) (cell_sub hW h3))
 have HN4:=Lib.hid (fun W (hW:Below w.heap.size w W)=>number_any s4 b 1 6 6 4 W l4 (by omega) (by omega) (Nat.lt_of_lt_of_le hb hW.size) (cell_sub hW h4))
 have HN5:=Lib.hid (fun W (hW:Below w.heap.size w W)=>number_any s5 b 1 6 6 5 W l5 (by omega) (by omega) (Nat.lt_of_lt_of_le hb hW.size) (cell_sub hW h5))
 have HTb:=Lib.hid (fun W (hb:Below w.heap.size w W)=>ht.on hb);clear ht h0 h1 h2 h3 h4 h5 l0 l1 l2 l3 l4 l5
 unfold rqSx
 simp only
 have HCl:=Lib.hid (fun W=>implSixJ_any (numOf s0) (numOf s1) (numOf s2) (numOf s3) (numOf s4) (numOf s5) W)
 obtain ⟨r,hr⟩:∃r,sxJ (numOf s0) (numOf s1) (numOf s2) (numOf s3) (numOf s4) (numOf s5)=r:=⟨_,rfl⟩
 rw [hr] at HCl ⊢
 clear hr
 generalize numOf s0=n0 at *
 generalize numOf s1=n1 at *
 generalize numOf s2=n2 at *
 generalize numOf s3=n3 at *
 generalize numOf s4=n4 at *
 generalize numOf s5=n5 at *
 obtain ⟨⟨sg,x,y⟩,ok⟩:=r
 unfold rtO rtV at HCl
 simp only at HCl ⊢
 have HRT:=Lib.hid (fun W (hW:Tab W)=>implRootText_any sg x y W hW)
 generalize bs (rootT (sg,(x,y)))=Y at *
 have HB0:=Lib.hid (bel_alloc (Below.refl w.heap.size w) (.cells #[.slice (some ⟨b,1,none⟩) 6 6] 91))
 have HQ0:=Lib.hid (Blk.new w 91 #[.slice (some ⟨b,1,none⟩) 6 6])
 go_enter Tryz.func91,Tryz.ntmps91
 go_wp2_with fail
 refine (exactly_any _ 6 6 _).mono ?_
 rintro e w1 ⟨rfl,hb1⟩
 have HB1:=Lib.hid (bel_sub HB0.out hb1)
 have c0:w1.cell? ⟨w.heap.size,0,none⟩=some (.slice (some ⟨b,1,none⟩) 6 6):=(HQ0.out.sub hb1).cell 0
 clear hb1 HB0 HQ0
 go_wp2_with fail
 refine Fr.region_free' [(99,4)] [(99,4,.tmp 22)] (fun _=>99) (fun _=>#[.int .i64 0,.int .i64 0,.int .i64 0]) (fun _=>#[.int .i64 sg,.int .i64 x,.int .i64 y]) 27 (by kernel_rfl) rfl (by kernel_rfl) rfl rfl ?hxq ?hal ?h
 case hxq=>intro s hs e he;simp at hs;subst hs;simp at he;subst he;simp
 case hal=>intro x hx W;simp at hx;subst hx;simp [go_sem]
 case h =>
 apply Exists.intro
 refine ⟨?hW,?hst,?hQ⟩
 case hW =>
  intro A θ hne
  have HTA:=Lib.hid (fun p:Fr.AftB w1 (fun _=>99) A θ=>bel_sub HB1.out p.below)
  have k0:=fun p:Fr.AftB w1 (fun _=>99) A θ=>p.cell c0
  simp only [List.filter_cons,List.filter_nil,Fr.isQ,Fr.alOf,Fr.stOf,Option.isNone_none,Option.isNone_some,Bool.and_self,Bool.and_true,Bool.and_false,Bool.false_eq_true,↓reduceIte]
  repeat (go_big_quiet_step ((first | (go_at_call 133;first | (with_reducible exact Fr.aftB_call _ (HN0.out _ (HTA.out _))) | (with_reducible exact Fr.aftB_call _ (HN1.out _ (HTA.out _))) | (with_reducible exact Fr.aftB_call _ (HN2.out _ (HTA.out _))) | (with_reducible exact Fr.aftB_call _ (HN3.out _ (HTA.out _))) | (with_reducible exact Fr.aftB_call _ (HN4.out _ (HTA.out _))) | (with_reducible exact Fr.aftB_call _ (HN5.out _ (HTA.out _)))) | (go_at_call 144;exact Fr.aftB_call _ (HCl.out _)))))
  exact wpQuiet_nil rfl
 case hst =>
  intro s hs W g hB
  simp at hs
  subst hs
  exact st_3 (by kernel_rfl) W g _ _ _ (.int .i64 sg) (.int .i64 x) (.int .i64 y) rfl rfl rfl hB
 case hQ =>
  intro A w' hb hals hap
  obtain ⟨hA,hbl⟩:=hals (99,4) (by simp)
  simp only at hA hbl
  have HB2:=Lib.hid (bel_sub HB1.out hb)
  obtain ⟨y1,y2,y3,_,_,_⟩:=blk3 hbl
  clear hals hap hb hbl
  simp only [Fr.putAls,Act.put,List.setIfInBounds_toArray,List.set_cons_succ,List.set_cons_zero]
  generalize A 4=g at *
  go_wp2_with fail
  refine (HRT.out _ (HTb.out _ HB2.out)).mono ?_
  rintro e w4 ⟨rfl,hb4⟩
  have HB4:=Lib.hid (bel_sub HB2.out hb4)
  go_wp2_with fail
  go_ret2
  exact ⟨rfl,HB4.out⟩
end
section
open Go.RowKit
attribute [local go_sem ↓] Go.wp_at_zero Go.wp_at_succ
theorem tmF_tv (q:List UInt8):tvB (tmF q).1=true:=by
 unfold tmF
 split
 ·rename_i h
  cases hv:tvB (tmU q)
  ·have:tmT (tmU q)=[]:=by unfold tmT;rw [hv];rfl
   rw [this] at h
   have h1:=h.1
   rw [←h.2] at h1
   cases h1
  ·rfl
 ·rfl
def rqLe (q:List UInt8):List UInt8 × Bool:=(lvT (tmF q).1,(tmF q).2)
theorem reqLevels_all (q:List UInt8) (b:Nat) (w:World) (hq:q.length≤1000000) (hb:b<w.heap.size) (hA:w.cell? ⟨b,1,none⟩=some (.string (bs q))) :
 Calls Tryz.prog 88 #[.agg #[.slice (some ⟨b,1,none⟩) 1 1]] w fun e w'=>e=.returned (.tuple #[.string (bs (rqLe q).1),.bool (rqLe q).2])∧Below w.heap.size w w':=by
 have hv:=tmF_tv q
 have HTF:=Lib.hid (fun W=>TermFrom_all q W hq)
 unfold rqLe
 simp only
 obtain ⟨⟨t,ok⟩,hr⟩:∃r,tmF q=r:=⟨_,rfl⟩
 rw [hr] at HTF hv ⊢
 clear hr
 unfold tmV at HTF
 simp only at HTF hv ⊢
 have hlen:=lv_len hv
 have HLO:=Lib.hid (fun W=>implLevelsOf_any t W)
 have HLT:=Lib.hid (fun j hj W=>LevelText_any t j W hj)
 have HJL:=Lib.hid (joinl_len hv (lvJs t))
 have HLV:Hid (bs (lvT t)=bs (Lib.join ((lvJs t).map (l1T t)) [32])):=rfl
 obtain ⟨X,hX⟩:∃X,bs q=X:=⟨_,rfl⟩
 rw [hX] at HTF hA;clear hX
 obtain ⟨js,hjs⟩:∃js,lvJs t=js:=⟨_,rfl⟩
 obtain ⟨n,hn⟩:∃n,js.length=n:=⟨_,rfl⟩
 unfold LevelsPost at HLO
 rw [hjs] at hlen HLO HLT HLV HJL
 rw [hn] at hlen HLO HJL
 have HN:=Lib.hid hn;clear hjs hn hv
 have HA:=Lib.hid hA;clear hA
 obtain ⟨cs,hcs,hmk⟩:=run_mk0 elStr 9 (by omega) (by omega)
 have HCS:=Lib.hid hcs;clear hcs
 replace hmk:∀w:World,(Instr.makeSlice 45 (.int .i64 0) (.int .i64 9)).run Tryz.prog w=.ok (.slice (some ⟨w.heap.size,0,none⟩) 0 9) (w.alloc (.cells cs 9)):=fun w=>hmk w
 have HB0:=Lib.hid ((Below.refl w.heap.size w).alloc (Nat.le_refl _) (.cells #[.slice (some ⟨b,1,none⟩) 1 1] 91))
 have HQ0:Hid (Blk (w.alloc (.cells #[.slice (some ⟨b,1,none⟩) 1 1] 91)) w.heap.size 91 #[.slice (some ⟨b,1,none⟩) 1 1]):=Blk.new w _ _
 obtain ⟨s,l⟩:=t
 go_enter Tryz.func88,Tryz.ntmps88
 go_wp2_with fail
 refine (exactly_any _ 1 1 _).mono ?_
 rintro e w1 ⟨rfl,hb1⟩
 have HB1:=Lib.hid (HB0.out.trans (hb1.mono HB0.out.size))
 have c0:w1.cell? ⟨w.heap.size,0,none⟩=some (.slice (some ⟨b,1,none⟩) 1 1):=(HQ0.out.sub hb1).cell 0
 have hA:=(HB1.out.cell (p:=⟨b,1,none⟩) hb).trans HA.out
 clear hb1 HB0 HQ0
 go_wp2_with fail
 refine (HTF.out _).mono ?_
 rintro e w2 ⟨rfl,hb2⟩
 have HB2:=Lib.hid (HB1.out.trans (hb2.mono HB1.out.size))
 clear hb2 c0 hA HB1
 have HB3:=Lib.hid (HB2.out.alloc HB2.out.size (.cells #[.int .i64 s,.int .i64 l] 39))
 have HT3:=Lib.hid (Blk.new w2 39 #[.int .i64 s,.int .i64 l])
 have HO:=Lib.hid (World.ownsRow_made (base:=w.heap.size) (e:=9) (size:=1) (w2.alloc (.cells #[.int .i64 s,.int .i64 l] 39)) cs 9 HB3.out.size (by unfold maxLen;omega) HCS.out)
 rw [show (w2.alloc (.cells #[.int .i64 s,.int .i64 l] 39)).heap.size=w2.heap.size+1 by simp] at HO
 have HB4:=Lib.hid (HB3.out.alloc HB3.out.size (.cells cs 9))
 have HT4:=Lib.hid (HT3.out.alloc (.cells cs 9))
 obtain ⟨x1,x2,_,_⟩:=blk2 HT4.out
 clear HB2 HB3 HT3 HCS
 go_wp2_with fail
 clear hmk
 refine (HLO.out _).mono ?_
 rintro e w5 ⟨⟨A,c,rfl,hr5⟩,hb5⟩
 have HB5:=Lib.hid (HB4.out.trans (hb5.mono HB4.out.size))
 have HO5:=Lib.hid (own_below HO.out hb5)
 obtain ⟨B4,hB4⟩:∃B4,((w2.alloc (.cells #[.int .i64 s,.int .i64 l] 39)).alloc (.cells cs 9)).heap.size=B4:=⟨_,rfl⟩
 rw [hB4] at hr5
 have HL5:=Lib.hid hr5
 clear hb5 hr5 hB4 x1 x2 HO HB4 HT4 HLO HTF HA
 go_wp2_with fail
 go_loopw [6,8,23] (fun v u i wr=>∃(k:Nat) (A':Option Addr) (c':Nat),k≤n∧i=.int .i64 k∧v=.slice A' k c'∧k≤c'∧Hid (wr.ownsRow w.heap.size 9 1 (.slice A' k c') k (scells ((js.take k).map (l1T (s,l)))))∧Hid (wr.ownsRow B4 131 3 (.slice A n c) n (lcells (s,l) js))∧Hid (Below w.heap.size w wr)) (fun _ _ i _=>n-(RowKit.intOf i).toNat)
 case atStart=>exact ⟨0,_,_,Nat.zero_le _,rfl,rfl,Nat.zero_le _,HO5.out,HL5.out,HB5.out⟩
 case round =>
  clear HO5 HL5 HB5
  obtain ⟨k,A',c',hk,rfl,rfl,hkc,HW,HL,HB⟩:=hrel
  by_cases hlt:k<n
  ·obtain ⟨b',off,j,rfl,hb',r1,r2,r3,hg⟩:=(own_reads HL.out).lev HN.out hlt
   have hkl:k<js.length:=by rw [HN.out];exact hlt
   have hjk:js[k]=j:=by have:=hg.out;rw [List.getElem?_eq_getElem hkl] at this;injection this
   have HX:=Lib.hid (fun W=>HLT.out j (by rw [←hjk];exact List.getElem_mem hkl) W)
   have HJ:Hid (scells ((js.take (k+1)).map (l1T (s,l)))=scells ((js.take k).map (l1T (s,l)))++[.string (bs (tmT (s,l)++spT j))]):=by
    unfold Hid scells
    rw [List.take_succ_eq_append_getElem hkl,List.map_append,List.map_append,hjk]
    rfl
   clear hg hjk hkl
   generalize bs (tmT (s,l)++spT j)=T at *
   have HB1:=Lib.hid (HB.out.alloc HB.out.size (.cells #[.int .i64 s,.int .i64 l,.int .i64 j] 131))
   have HX1:=Lib.hid (Blk.new wr 131 #[.int .i64 s,.int .i64 l,.int .i64 j])
   have HL1:=Lib.hid (own_below HL.out ((Below.refl _ _).alloc (Nat.le_refl _) (.cells #[.int .i64 s,.int .i64 l,.int .i64 j] 131)))
   have HW1:=Lib.hid (own_below HW.out ((Below.refl _ _).alloc (Nat.le_refl _) (.cells #[.int .i64 s,.int .i64 l,.int .i64 j] 131)))
   go_wp2_with fail
   refine (HX.out _).mono ?_
   rintro e w6 ⟨rfl,hb6⟩
   have HB3:=Lib.hid (HB1.out.trans (hb6.mono HB1.out.size))
   have HW3:=Lib.hid (own_below HW1.out hb6)
   have HL3:=Lib.hid (own_below HL1.out hb6)
   have hs3:=HB3.out.size
   clear hb6 HB1 HW1 HX1 HL1
   go_wp2_with (at_builtin;refine wpList_app1K _ rfl (.tmp 27) (.tmp 30) _ rfl w.heap.size 9 1 16 elStr A' c' k (scells ((js.take k).map (l1T (s,l)))) rfl (HW3.out.alloc _) w6.heap.size #[.string T] rfl (Blk.new w6 _ _) rfl ?h1 (by omega) (by omega) (by simp;omega) ?_)
   case h1=>simp [Value.oneCell']
   intro A2 c2 w7 hown7 hc7 hb7 hk7
   have HW7:=Lib.hid hown7
   have HB7:=Lib.hid ((HB3.out.alloc HB3.out.size (.cells #[.string T] 9)).trans hb7)
   have HL7:=Lib.hid (own_keepT (own_below HL3.out ((Below.refl _ _).alloc (Nat.le_refl _) (.cells #[.string T] 9))) hk7 (by decide))
   clear hown7 hb7 hk7 HL3 HB3 HW3
   go_wp2_with fail
   go_roundw
   case rel =>
    refine ⟨k+1,A2,c2,by omega,by go_num,rfl,hc7,?_,HL7.out,HB7.out⟩
    unfold Hid
    rw [HJ.out];simpa only [List.map_take] using HW7.out
   case measure=>simp [RowKit.intOf];omega
  ·obtain rfl:k=n:=by omega
   obtain ⟨g,cur,rfl,hg,hblk,hfl⟩:=own_blk2 HW.out (by omega)
   have htk:js.take k=js:=List.take_of_length_le (by rw [HN.out];exact Nat.le_refl _)
   have hjl:=HJL.out k (Nat.le_refl _)
   rw [htk] at hfl hjl
   have hmm:((js.map fun j=>bs (l1T (s,l) j)).map fun x:ByteArray=>x.data.toList)=js.map (l1T (s,l)):=by
    rw [List.map_map]
    congr 1
   have hln:(js.map fun j=>bs (l1T (s,l) j)).length=k:=by rw [List.length_map,HN.out]
   have hj:=Tryz.strings_Join g 0 c' (js.map fun j=>bs (l1T (s,l) j)) ⟨#[32]⟩ wr (fun i x hx=>by
    rw [Nat.zero_add,hblk.cell]
    refine hfl i _ ?_
    unfold scells
    rw [List.map_map]
    rw [List.getElem?_map] at hx ⊢
    cases hq:js[i]? with
    | none=>rw [hq] at hx;cases hx
    | some l=>rw [hq] at hx;cases hx;rfl) hblk.lt (by rw [hln];omega) (by rw [hln];exact hkc) (by rw [hmm];show (Lib.join _ [32]).length≤_;omega)
   rw [hmm,show (⟨#[32]⟩:ByteArray).data.toList=[32] from rfl,hln] at hj
   have HJ:=Lib.hid hj
   have HB9:=Lib.hid HB.out
   clear hj hjl hblk hfl htk hmm hln
   go_wp2_with fail
   refine HJ.out.mono ?_
   rintro e w1 ⟨rfl,hb1⟩
   have HB1:=Lib.hid (HB9.out.trans (hb1.mono HB9.out.size));clear hb1
   go_wp2_with fail
   go_ret2
   exact ⟨by rw [HLV.out];rfl,HB1.out⟩
end
end Go.Proofs.YtjdfbnlaiiknpaaGreatDoor
