/- Parts of the proof of : RqC. -/
import Derived.Test.YtlgdndnaiogooaaGreatDoorQ33
import Derived.Test.YtlgdndnaiogooaaGreatDoorQ34
import Derived.Test.YtlgdndnaiogooaaGreatDoorQ32
set_option maxHeartbeats 20000000
set_option maxRecDepth 1000000
set_option linter.unusedSimpArgs false
set_option linter.unusedVariables false
namespace Go.Proofs.YtlgdndnaiogooaaGreatDoor
section
open Go.RowKit
attribute [local go_sem ↓] Go.wp_at_zero Go.wp_at_succ
theorem st_3 {T:TypeId} (hi:(Tryz.prog.info? T).map (·.size)=some 3) (W:World) (g:Nat) (z0 z1 z2 a b c:Value) (ha:a.oneCell'=true) (hb:b.oneCell'=true) (hc:c.oneCell'=true) (h:Blk W g T #[z0,z1,z2]) :
 ∃W',(Instr.storeAt T (.pointer (some ⟨g,0,none⟩)) (.agg #[a,b,c])).run Tryz.prog W=.ok () W'∧Fr.Wrote W W' g∧Blk W' g T #[a,b,c]:=by
 obtain ⟨x1,x2,x3,f1,f2,f3⟩:=blk3 h
 refine ⟨((W.setCell ⟨g,0,none⟩ a).setCell ⟨g,1,none⟩ b).setCell ⟨g,2,none⟩ c,?_,((Fr.wrote_set W g 0 a).trans (Fr.wrote_set _ g 1 b)).trans (Fr.wrote_set _ g 2 c),((h.set 0 a).set 1 b).set 2 c⟩
 refine run_storeAt_mid W g 0 T #[a,b,c] (fun j hj=>?_) hi (by simp [ha,hb,hc])
 have hj:j=0∨j=1∨j=2:=by simp at hj;omega
 rcases hj with rfl | rfl | rfl
 ·exact ⟨by rw [Nat.add_zero,x1];rfl,f1⟩
 ·exact ⟨by rw [Nat.zero_add,x2];rfl,f2⟩
 ·exact ⟨by rw [Nat.zero_add,x3];rfl,f3⟩
theorem st_2 {T:TypeId} (hi:(Tryz.prog.info? T).map (·.size)=some 2) (W:World) (g:Nat) (z0 z1 a b:Value) (ha:a.oneCell'=true) (hb:b.oneCell'=true) (h:Blk W g T #[z0,z1]) :
 ∃W',(Instr.storeAt T (.pointer (some ⟨g,0,none⟩)) (.agg #[a,b])).run Tryz.prog W=.ok () W'∧Fr.Wrote W W' g∧Blk W' g T #[a,b]:=by
 obtain ⟨x1,x2,f1,f2⟩:=blk2 h
 refine ⟨(W.setCell ⟨g,0,none⟩ a).setCell ⟨g,1,none⟩ b,?_,(Fr.wrote_set W g 0 a).trans (Fr.wrote_set _ g 1 b),(h.set 0 a).set 1 b⟩
 refine run_storeAt_mid W g 0 T #[a,b] (fun j hj=>?_) hi (by simp [ha,hb])
 have hj:j=0∨j=1:=by simp at hj;omega
 rcases hj with rfl | rfl
 ·exact ⟨by rw [Nat.add_zero,x1];rfl,f1⟩
 ·exact ⟨by rw [Nat.zero_add,x2];rfl,f2⟩
def rqCl (s0 s1 s2 s3 s4:List UInt8):List UInt8 × Bool:=(rootT (clR (numOf s0) (numOf s1) (numOf s2) (numOf s3) (numOf s4)).1,(clR (numOf s0) (numOf s1) (numOf s2) (numOf s3) (numOf s4)).2)
theorem reqClebsch_any (s0 s1 s2 s3 s4:List UInt8) (b:Nat) (w:World) (l0:s0.length≤1000) (l1:s1.length≤1000) (l2:s2.length≤1000) (l3:s3.length≤1000) (l4:s4.length≤1000) (hb:b<w.heap.size)
 (h0:w.cell? ⟨b,1,none⟩=some (.string (bs s0))) (h1:w.cell? ⟨b,2,none⟩=some (.string (bs s1))) (h2:w.cell? ⟨b,3,none⟩=some (.string (bs s2))) (h3:w.cell? ⟨b,4,none⟩=some (.string (bs s3))) (h4:w.cell? ⟨b,5,none⟩=some (.string (bs s4))) (ht:Tab w) :
 Calls Tryz.prog 130 #[.agg #[.slice (some ⟨b,1,none⟩) 5 5]] w fun e w'=>e=.returned (.tuple #[.string (bs (rqCl s0 s1 s2 s3 s4).1),.bool (rqCl s0 s1 s2 s3 s4).2])∧Below w.heap.size w w':=by
 have HN0:=Lib.hid (fun W (hW:Below w.heap.size w W)=>number_any s0 b 1 5 5 0 W l0 (by omega) (by omega) (Nat.lt_of_lt_of_le hb hW.size) (cell_sub hW h0))
 have HN1:=Lib.hid (fun W (hW:Below w.heap.size w W)=>number_any s1 b 1 5 5 1 W l1 (by omega) (by omega) (Nat.lt_of_lt_of_le hb hW.size) (cell_sub hW h1))
 have HN2:=Lib.hid (fun W (hW:Below w.heap.size w W)=>number_any s2 b 1 5 5 2 W l2 (by omega) (by omega) (Nat.lt_of_lt_of_le hb hW.size) (cell_sub hW h2))
 have HN3:=Lib.hid (fun W (hW:Below w.heap.size w W)=>number_any s3 b 1 5 5 3 W l3 (by omega) (by omega) (Nat.lt_of_lt_of_le hb hW.size) (cell_sub hW h3))
 have HN4:=Lib.hid (fun W (hW:Below w.heap.size w W)=>number_any s4 b 1 5 5 4 W l4 (by omega) (by omega) (Nat.lt_of_lt_of_le hb hW.size) (cell_sub hW h4))
 have HTb:=Lib.hid (fun W (hb:Below w.heap.size w W)=>ht.on hb);clear ht h0 h1 h2 h3 h4 l0 l1 l2 l3 l4
 unfold rqCl
 simp only
 have HCl:=Lib.hid (fun W=>implClebsch_any (numOf s0) (numOf s1) (numOf s2) (numOf s3) (numOf s4) W)
 obtain ⟨r,hr⟩:∃r,clR (numOf s0) (numOf s1) (numOf s2) (numOf s3) (numOf s4)=r:=⟨_,rfl⟩
 rw [hr] at HCl ⊢
 clear hr
 generalize numOf s0=n0 at *
 generalize numOf s1=n1 at *
 generalize numOf s2=n2 at *
 generalize numOf s3=n3 at *
 generalize numOf s4=n4 at *
 obtain ⟨⟨sg,x,y⟩,ok⟩:=r
 unfold rtO rtV at HCl
 simp only at HCl ⊢
 have HRT:=Lib.hid (fun W (hW:Tab W)=>implRootText_any sg x y W hW)
 generalize bs (rootT (sg,(x,y)))=Y at *
 have HB0:=Lib.hid (bel_alloc (Below.refl w.heap.size w) (.cells #[.slice (some ⟨b,1,none⟩) 5 5] 136))
 have HQ0:=Lib.hid (Blk.new w 136 #[.slice (some ⟨b,1,none⟩) 5 5])
 go_enter Tryz.func130,Tryz.ntmps130
 go_wp2_with fail
 refine (exactly_any _ 5 5 _).mono ?_
 rintro e w1 ⟨rfl,hb1⟩
 have HB1:=Lib.hid (bel_sub HB0.out hb1)
 have c0:w1.cell? ⟨w.heap.size,0,none⟩=some (.slice (some ⟨b,1,none⟩) 5 5):=(HQ0.out.sub hb1).cell 0
 clear hb1 HB0 HQ0
 go_wp2_with fail
 refine Fr.region_free' [(52,4)] [(52,4,.tmp 20)] (fun _=>52) (fun _=>#[.int .i64 0,.int .i64 0,.int .i64 0]) (fun _=>#[.int .i64 sg,.int .i64 x,.int .i64 y]) 25 (by kernel_rfl) rfl (by kernel_rfl) rfl rfl ?hxq ?hal ?h
 case hxq=>intro s hs e he;simp at hs;subst hs;simp at he;subst he;simp
 case hal=>intro x hx W;simp at hx;subst hx;simp [go_sem]
 case h =>
 apply Exists.intro
 refine ⟨?hW,?hst,?hQ⟩
 case hW =>
  intro A θ hne
  have HTA:=Lib.hid (fun p:Fr.AftB w1 (fun _=>52) A θ=>bel_sub HB1.out p.below)
  have k0:=fun p:Fr.AftB w1 (fun _=>52) A θ=>p.cell c0
  simp only [List.filter_cons,List.filter_nil,Fr.isQ,Fr.alOf,Fr.stOf,Option.isNone_none,Option.isNone_some,Bool.and_self,Bool.and_true,Bool.and_false,Bool.false_eq_true,↓reduceIte]
  repeat (go_big_quiet_step ((first | (go_at_call 152;first | (with_reducible exact Fr.aftB_call _ (HN0.out _ (HTA.out _))) | (with_reducible exact Fr.aftB_call _ (HN1.out _ (HTA.out _))) | (with_reducible exact Fr.aftB_call _ (HN2.out _ (HTA.out _))) | (with_reducible exact Fr.aftB_call _ (HN3.out _ (HTA.out _))) | (with_reducible exact Fr.aftB_call _ (HN4.out _ (HTA.out _)))) | (go_at_call 26;exact Fr.aftB_call _ (HCl.out _)))))
  exact wpQuiet_nil rfl
 case hst =>
  intro s hs W g hB
  simp at hs
  subst hs
  exact st_3 (by kernel_rfl) W g _ _ _ (.int .i64 sg) (.int .i64 x) (.int .i64 y) rfl rfl rfl hB
 case hQ =>
  intro A w' hb hals hap
  obtain ⟨hA,hbl⟩:=hals (52,4) (by simp)
  simp only at hA hbl
  have HB2:=Lib.hid (bel_sub HB1.out hb)
  obtain ⟨y1,y2,y3,_,_,_⟩:=blk3 hbl
  clear hals hap hb hbl
  simp only [Fr.putAls,Act.put,List.setIfInBounds_toArray,List.set_cons_succ,List.set_cons_zero]
  generalize A 4=g at *
  go_wp2_with fail
  refine (HRT.out _ (HTb.out _ HB2.out)).mono ?_
  rintro e w4 ⟨rfl,hb4⟩
  have HB4:=Lib.hid (bel_sub HB2.out hb4)
  go_wp2_with fail
  go_ret2
  exact ⟨rfl,HB4.out⟩
end
end Go.Proofs.YtlgdndnaiogooaaGreatDoor
