/- Parts of the proof of : SpE. -/
import Derived.Test.YtlgdndnaiogooaaGreatDoorQ44
import Derived.RangeFuncNested
import Derived.OwnWalkIn
import Derived.TacticsInMore
import Derived.LoopNIn
import Derived.LoopIn
set_option maxHeartbeats 20000000
set_option maxRecDepth 1000000
set_option linter.unusedSimpArgs false
set_option linter.unusedVariables false
namespace Go.Proofs.YtlgdndnaiogooaaGreatDoor
section
section
section
open Go.RowKit
attribute [local go_sem] Oper.semAt_some
abbrev PJ (j:Nat):={ x:Int // (-(j:Int)≤x∧x≤(j:Int))∧((j:Int)+x) % 2=0 }
def KpJ (B0:Nat) (W W':World):Prop:=W'.heap[B0]?=W.heap[B0]?
theorem KpJ.trans {B0:Nat} {A B C:World} (h:KpJ B0 A B) (k:KpJ B0 B C):KpJ B0 A C:=Eq.trans k h
theorem proj_in (N:Nat) (hN:1≤N) (l B0:Nat) (j:Nat) (hj:j≤24) (J Jx:List (PJ j)→World→Prop) (W:World)
 (hY:∀pre x W,J pre W→pre.length<j+1→YieldAt Fence.wide (N-1) Tryz.prog l #[.int .i64 x.1] W fun e W' =>
  (e=.returned (.bool true)∧J (pre++[x]) W'∧KpJ B0 W W')∨(e=.returned (.bool false)∧Jx (pre++[x]) W'))
 (hB:W.cell? ⟨B0,0,none⟩=some (.int .i64 (j:Int))) (hJ0:J [] W) :
 CallsIn Fence.wide N Tryz.prog 114 #[.func (.yield l) #[] #[],.pointer (some ⟨B0,0,none⟩)] W fun e W'=>(∃v,e=.returned v) ∧
  ((∃ys:List (PJ j),ys.map (·.1)=prj (j:Int) (j+1)∧J ys W')∨(∃pre,True∧Jx pre W')):=by
 have HY:=Lib.hid hY;have HJ0:=Lib.hid hJ0;have HB:=Lib.hid hB
 clear hY hJ0
 have hK0:KpJ B0 W W:=rfl
 refine callsIn_of_wp Tryz.func114 rfl trivial ?_ rfl
 simp only [Tryz.ntmps114,List.size_toArray,List.length_cons,List.length_nil,Nat.reduceAdd,Nat.reduceSub,Array.replicate_succ,Array.replicate_zero,List.push_toArray,List.append_toArray,List.nil_append,List.cons_append]
 refine wpIn_wide.2 ?_
 go_wp2_with fail
 clear hB
 go_loopw [3] (fun i wr=>∃(k:Nat) (pre:List (PJ j)),k≤j+1∧i=.int .i64 (-(j:Int)+2*(k:Int))∧Hid (pre.map (·.1)=prj (j:Int) k)∧Hid (J pre wr)∧Hid (KpJ B0 W wr)) (fun i _=>((j:Int)+2-RowKit.intOf i).toNat)
 case atStart=>exact ⟨0,[],Nat.zero_le _,by go_num,rfl,HJ0.out,hK0⟩
 case round =>
  clear hK0 HJ0
  obtain ⟨k,pre,hk,rfl,HPE,HJ,HK⟩:=hrel
  have hB:wr.cell? ⟨B0,0,none⟩=some (.int .i64 (j:Int)):=(World.cell?_of_block (a:=⟨B0,0,none⟩) (show wr.heap[B0]?=W.heap[B0]? from HK.out)).trans HB.out
  by_cases hlt:k<j+1
  ·have HPS:=Lib.hid (prj_succ (j:Int) k)
   have hP:(-(j:Int)≤-(j:Int)+2*(k:Int)∧-(j:Int)+2*(k:Int)≤(j:Int))∧((j:Int)+(-(j:Int)+2*(k:Int))) % 2=0:=by omega
   have HLP:Hid (pre.length=k):=by unfold Hid;rw [←prj_len (j:Int) k,←HPE.out,List.length_map]
   have HPX:Hid ((pre++[(⟨-(j:Int)+2*(k:Int),hP⟩:PJ j)]).map (·.1)=prj (j:Int) (k+1)):=by unfold Hid;rw [List.map_append,HPE.out,prj_succ];rfl
   obtain ⟨fn,tmps,assign,body,hyl,hR⟩:=HY.out pre ⟨-(j:Int)+2*(k:Int),hP⟩ wr HJ.out (by rw [HLP.out];omega)
   have HRD:=Lib.hid hR;clear hR
   simp only at hyl
   have i1:-(j:Int)+2*(k:Int)≤(j:Int):=by omega
   obtain ⟨M,hM⟩:∃M:Int,-(j:Int)+2*(k:Int)=M:=⟨_,rfl⟩
   obtain ⟨q,hq⟩:∃q:List (PJ j),pre++[(⟨-(j:Int)+2*(k:Int),hP⟩:PJ j)]=q:=⟨_,rfl⟩
   rw [hq] at HPX HRD
   clear hq
   rw [hM] at i1 hyl
   simp only [hM]
   have i2:-24≤M:=by omega
   have HM:=Lib.hid hM;clear hM
   go_upto_region 3 with (fail)
   refine (wpIn_wide (n:=N)).1 ?_
   gi_wp2
   refine HRD.out.mono ?_
   rintro e w10 (⟨rfl,hJ3,hk3⟩ | ⟨rfl,hJx3⟩)
   ·have HJ3:=Lib.hid hJ3
    have HK3:=Lib.hid (HK.out.trans hk3)
    clear hJ3 hk3 hyl hB
    gi_wp2
    go_wp2_with fail
    go_roundw
    case rel=>exact ⟨k+1,q,by omega,by rw [←HM.out];go_num,HPX.out,HJ3.out,HK3.out⟩
    case measure=>have:=HM.out;simp [RowKit.intOf];omega
   ·have HJX:=Lib.hid hJx3;clear hJx3
    gi_wp2
    go_wp2_with fail
    refine bodyPost_ret (results_none rfl _ _ _) rfl ?_
    exact ⟨⟨_,rfl⟩,.inr ⟨_,trivial,HJX.out⟩⟩
  ·obtain rfl:k=j+1:=by omega
   have i1:¬(-(j:Int)+2*((j+1:Nat):Int)≤(j:Int)):=by omega
   go_wp2_with fail
   go_end0
   exact ⟨⟨_,rfl⟩,.inl ⟨pre,HPE.out,HJ.out⟩⟩
theorem projections_any (j:Int) (w:World) :
 Calls Tryz.prog 80 #[.int .i64 j] w fun e w'=>e=.returned (.func (.func 114) #[] #[.pointer (some ⟨w.heap.size,0,none⟩)])∧w'=w.alloc (.cells #[.int .i64 j] 117):=by
 go_enter Tryz.func80,Tryz.ntmps80
 go_wp2_with fail
 go_ret
 exact ⟨rfl,rfl⟩
theorem proj_stops (N:Nat) (hN:1≤N) (B0 j:Nat) (hj:j≤24) (w:World) (hB:w.cell? ⟨B0,0,none⟩=some (.int .i64 (j:Int))) :
 SeqStopsK Fence.wide N Tryz.prog 114 #[.pointer (some ⟨B0,0,none⟩)] (fun x:PJ j=>#[.int .i64 x.1]) (KpJ B0) (fun ys=>ys.map (·.1)=prj (j:Int) (j+1)) (fun _=>True) (j+1) w:=by
 intro l J Jx W hW _ _ hY hJ0
 exact proj_in N hN l B0 j hj J Jx W hY ((hW.cell (p:=⟨B0,0,none⟩) (World.block_lt_of_cell? _ _ hB)).trans hB) hJ0
end
section
open Go.RowKit Go.Shelf
attribute [local go_sem] Oper.semAt_some
theorem blk_own {β:Type} (B:Nat) (t:TypeId) (cs:Array Value):Own (fun (_:β) W=>Blk W B t cs):=fun _ X Y row hs hg hrow =>
 hs.grown hg (fun e'=>by obtain ⟨o,ho,hc⟩:=hrow B e'.symm;rw [show X.heap[B]?=_ from hs] at ho;cases ho;cases hc)
theorem Blk.ne {W:World} {a b:Nat} {t u:TypeId} {cs ds:Array Value} (h:Blk W a t cs) (k:Blk W b u ds) (hne:t≠u):a≠b:=by
 rintro rfl
 unfold Blk at h k
 rw [h] at k
 injection k with k
 injection k with _ k
 exact hne k
theorem keepsO_below {W W':World} (h:Below W.heap.size W W'):KeepsOthers W W':=KeepsOthers.of_grownBy (row:=none) ⟨h.os,h.tape,h.output,h.size,fun k hk _=>h.block k hk⟩ (fun j o e=>by cases e)
def SpI (w:World) (X Y G H:Array Value) (b6 b7 b8:Nat) (gu:T2) (ju:Int) (gl:T2) (jl:Int) (A:Option Addr) (c:Nat) (ps:List (Int × Int)) (W:World):Prop :=
 (Blk W w.heap.size 31 X∧Blk W (w.heap.size+1) 31 Y∧Blk W (w.heap.size+1+1) 59 #[.slice none 0 0]∧Blk W (w.heap.size+1+1+1) 4 #[.bool false])∧(Blk W b6 45 G∧Blk W b7 45 H∧Blk W b8 59 #[.slice A ps.length c])∧W.ownsRow w.heap.size 64 6 (.slice A ps.length c) ps.length (spcells gu ju gl jl ps)∧Below w.heap.size w W∧w.heap.size+1+1+1<b8
section
variable {w : World} {X Y G H : Array Value} {b6 b7 b8 : Nat} {gu : T2} {ju : Int} {gl : T2} {jl : Int} {A : Option Addr} {c : Nat} {ps : List (Int × Int)} {W W' : World}
theorem SpI.sub (h:SpI w X Y G H b6 b7 b8 gu ju gl jl A c ps W) (hb:Below W.heap.size W W'):SpI w X Y G H b6 b7 b8 gu ju gl jl A c ps W':=by
 obtain ⟨⟨h1,h2,h3,h4⟩,⟨h5,h6,h7⟩,h8,h9,h10⟩:=h
 exact ⟨⟨h1.sub hb,h2.sub hb,h3.sub hb,h4.sub hb⟩,⟨h5.sub hb,h6.sub hb,h7.sub hb⟩,own_below h8 hb,bel_sub h9 hb,h10⟩
theorem SpI.gb {row:Option Nat} {B:Nat} (hB:w.heap.size≤B) (h:SpI w X Y G H b6 b7 b8 gu ju gl jl A c ps W) (hg:W.grownBy W' row) (hr:∀r,row=some r→B≤r∧∃o:Obj,W.heap[r]?=some o∧o.isCells=false):SpI w X Y G H b6 b7 b8 gu ju gl jl A c ps W':=by
 obtain ⟨⟨h1,h2,h3,h4⟩,⟨h5,h6,h7⟩,h8,h9,h10⟩:=h
 have hb:∀{k t cs},Blk W k t cs→Blk W' k t cs:=fun {k t cs} hk=>hk.grown hg (fun e'=>by obtain ⟨_,o,ho,hc⟩:=hr k e'.symm;rw [show W.heap[k]?=_ from hk] at ho;cases ho;cases hc)
 refine ⟨⟨hb h1,hb h2,hb h3,hb h4⟩,⟨hb h5,hb h6,hb h7⟩,h8.kept hg ?_,?_,h10⟩
 ·rcases h8.2 with ⟨hv0,_⟩ | ⟨g,cap,cur,hv0,_,hgb,_⟩
  ·rw [hv0];exact .inl rfl
  ·rw [hv0]
   refine .inr fun e'=>?_
   obtain ⟨_,o,ho,hc⟩:=hr g (by simpa [Value.ownBlock] using e'.symm)
   rw [hgb] at ho;cases ho;cases hc
 ·exact h9.trans ⟨hg.os,hg.tape,hg.output,hg.size,fun k hk=>hg.block k (Nat.lt_of_lt_of_le hk h9.size) (fun e=>by have:=(hr k e.symm).1;omega)⟩
theorem SpI.push {mu ml:Int} {cs:Array Value} {v':Value} {W2:World} (h:SpI w X Y G H b6 b7 b8 gu ju gl jl A c ps W) (hcs:cs.toList=entC gu ju gl jl mu ml) (hown:W2.ownsRow w.heap.size 64 6 v' (ps.length+1) (spcells gu ju gl jl ps++cs.toList))
 (hg:(W.alloc (.cells cs 64)).grownBy W2 (Value.slice A ps.length c).ownBlock) :
 ∃A' c',v'=.slice A' (ps.length+1) c'∧SpI w X Y G H b6 b7 b8 gu ju gl jl A' c' (ps++[(mu,ml)]) (W2.setCell ⟨b8,0,none⟩ v')∧KeepsOthers W (W2.setCell ⟨b8,0,none⟩ v')∧(∀k t ds,Blk W k t ds→t≠64→t≠59→Blk (W2.setCell ⟨b8,0,none⟩ v') k t ds)∧W.heap.size≤(W2.setCell ⟨b8,0,none⟩ v').heap.size∧W2.cell? ⟨b8,0,none⟩=some (.slice A ps.length c)∧W2.frozen? ⟨b8,0,none⟩=false:=by
 obtain ⟨⟨h1,h2,h3,h4⟩,⟨h5,h6,h7⟩,h8,h9,h10⟩:=h
 obtain ⟨A',c',rfl,hc'⟩:=own_form hown
 have hal:Below W.heap.size W (W.alloc (.cells cs 64)):=(Below.refl _ _).alloc (Nat.le_refl _) _
 have hra:=h8.alloc (.cells cs 64)
 have hkt:=keepT_of hra hg
 have hb:∀{k t ds},Blk W k t ds→t≠64→Blk W2 k t ds:=fun hk ht=>(hk.sub hal).keepT hkt ht
 have hs:∀{k t ds},Blk W k t ds→t≠64→k≠b8→Blk (W2.setCell ⟨b8,0,none⟩ (.slice A' (ps.length+1) c')) k t ds:=fun hk ht hne=>(hb hk ht).far hne _
 have h7':=hb h7 (by decide)
 have hlen:(ps++[(mu,ml)]).length=ps.length+1:=by simp
 have hbl:Below w.heap.size (W.alloc (.cells cs 64)) W2:=(Below.refl _ _).grown hg (Nat.le_trans h9.size hal.size) (fun k hk=>(hra.lt k hk).1)
 have hsz:W.heap.size≤W2.heap.size:=Nat.le_trans hal.size hg.size
 have h78:w.heap.size≤b8:=by omega
 refine ⟨A',c',rfl,⟨⟨hs h1 (by decide) (h1.ne h7 (by decide)),hs h2 (by decide) (h2.ne h7 (by decide)),hs h3 (by decide) (by omega),hs h4 (by decide) (h4.ne h7 (by decide))⟩,⟨hs h5 (by decide) (h5.ne h7 (by decide)),hs h6 (by decide) (h6.ne h7 (by decide)),?_⟩,?_,?_,h10⟩,?_,fun k t ds hk ht ht2=>hs hk ht (hk.ne h7 ht2),?_,h7'.cell 0,h7'.frozen 0⟩
 ·rw [hlen];exact h7'.set 0 _
 ·rw [hlen,spcells_snoc,←hcs]
  exact own_keepT hown (keepT_set (i:=0) (keepT_refl 59 W2) h7' _) (by decide)
 ·exact ((h9.alloc h9.size _).trans hbl).setCell (p:=⟨b8,0,none⟩) h78 _
 ·refine ((KeepsOthers.alloc W _).trans (KeepsOthers.of_grownBy hg fun j o e hj=>?_)).trans (KeepsOthers.setCell _ _ _)
  rcases hra.2 with ⟨hv0,_⟩ | ⟨g,cap,cur,hv0,_,hgb,_⟩
  ·rw [hv0] at e;simp [Value.ownBlock] at e
  ·rw [hv0] at e
   have:g=j:=by simpa [Value.ownBlock] using e
   subst this
   rw [hj] at hgb;cases hgb;rfl
 ·simpa using hsz
theorem SpI.fin {D:Nat} (h:SpI w X Y G H b6 b7 b8 gu ju gl jl A c ps W) (hK:W.heap[D]?=some (.deferred (some []))) (hD:w.heap.size≤D) :
 ((W.setCell ⟨w.heap.size+1+1,0,none⟩ (.slice A ps.length c)).setCell ⟨w.heap.size+1+1+1,0,none⟩ (.bool true)).heap[D]?=some (.deferred (some [])) ∧
 (((W.setCell ⟨w.heap.size+1+1,0,none⟩ (.slice A ps.length c)).setCell ⟨w.heap.size+1+1+1,0,none⟩ (.bool true)).putObj D (.deferred none)).cell? ⟨w.heap.size+1+1,0,none⟩=some (.slice A ps.length c) ∧
 (((W.setCell ⟨w.heap.size+1+1,0,none⟩ (.slice A ps.length c)).setCell ⟨w.heap.size+1+1+1,0,none⟩ (.bool true)).putObj D (.deferred none)).cell? ⟨w.heap.size+1+1+1,0,none⟩=some (.bool true) ∧
 (((W.setCell ⟨w.heap.size+1+1,0,none⟩ (.slice A ps.length c)).setCell ⟨w.heap.size+1+1+1,0,none⟩ (.bool true)).putObj D (.deferred none)).ownsRow w.heap.size 64 6 (.slice A ps.length c) ps.length (spcells gu ju gl jl ps) ∧
 Below w.heap.size w (((W.setCell ⟨w.heap.size+1+1,0,none⟩ (.slice A ps.length c)).setCell ⟨w.heap.size+1+1+1,0,none⟩ (.bool true)).putObj D (.deferred none)):=by
 obtain ⟨⟨h1,h2,h3,h4⟩,⟨h5,h6,h7⟩,h8,h9,h10⟩:=h
 have hk1:=((KeepsOthers.setCell W ⟨w.heap.size+1+1,0,none⟩ (.slice A ps.length c)).trans (KeepsOthers.setCell _ ⟨w.heap.size+1+1+1,0,none⟩ (.bool true))).same D _ hK rfl
 have s3:=(h3.set 0 (.slice A ps.length c)).far (p:=⟨w.heap.size+1+1+1,0,none⟩) (by simp) (.bool true)
 have s4':=h4.far (p:=⟨w.heap.size+1+1,0,none⟩) (by simp) (.slice A ps.length c)
 have s4:=s4'.set 0 (.bool true)
 have r1:=own_keepT (own_keepT h8 (keepT_set (i:=0) (keepT_refl _ W) h3 (.slice A ps.length c)) (by decide)) (keepT_set (i:=0) (keepT_refl _ _) s4' (.bool true)) (by decide)
 have hb:Below w.heap.size w ((W.setCell ⟨w.heap.size+1+1,0,none⟩ (.slice A ps.length c)).setCell ⟨w.heap.size+1+1+1,0,none⟩ (.bool true)):=bel_set (bel_set h9 (by omega)) (by omega)
 have hg:=grownBy_putObj' ((W.setCell ⟨w.heap.size+1+1,0,none⟩ (.slice A ps.length c)).setCell ⟨w.heap.size+1+1+1,0,none⟩ (.bool true)) D (.deferred none)
 have hne:∀{k t cs},Blk ((W.setCell ⟨w.heap.size+1+1,0,none⟩ (.slice A ps.length c)).setCell ⟨w.heap.size+1+1+1,0,none⟩ (.bool true)) k t cs→some k≠some D:=fun {k t cs} hk e=>by
  injection e with e
  subst e
  unfold Blk at hk
  rw [hk] at hk1
  cases hk1
 refine ⟨hk1,(s3.grown hg (hne s3)).cell 0,(s4.grown hg (hne s4)).cell 0,ownsRow_putObj r1 _ hk1 rfl,?_⟩
 exact hb.trans ⟨hg.os,hg.tape,hg.output,hg.size,fun k hk=>hg.block k (Nat.lt_of_lt_of_le hk hb.size) (fun e=>by injection e;omega)⟩
end
def pjrow (jlx:Nat) (mu:Int) (ys:List (PJ jlx)):List (Int × Int):=((ys.map (·.1)).filter fun ml=>decide ((mu-ml).natAbs≤2)).map fun ml=>(mu,ml)
theorem pjrow_no {j:Nat} {mu:Int} {ys:List (PJ j)} {y:PJ j} (h:¬(mu-y.1).natAbs≤2):pjrow j mu (ys++[y])=pjrow j mu ys:=by
 unfold pjrow;rw [List.map_append,List.filter_append,List.map_append];simp [h]
theorem pjrow_yes {j:Nat} {mu:Int} {ys:List (PJ j)} {y:PJ j} (h:(mu-y.1).natAbs≤2):pjrow j mu (ys++[y])=pjrow j mu ys++[(mu,y.1)]:=by
 unfold pjrow;rw [List.map_append,List.filter_append,List.map_append];simp [h]
theorem pjrow_len {j:Nat} {mu:Int} {ys:List (PJ j)}:(pjrow j mu ys).length≤ys.length:=by
 unfold pjrow;rw [List.length_map];exact Nat.le_trans (List.length_filter_le _ _) (by simp)
def pats (jux jlx:Nat) (xs:List (PJ jux)):List (Int × Int):=(xs.map (·.1)).flatMap fun mu=>sprow jlx mu (jlx+1)
theorem pats_len (ju jl:Nat):∀xs:List (PJ ju),(pats ju jl xs).length≤xs.length*(jl+1)
 | []=>by simp [pats]
 | x :: xs=>by
  have h1:=pats_len ju jl xs
  have h2:=sprow_len jl x.1 (jl+1)
  unfold pats at *
  rw [List.map_cons,List.flatMap_cons,List.length_append,List.length_cons,Nat.add_mul]
  omega
theorem pats_snoc {ju jl:Nat} {xs:List (PJ ju)} {x:PJ ju} {ys:List (PJ jl)} (h:ys.map (·.1)=prj (jl:Int) (jl+1)):pats ju jl (xs++[x])=pats ju jl xs++pjrow jl x.1 ys:=by
 unfold pats pjrow sprow
 rw [List.map_append,List.flatMap_append,h]
 simp
theorem pats_all {ju jl:Nat} {xs:List (PJ ju)} (h:xs.map (·.1)=prj (ju:Int) (ju+1)):pats ju jl xs=spPs ju jl:=by
 unfold pats spPs sprows
 rw [h]
 simp
theorem results_sp (tmps:Array Value) (W:World) (p q:Nat) {v u:Value} (h4:tmps.getD 4 undef=.pointer (some ⟨p,0,none⟩)) (h5:tmps.getD 5 undef=.pointer (some ⟨q,0,none⟩)) (z2:W.cell? ⟨p,0,none⟩=some v) (z3:W.cell? ⟨q,0,none⟩=some u) :
 (results Tryz.f30 tmps).run Tryz.prog W=.ok (.tuple #[v,u]) W:=by
 have h4':tmps[4]?.getD undef=.pointer (some ⟨p,0,none⟩):=by simpa using h4
 have h5':tmps[5]?.getD undef=.pointer (some ⟨q,0,none⟩):=by simpa using h5
 simp [results,Tryz.results30,go_sem,h4',h5',z2,z3]
theorem implSplitOf_yes (su lu sl ll:Int) (ju jl:Nat) (w:World) (hE:Ers w) (hk:spOk (su,lu) ju (sl,ll) jl=true) :
 Calls Tryz.prog 30 #[.agg #[.int .i64 su,.int .i64 lu,.int .i64 ju],.agg #[.int .i64 sl,.int .i64 ll,.int .i64 jl]] w (SplitsPost w (su,lu) ju (sl,ll) jl):=by
 obtain ⟨v1,v2,c1,c2,v3⟩:=spOk_iff.1 hk
 have HEB:=Lib.hid (fun W (h:Below w.heap.size w W)=>hE.on h);clear hE
 have HV1:=Lib.hid (fun W=>LevelValid_all (su,lu) ju W)
 have HV2:=Lib.hid (fun W=>LevelValid_all (sl,ll) jl W)
 have HTR:=Lib.hid (fun W=>SpinTriangle_all jl 2 ju W)
 have HF1:=Lib.hid (fun W (h:Ers W)=>factorOrZero_any (su,lu) ju W h)
 have HF2:=Lib.hid (fun W (h:Ers W)=>factorOrZero_any (sl,ll) jl W h)
 rw [v1] at HV1;rw [v2] at HV2;rw [v3] at HTR
 have HSH:=Lib.hid (fun mu ml (h:(-6≤mu∧mu≤6)∧(-6≤ml∧ml≤6))=>shR_ok v1 v2 c1 c2 h.1 h.2)
 have HCL:=Lib.hid (fun mu ml (hm:-(ju:Int)≤mu∧mu≤ju) (hn:-(jl:Int)≤ml∧ml≤jl) (pm:((ju:Int)+mu) % 2=0) (pn:((jl:Int)+ml) % 2=0) (hd:(mu-ml).natAbs≤2)=>clR_all (jl:=jl) (ju:=ju) (by omega) (by omega) v3 hm hn pm pn hd)
 have HF:=Lib.hid (show spL (su,lu) ju (sl,ll) jl=spPs ju jl by unfold spL;rw [hk];rfl)
 have HK:=Lib.hid hk
 clear hk v1 v2 v3
 simp only at HV1 HV2 HF1 HF2
 obtain ⟨⟨gu1,gu2⟩,hgu⟩:∃g,fz (su,lu) ju=g:=⟨_,rfl⟩
 obtain ⟨⟨gl1,gl2⟩,hgl⟩:∃g,fz (sl,ll) jl=g:=⟨_,rfl⟩
 rw [hgu] at HF1 HSH
 rw [hgl] at HF2 HSH
 have HGU:=Lib.hid hgu;have HGL:=Lib.hid hgl;clear hgu hgl
 simp only at HF1 HF2
 refine (callsIn_wide (n:=8)).1 ?_
 refine callsIn_of_wp_marks Tryz.func30 rfl trivial ?_ rfl
 simp only [Tryz.ntmps30,List.size_toArray,List.length_cons,List.length_nil,Nat.reduceAdd,Nat.reduceSub,Array.replicate_succ,Array.replicate_zero,List.push_toArray,List.append_toArray,List.nil_append,List.cons_append]
 have B1:=Blk.new w 31 #[.int .i64 su,.int .i64 lu,.int .i64 ju]
 have B2:=Blk.new (w.alloc (.cells #[.int .i64 su,.int .i64 lu,.int .i64 ju] 31)) 31 #[.int .i64 sl,.int .i64 ll,.int .i64 jl]
 have B3:=Blk.new ((w.alloc (.cells #[.int .i64 su,.int .i64 lu,.int .i64 ju] 31)).alloc (.cells #[.int .i64 sl,.int .i64 ll,.int .i64 jl] 31)) 59 #[.slice none 0 0]
 have B4:=Blk.new (((w.alloc (.cells #[.int .i64 su,.int .i64 lu,.int .i64 ju] 31)).alloc (.cells #[.int .i64 sl,.int .i64 ll,.int .i64 jl] 31)).alloc (.cells #[.slice none 0 0] 59)) 4 #[.bool false]
 simp only [World.size_alloc] at B2 B3 B4
 have HB:=Lib.hid (bel_alloc (bel_alloc (bel_alloc (bel_alloc (Below.refl w.heap.size w) (.cells #[.int .i64 su,.int .i64 lu,.int .i64 ju] 31)) (.cells #[.int .i64 sl,.int .i64 ll,.int .i64 jl] 31)) (.cells #[.slice none 0 0] 59)) (.cells #[.bool false] 4))
 have b1:=((B1.alloc (.cells #[.int .i64 sl,.int .i64 ll,.int .i64 jl] 31)).alloc (.cells #[.slice none 0 0] 59)).alloc (.cells #[.bool false] 4)
 have b2:=(B2.alloc (.cells #[.slice none 0 0] 59)).alloc (.cells #[.bool false] 4)
 have b3:=B3.alloc (.cells #[.bool false] 4)
 have b4:=B4
 clear B1 B2 B3 B4
 obtain ⟨W0,hW0⟩:∃W0,(((w.alloc (.cells #[.int .i64 su,.int .i64 lu,.int .i64 ju] 31)).alloc (.cells #[.int .i64 sl,.int .i64 ll,.int .i64 jl] 31)).alloc (.cells #[.slice none 0 0] 59)).alloc (.cells #[.bool false] 4)=W0:=⟨_,rfl⟩
 rw [hW0] at HB b1 b2 b3 b4
 have H1:=Lib.hid b1;have H2:=Lib.hid b2;have H3:=Lib.hid b3;have H4:=Lib.hid b4;clear b1 b2 b3 b4
 have HW0:=Lib.hid hW0;clear hW0
 refine wpIn_wide.2 ?_
 go_wp2_with fail
 rw [HW0.out]
 refine (HV1.out _).mono ?_
 rintro e1 w1 ⟨rfl,hb1⟩
 replace HB:=Lib.hid (bel_sub HB.out hb1);replace H1:=Lib.hid (H1.out.sub hb1);replace H2:=Lib.hid (H2.out.sub hb1);replace H3:=Lib.hid (H3.out.sub hb1);replace H4:=Lib.hid (H4.out.sub hb1);clear hb1 HW0
 obtain ⟨x1,x2,x3,_,_,_⟩:=blk3 H2.out
 go_wp2_with fail
 refine (HV2.out _).mono ?_
 rintro e1 w2 ⟨rfl,hb2⟩
 replace HB:=Lib.hid (bel_sub HB.out hb2);replace H1:=Lib.hid (H1.out.sub hb2);replace H2:=Lib.hid (H2.out.sub hb2);replace H3:=Lib.hid (H3.out.sub hb2);replace H4:=Lib.hid (H4.out.sub hb2);clear hb2 x1 x2 x3
 obtain ⟨x1,x2,x3,_,_,_⟩:=blk3 H1.out
 obtain ⟨y1,y2,y3,_,_,_⟩:=blk3 H2.out
 go_wp2_with fail
 refine (HTR.out _).mono ?_
 rintro e1 w3 ⟨rfl,rfl⟩
 go_wp2_with fail
 refine Fr.region_free' [(45,6),(45,7)] [(45,6,.tmp 42),(45,7,.tmp 44)] (fun _=>45) (fun _=>#[.int .i64 0,.int .i64 0]) (fun d=>if d=6 then #[.int .i64 gu1,.int .i64 gu2] else #[.int .i64 gl1,.int .i64 gl2]) 94 (by kernel_rfl) rfl (by kernel_rfl) rfl rfl ?hxq ?hal ?h
 case hxq=>intro s hs e he;simp at hs;rcases hs with rfl | rfl <;> simp at he <;> subst he <;> simp
 case hal=>intro x hx W;simp at hx;rcases hx with rfl | rfl <;> simp [go_sem]
 case h =>
 apply Exists.intro
 refine ⟨?hW,?hst,?hQ⟩
 case hW =>
  intro A θ hne
  have HTA:=Lib.hid (fun p:Fr.AftB w2 (fun _=>45) A θ=>bel_sub HB.out p.below)
  have j1:=fun p:Fr.AftB w2 (fun _=>45) A θ=>p.cell x1
  have j2:=fun p:Fr.AftB w2 (fun _=>45) A θ=>p.cell x2
  have j3:=fun p:Fr.AftB w2 (fun _=>45) A θ=>p.cell x3
  have j4:=fun p:Fr.AftB w2 (fun _=>45) A θ=>p.cell y1
  have j5:=fun p:Fr.AftB w2 (fun _=>45) A θ=>p.cell y2
  have j6:=fun p:Fr.AftB w2 (fun _=>45) A θ=>p.cell y3
  simp only [List.filter_cons,List.filter_nil,Fr.isQ,Fr.alOf,Fr.stOf,Option.isNone_none,Option.isNone_some,Bool.and_self,Bool.and_true,Bool.and_false,Bool.false_eq_true,↓reduceIte]
  repeat (go_big_quiet_step ((go_at_call 79;first | (with_reducible exact Fr.aftB_call _ (HF1.out _ (HEB.out _ (HTA.out _)))) | (with_reducible exact Fr.aftB_call _ (HF2.out _ (HEB.out _ (HTA.out _)))))))
  exact wpQuiet_nil rfl
 case hst =>
  intro s hs W g hB
  simp at hs
  rcases hs with rfl | rfl
  ·exact st_2 (by kernel_rfl) W g _ _ (.int .i64 gu1) (.int .i64 gu2) rfl rfl hB
  ·exact st_2 (by kernel_rfl) W g _ _ (.int .i64 gl1) (.int .i64 gl2) rfl rfl hB
 case hQ =>
 intro A w4 hb hals hap
 obtain ⟨hA6,hbl6⟩:=hals (45,6) (by simp)
 obtain ⟨hA7,hbl7⟩:=hals (45,7) (by simp)
 simp only [if_true] at hA6 hbl6 hA7 hbl7
 rw [if_neg (by decide)] at hbl7
 have hs2:=HB.out.size
 have hsz4:w.heap.size+1+1+1<w4.heap.size:=Nat.lt_of_lt_of_le H4.out.lt hb.size
 replace HB:=Lib.hid (bel_sub HB.out hb);replace H1:=Lib.hid (H1.out.sub hb);replace H2:=Lib.hid (H2.out.sub hb);replace H3:=Lib.hid (H3.out.sub hb);replace H4:=Lib.hid (H4.out.sub hb)
 have HG:=Lib.hid hbl6;have HH:=Lib.hid hbl7
 clear hals hap hb hbl6 hbl7 x1 x2 x3 y1 y2 y3
 simp only [Fr.putAls,Act.put,List.setIfInBounds_toArray,List.set_cons_succ,List.set_cons_zero]
 generalize A 6=g6 at *
 generalize A 7=g7 at *
 have HL8:=Lib.hid (Blk.new w4 59 #[.slice none 0 0])
 replace HB:=Lib.hid (bel_alloc HB.out (.cells #[.slice none 0 0] 59));replace H1:=Lib.hid (H1.out.alloc (.cells #[.slice none 0 0] 59));replace H2:=Lib.hid (H2.out.alloc (.cells #[.slice none 0 0] 59));replace H3:=Lib.hid (H3.out.alloc (.cells #[.slice none 0 0] 59));replace H4:=Lib.hid (H4.out.alloc (.cells #[.slice none 0 0] 59));replace HG:=Lib.hid (HG.out.alloc (.cells #[.slice none 0 0] 59));replace HH:=Lib.hid (HH.out.alloc (.cells #[.slice none 0 0] 59))
 obtain ⟨x1,x2,x3,_,_,_⟩:=blk3 H1.out
 go_wp2_with ((go_at_call 80;refine (projections_any _ _).mono ?_;rintro e w' ⟨rfl,rfl⟩))
 obtain ⟨b8,hb8⟩:∃b8,w4.heap.size=b8:=⟨_,rfl⟩
 obtain ⟨bo,hbo⟩:∃bo,w4.heap.size+1=bo:=⟨_,rfl⟩
 have HO:=Lib.hid (Blk.new (w4.alloc (.cells #[.slice none 0 0] 59)) 117 #[.int .i64 (ju:Int)])
 rw [World.size_alloc] at HO
 have HI0:Hid (SpI w #[.int .i64 su,.int .i64 lu,.int .i64 ju] #[.int .i64 sl,.int .i64 ll,.int .i64 jl] #[.int .i64 gu1,.int .i64 gu2] #[.int .i64 gl1,.int .i64 gl2] g6 g7 w4.heap.size (gu1,gu2) ju (gl1,gl2) jl none 0 [] ((w4.alloc (.cells #[.slice none 0 0] 59)).alloc (.cells #[.int .i64 (ju:Int)] 117))) :=
  SpI.sub ⟨⟨H1.out,H2.out,H3.out,H4.out⟩,⟨HG.out,HH.out,HL8.out⟩,World.ownsRow_nil _ _ _ _,HB.out,hsz4⟩ ((Below.refl _ _).alloc (Nat.le_refl _) _)
 have hszW:((w4.alloc (.cells #[.slice none 0 0] 59)).alloc (.cells #[.int .i64 (ju:Int)] 117)).heap.size=w4.heap.size+1+1:=by simp
 rw [hb8] at HI0 hsz4
 rw [hbo] at HO
 rw [hbo] at hszW
 simp only [hbo]
 rw [hb8] at hbo
 obtain ⟨W0,hW0⟩:∃W0,(w4.alloc (.cells #[.slice none 0 0] 59)).alloc (.cells #[.int .i64 (ju:Int)] 117)=W0:=⟨_,rfl⟩
 rw [hW0] at HI0 HO hszW ⊢
 simp only [hb8]
 clear hW0 hb8 H1 H2 H3 H4 HG HH HL8 HB x1 x2 x3
 have HI:=Lib.hid HI0.out;have HBO:=Lib.hid HO.out;clear HI0 HO
 refine (fun (h:∀(u15 u16 u17 u18 u19 u20 u21 u22 u23 u24 u25 u26 u27 u28 u29 u30 u31 u32 u33 u34 u35 u36 u37 u38 u39 u40 u41 u42 u43 u44 u45 u46:Value),Code.wp Tryz.prog _ _ { tmps:=#[.agg #[.int .i64 su,.int .i64 lu,.int .i64 ju],.agg #[.int .i64 sl,.int .i64 ll,.int .i64 jl],.pointer (some ⟨w.heap.size,0,none⟩),.pointer (some ⟨w.heap.size+1,0,none⟩),.pointer (some ⟨w.heap.size+1+1,0,none⟩),.pointer (some ⟨w.heap.size+1+1+1,0,none⟩),.pointer (some ⟨g6,0,none⟩),.pointer (some ⟨g7,0,none⟩),.pointer (some ⟨b8,0,none⟩),undef,undef,undef,undef,undef,undef,u15,u16,u17,u18,u19,u20,u21,u22,u23,u24,u25,u26,u27,u28,u29,u30,u31,u32,u33,u34,u35,u36,u37,u38,u39,u40,u41,u42,u43,u44,u45,u46,.func (.func 114) #[] #[.pointer (some ⟨bo,0,none⟩)],undef,undef,undef,undef,undef,undef,undef,undef,undef,undef,undef,undef,undef,undef,undef,undef,undef,undef,undef,undef,undef,undef,undef,undef,undef,undef,undef,undef,undef,undef,undef,undef,undef,undef,undef,undef,undef,undef,undef,undef,undef,undef,undef,undef,undef,undef],defers:=[] } W0)=>h _ _ _ _ _ _ _ _ _ _ _ _ _ _ _ _ _ _ _ _ _ _ _ _ _ _ _ _ _ _ _ _) ?_
 intro u15 u16 u17 u18 u19 u20 u21 u22 u23 u24 u25 u26 u27 u28 u29 u30 u31 u32 u33 u34 u35 u36 u37 u38 u39 u40 u41 u42 u43 u44 u45 u46
 refine (wpIn_wide (n:=8)).1 ?_
 have cO:=HBO.out.cell 0
 simp only [List.getElem?_toArray,List.getElem?_cons_zero] at cO
 have hju:ju≤24:=by omega
 have hjl:jl≤24:=by omega
 have hwb:w.heap.size≤W0.heap.size:=by omega
 refine wpIn_rangeFunc_ownH rfl (by omega) (gf:=114) (lb:=#[.pointer (some ⟨bo,0,none⟩)]) rfl trivial (enters_of Tryz.func114 (by kernel_rfl) rfl)
  (proj_stops 7 (by omega) bo ju hju W0 cO) KpJ.trans (fun X l o o' hl ho hc hk=>World.putObj_heap_other (by omega)) (Below.refl _ _) (fun _=>rfl)
  (fun pre W=>(∃A c,SpI w #[.int .i64 su,.int .i64 lu,.int .i64 ju] #[.int .i64 sl,.int .i64 ll,.int .i64 jl] #[.int .i64 gu1,.int .i64 gu2] #[.int .i64 gl1,.int .i64 gl2] g6 g7 b8 (gu1,gu2) ju (gl1,gl2) jl A c (pats ju jl pre) W)∧Blk W bo 117 #[.int .i64 (ju:Int)])
  (fun _ _ _=>False)
  (OwnFrom.and (fun s X Y row ⟨A,c,h⟩ hg hr=>⟨A,c,h.gb hwb hg hr⟩) (Own.from (blk_own _ _ _) _))
  (fun _ _ _ _ _ hs _ _=>hs)
  ⟨⟨none,0,HI.out⟩,HBO.out⟩
  (fun x a' W=>∃Bx,Blk W Bx 3 #[.int .i64 x.1]∧a'={ tmps:=#[.agg #[.int .i64 su,.int .i64 lu,.int .i64 ju],.agg #[.int .i64 sl,.int .i64 ll,.int .i64 jl],.pointer (some ⟨w.heap.size,0,none⟩),.pointer (some ⟨w.heap.size+1,0,none⟩),.pointer (some ⟨w.heap.size+1+1,0,none⟩),.pointer (some ⟨w.heap.size+1+1+1,0,none⟩),.pointer (some ⟨g6,0,none⟩),.pointer (some ⟨g7,0,none⟩),.pointer (some ⟨b8,0,none⟩),.pointer (some ⟨Bx,0,none⟩),undef,undef,undef,undef,undef,u15,u16,u17,u18,u19,u20,u21,u22,u23,u24,u25,u26,u27,u28,u29,u30,u31,u32,u33,u34,u35,u36,u37,u38,u39,u40,u41,u42,u43,u44,u45,u46,.func (.func 114) #[] #[.pointer (some ⟨bo,0,none⟩)],.int .i64 x.1,undef,undef,undef,undef,undef,undef,undef,undef,undef,undef,undef,undef,undef,undef,undef,undef,undef,undef,undef,undef,undef,undef,undef,undef,undef,undef,undef,undef,undef,undef,undef,undef,undef,undef,undef,undef,undef,undef,undef,undef,undef,undef,undef,undef,undef],defers:=[] })
  (fun x a' _ X Y row hs hg hr=>by obtain ⟨Bx,h2,h3⟩:=hs;exact ⟨Bx,blk_own Bx 3 #[.int .i64 x.1] () X Y row h2 hg (fun r e=>(hr r e).2),h3⟩)
  ?assign ?body ?done ?stop
 case assign =>
  rintro l pre x W K ⟨⟨A,c,hI⟩,hO⟩ hK
  have hsW:=hI.2.2.2.1.size
  have hoW:=hO.lt
  gi_wp2
  have hal:Below W.heap.size W (W.alloc (.cells #[.int .i64 x.1] 3)):=(Below.refl _ _).alloc (Nat.le_refl _) _
  exact hK _ _ ((KeepsOthers.alloc _ _).from _) (hal.block _ hoW) ⟨⟨A,c,hI.sub hal⟩,hO.sub hal⟩ ⟨W.heap.size,Blk.new W _ _,rfl⟩
 case body =>
  rintro l pre x a' W hl ⟨r,hr⟩ ⟨⟨A,c,hI⟩,hO⟩ ⟨Bx,hX,rfl⟩ hlt
  have hXm:=x.2
  obtain ⟨⟨m1,m2,m3,m4⟩,⟨m5,m6,m7⟩,m8,m9,m10⟩:=hI
  obtain ⟨y1,y2,y3,_,_,_⟩:=blk3 m2
  gi_wp2_with ((refine ⟨trivial,?_⟩;gi_at_call 80;refine (CallsIn.inRound l (callsIn_wide.2 (projections_any _ _))).mono ?_;rintro e w' ⟨rfl,rfl⟩))
  have hal:Below W.heap.size W (W.alloc (.cells #[.int .i64 (jl:Int)] 117)):=(Below.refl _ _).alloc (Nat.le_refl _) _
  have cJ:=(Blk.new W 117 #[.int .i64 (jl:Int)]).cell 0
  simp only [List.getElem?_toArray,List.getElem?_cons_zero] at cJ
  have hr':(W.alloc (.cells #[.int .i64 (jl:Int)] 117)).heap[l]?=some (.loop r):=(Below.heap_alloc W _ l (Array.getElem?_eq_some_iff.1 hr).1).trans hr
  have hszA:(W.alloc (.cells #[.int .i64 (jl:Int)] 117)).heap.size=W.heap.size+1:=by simp
  have hwW:w.heap.size≤W.heap.size:=m9.size
  refine wpIn_rangeFunc_ownN (l₀:=l) (r₀:=r) rfl hr' (by omega) (gf:=114) (lb:=#[.pointer (some ⟨W.heap.size,0,none⟩)]) rfl trivial (enters_of Tryz.func114 (by kernel_rfl) rfl)
   ((proj_stops 5 (by omega) W.heap.size jl hjl (W.alloc (.cells #[.int .i64 (jl:Int)] 117)) cJ).inRound l) KpJ.trans (fun X l o o' hl ho hc hk=>World.putObj_heap_other (by omega)) (Below.refl _ _) (fun _=>rfl)
   (fun pre' W'=>(((∃A c,SpI w #[.int .i64 su,.int .i64 lu,.int .i64 ju] #[.int .i64 sl,.int .i64 ll,.int .i64 jl] #[.int .i64 gu1,.int .i64 gu2] #[.int .i64 gl1,.int .i64 gl2] g6 g7 b8 (gu1,gu2) ju (gl1,gl2) jl A c (pats ju jl pre++pjrow jl x.1 pre') W')∧Blk W' bo 117 #[.int .i64 (ju:Int)])∧(Blk W' W.heap.size 117 #[.int .i64 (jl:Int)]∧Blk W' Bx 3 #[.int .i64 x.1]))∧KeepsFrom W0.heap.size W W')
   (fun _ _ _=>False)
   (OwnFrom.and (OwnFrom.and (OwnFrom.and (fun s X Y row ⟨A,c,h⟩ hg hr=>⟨A,c,h.gb (by omega) hg hr⟩) (Own.from (blk_own _ _ _) _)) (OwnFrom.and (Own.from (blk_own _ _ _) _) (Own.from (blk_own _ _ _) _))) (ownFrom_keepsFrom (by omega)))
   (fun _ _ _ _ _ hs _ _=>hs)
   ⟨⟨⟨⟨A,c,by
    have hI:=SpI.sub (W':=W.alloc (.cells #[.int .i64 (jl:Int)] 117)) ⟨⟨m1,m2,m3,m4⟩,⟨m5,m6,m7⟩,m8,m9,m10⟩ hal
    simpa [pjrow] using hI⟩,hO.sub hal⟩,Blk.new W _ _,hX.sub hal⟩,(KeepsOthers.alloc _ _).from _⟩
   (fun y a'' _=>a''={ tmps:=#[.agg #[.int .i64 su,.int .i64 lu,.int .i64 ju],.agg #[.int .i64 sl,.int .i64 ll,.int .i64 jl],.pointer (some ⟨w.heap.size,0,none⟩),.pointer (some ⟨w.heap.size+1,0,none⟩),.pointer (some ⟨w.heap.size+1+1,0,none⟩),.pointer (some ⟨w.heap.size+1+1+1,0,none⟩),.pointer (some ⟨g6,0,none⟩),.pointer (some ⟨g7,0,none⟩),.pointer (some ⟨b8,0,none⟩),.pointer (some ⟨Bx,0,none⟩),.int .i64 y.1,undef,undef,undef,undef,u15,u16,u17,u18,u19,u20,u21,u22,u23,u24,u25,u26,u27,u28,u29,u30,u31,u32,u33,u34,u35,u36,u37,u38,u39,u40,u41,u42,u43,u44,u45,u46,.func (.func 114) #[] #[.pointer (some ⟨bo,0,none⟩)],.int .i64 x.1,.pointer (some ⟨w.heap.size+1,2,none⟩),.int .i64 jl,.func (.func 114) #[] #[.pointer (some ⟨W.heap.size,0,none⟩)],.int .i64 y.1,undef,undef,undef,undef,undef,undef,undef,undef,undef,undef,undef,undef,undef,undef,undef,undef,undef,undef,undef,undef,undef,undef,undef,undef,undef,undef,undef,undef,undef,undef,undef,undef,undef,undef,undef,undef,undef,undef,undef,undef,undef],defers:=[] })
   (fun _ _ _ _ _ _ hs _ _=>hs)
   ?assign2 ?body2 ?done2 ?stop2
  case assign2 =>
   rintro l2 pre' y W' K hi hK
   gi_wp2
   exact hK _ _ (KeepsFrom.refl _ _) rfl hi rfl
  case body2 =>
   rintro l2 pre' y a'' W' _ _ ⟨⟨⟨⟨A',c',hI'⟩,hO'⟩,hJ',hX'⟩,hKF⟩ rfl hlt2
   clear m1 m2 m3 m4 m5 m6 m7 m8 m9 y1 y2 y3 cJ hr' hal cO
   have hxm:=x.2;have hym:=y.2
   have hlen:(pats ju jl pre++pjrow jl x.1 pre').length≤100:=by
    have q1:=pats_len ju jl pre
    have q2:=pjrow_len (mu:=x.1) (ys:=pre')
    have q3:pre.length*(jl+1)≤6*7:=Nat.mul_le_mul (by omega) (by omega)
    rw [List.length_append];omega
   have HNO:=Lib.hid (fun h=>pjrow_no (mu:=x.1) (ys:=pre') (y:=y) h)
   have HYE:=Lib.hid (fun h=>pjrow_yes (mu:=x.1) (ys:=pre') (y:=y) h)
   have HKF:=Lib.hid hKF;clear hKF
   have hOJ:=hO'.ne hJ' |> fun _=>hO'.lt
   generalize pjrow jl x.1 pre'=Q1 at *
   generalize x.1=mu at *
   generalize y.1=ml at *
   generalize pats ju jl pre=Q0 at *
   have HI:=Lib.hid hI'
   obtain ⟨⟨m1,m2,m3,m4⟩,⟨m5,m6,m7⟩,m8,m9,m10⟩:=hI'
   have u1:IntKind.i64.wrap (mu-ml)=mu-ml:=IntWalk.i64_in _ (by omega)
   have HABS:=Lib.hid (fun W=>abs_any (mu-ml) W (by omega) (by omega))
   have cx:=hX'.cell 0
   simp only [List.getElem?_toArray,List.getElem?_cons_zero] at cx
   have HJ:=Lib.hid hJ';have HX:=Lib.hid hX';have HO:=Lib.hid hO'
   clear m1 m2 m3 m4 m8 m9 m10
   by_cases hd:(mu-ml).natAbs≤2
   ·have hgt:¬(((mu-ml).natAbs:Nat):Int) > 2:=by omega
    have HQ:=Lib.hid (HYE.out hd)
    have HS1:=Lib.hid (HSH.out mu ml ⟨by omega,by omega⟩)
    have HC1:=Lib.hid (HCL.out mu ml (by omega) (by omega) (by omega) (by omega) hd)
    have HSO:=Lib.hid (fun W=>shiftOf_any (gu1,gu2) mu (gl1,gl2) ml W)
    have HCLB:=Lib.hid (fun W=>implClebsch_any jl 2 ju ml (mu-ml) W)
    obtain ⟨ab,hab⟩:∃ab:Nat,(mu-ml).natAbs=ab:=⟨_,rfl⟩
    rw [hab] at HABS hgt
    clear hab hd HNO HYE
    have HE:Hid (entC (gu1,gu2) ju (gl1,gl2) jl mu ml=[.int .i64 mu,.int .i64 ml,.int .i64 (shR (gu1,gu2) mu (gl1,gl2) ml).1.1,.int .i64 (shR (gu1,gu2) mu (gl1,gl2) ml).1.2,.int .i64 (clR jl 2 ju ml (mu-ml)).1.2.1,.int .i64 (clR jl 2 ju ml (mu-ml)).1.2.2]):=rfl
    obtain ⟨s,hs⟩:∃s,shR (gu1,gu2) mu (gl1,gl2) ml=s:=⟨_,rfl⟩
    obtain ⟨cl,hcl⟩:∃cl,clR jl 2 ju ml (mu-ml)=cl:=⟨_,rfl⟩
    rw [hs] at HS1 HSO HE
    rw [hcl] at HC1 HCLB HE
    rw [okV_form] at HSO
    clear hs hcl
    obtain ⟨⟨n1,n2⟩,ok⟩:=s
    obtain ⟨⟨sg,n3,n4⟩,ok2⟩:=cl
    obtain rfl:ok=true:=HS1.out
    obtain rfl:ok2=true:=HC1.out
    unfold rtO rtV at HCLB
    simp only at HSO HCLB HE
    clear HS1 HC1
    obtain ⟨g1,g2,_,_⟩:=blk2 m5
    obtain ⟨h1,h2,_,_⟩:=blk2 m6
    gi_wp2_with ((refine ⟨trivial,?_⟩;gi_at_call 81;refine (CallsIn.inRound l2 (CallsIn.inRound l (callsIn_wide.2 (HABS.out _)))).mono ?_;rintro e w' ⟨rfl,rfl⟩))
    refine ⟨trivial,(CallsIn.inRound l2 (CallsIn.inRound l (callsIn_wide.2 (HSO.out _)))).mono ?_⟩
    rintro e w5 ⟨rfl,hb5⟩
    have hb6:Below W'.heap.size W' (w5.alloc (.cells #[.int .i64 n1,.int .i64 n2] 45)):=bel_alloc hb5 _
    have hI6:=HI.out.sub hb6
    have HX6:=Lib.hid (HX.out.sub hb6)
    have HA6:=Lib.hid (Blk.new w5 45 #[.int .i64 n1,.int .i64 n2])
    have HI6:=Lib.hid hI6
    have HB6:=Lib.hid hb6
    obtain ⟨⟨q1,q2,q3,q4⟩,⟨q5,q6,q7⟩,q8,q9,q10⟩:=hI6
    obtain ⟨x1,x2,x3,_,_,_⟩:=blk3 q1
    obtain ⟨y1,y2,y3,_,_,_⟩:=blk3 q2
    have cx6:=HX6.out.cell 0
    simp only [List.getElem?_toArray,List.getElem?_cons_zero] at cx6
    clear g1 g2 h1 h2 q1 q2 q3 q4 q5 q6 q7 q8 q9 q10 hb5 hb6 cx m5 m6 m7
    gi_wp2
    refine ⟨trivial,(CallsIn.inRound l2 (CallsIn.inRound l (callsIn_wide.2 (HCLB.out _)))).mono ?_⟩
    rintro e w7 ⟨rfl,hb7⟩
    have hb8:Below (w5.alloc (.cells #[.int .i64 n1,.int .i64 n2] 45)).heap.size (w5.alloc (.cells #[.int .i64 n1,.int .i64 n2] 45)) (w7.alloc (.cells #[.int .i64 sg,.int .i64 n3,.int .i64 n4] 52)):=bel_alloc hb7 _
    have HI8:=Lib.hid (HI6.out.sub hb8)
    have HB8:=Lib.hid (bel_sub HB6.out hb8)
    have cx8:=(HX6.out.sub hb8).cell 0
    simp only [List.getElem?_toArray,List.getElem?_cons_zero] at cx8
    obtain ⟨a1,a2,_,_⟩:=blk2 (HA6.out.sub hb8)
    obtain ⟨r1,r2,r3,_,_,_⟩:=blk3 (Blk.new w7 52 #[.int .i64 sg,.int .i64 n3,.int .i64 n4])
    have c8:=HI8.out.2.1.2.2.cell 0
    simp only [List.getElem?_toArray,List.getElem?_cons_zero] at c8
    have hrow:=HI8.out.2.2.1
    have hsz8:=HI8.out.2.2.2.1.size
    obtain ⟨w8,hw8⟩:∃w8,w7.alloc (.cells #[.int .i64 sg,.int .i64 n3,.int .i64 n4] 52)=w8:=⟨_,rfl⟩
    rw [hw8] at HI8 HB8 cx8 a1 a2 r1 r2 r3 c8 hrow hsz8
    have HROW:=Lib.hid hrow
    clear x1 x2 x3 y1 y2 y3 cx6 hb8 hb7 hrow
    obtain ⟨htS,iS,zS,hiS,hzS,hsizeS,hbytesS,hzsS,hszS⟩:=elSplit
    obtain ⟨len,hln⟩:∃len,(Q0++Q1).length=len:=⟨_,rfl⟩
    have HPUSH:=Lib.hid (fun v' W2 (hown:W2.ownsRow w.heap.size 64 6 v' (len+1) (spcells (gu1,gu2) ju (gl1,gl2) jl (Q0++Q1)++#[Value.int .i64 mu,.int .i64 ml,.int .i64 n1,.int .i64 n2,.int .i64 n3,.int .i64 n4].toList)) (hg:(w8.alloc (.cells #[Value.int .i64 mu,.int .i64 ml,.int .i64 n1,.int .i64 n2,.int .i64 n3,.int .i64 n4] 64)).grownBy W2 (Value.slice A' len c').ownBlock)=>SpI.push (mu:=mu) (ml:=ml) (v':=v') (W2:=W2) HI8.out HE.out.symm (by rw [hln];exact hown) (by rw [hln];exact hg))
    rw [hln] at c8 HROW hlen HPUSH
    clear hln
    have HCC:Hid (∀(j:Nat) (u:Value),[Value.int .i64 mu,.int .i64 ml,.int .i64 n1,.int .i64 n2,.int .i64 n3,.int .i64 n4][j]?=some u→(w8.alloc (.cells #[Value.int .i64 mu,.int .i64 ml,.int .i64 n1,.int .i64 n2,.int .i64 n3,.int .i64 n4] 64)).cell? ((⟨w8.heap.size,0,none⟩:Addr).add j)=some u):=fun j u hj=>by
     have e:(⟨w8.heap.size,0,none⟩:Addr).add j=⟨w8.heap.size,j,none⟩:=by unfold Addr.add;split <;> simp_all
     rw [e,(Blk.new w8 _ _).cell]
     simpa using hj
    have H1C:Hid (∀u∈[Value.int .i64 mu,.int .i64 ml,.int .i64 n1,.int .i64 n2,.int .i64 n3,.int .i64 n4],u.oneCell'=true):=by unfold Hid;simp [Value.oneCell']
    gi_wp2_with (gi_at_builtin;refine wpListIn_append_own _ rfl _ _ 59 rfl w.heap.size 64 iS zS 6 48 htS hiS hzS hsizeS hbytesS hzsS hszS (.slice A' len c') len (spcells (gu1,gu2) ju (gl1,gl2) jl (Q0++Q1)) rfl (HROW.out.alloc _) ⟨w8.heap.size,0,none⟩ 1 1 [.int .i64 mu,.int .i64 ml,.int .i64 n1,.int .i64 n2,.int .i64 n3,.int .i64 n4] rfl rfl HCC.out H1C.out (by unfold maxLen;omega) (by omega) (by simp;omega) ?_)
    intro v' w9 hown9 hg9 _
    obtain ⟨A9,c9,rfl,hSI,hKO,hKB,hsz9,z1,z2⟩:=HPUSH.out v' w9 hown9 hg9
    have HSI:=Lib.hid hSI;have HKO:=Lib.hid hKO;have HKB:=Lib.hid hKB
    clear hSI hKO hKB hown9 hg9 hszS hzsS
    gi_wp2
    have hj9:=HKB.out _ _ _ (HJ.out.sub HB8.out) (by decide) (by decide)
    have ho9:=HKB.out _ _ _ (HO.out.sub HB8.out) (by decide) (by decide)
    have hx9:=HKB.out _ _ _ (HX.out.sub HB8.out) (by decide) (by decide)
    have hko:KeepsOthers W' (w9.setCell ⟨b8,0,none⟩ (.slice A9 (len+1) c9)):=(keepsO_below HB8.out).trans HKO.out
    refine ⟨hko.from _,hj9.trans HJ.out.symm,⟨⟨⟨⟨A9,c9,?_⟩,ho9⟩,hj9,hx9⟩,HKF.out.trans (hko.from _)⟩⟩
    rw [HQ.out,←List.append_assoc]
    exact HSI.out
   ·have hgt:(((mu-ml).natAbs:Nat):Int) > 2:=by omega
    have HQ:=Lib.hid (HNO.out hd)
    obtain ⟨ab,hab⟩:∃ab:Nat,(mu-ml).natAbs=ab:=⟨_,rfl⟩
    rw [hab] at HABS hgt
    clear hab hd HNO HYE
    gi_wp2_with ((refine ⟨trivial,?_⟩;gi_at_call 81;refine (CallsIn.inRound l2 (CallsIn.inRound l (callsIn_wide.2 (HABS.out _)))).mono ?_;rintro e w' ⟨rfl,rfl⟩))
    refine ⟨KeepsFrom.refl _ _,rfl,⟨⟨⟨⟨A',c',?_⟩,HO.out⟩,HJ.out,HX.out⟩,HKF.out⟩⟩
    rw [HQ.out]
    exact HI.out
  case done2 =>
   rintro ys W' hys ⟨⟨⟨⟨A',c',hI'⟩,hO'⟩,hJ',hX'⟩,hKF⟩
   gi_wp2
   refine ⟨hKF,hO'.trans hO.symm,⟨A',c',?_⟩,hO'⟩
   rw [pats_snoc hys]
   exact hI'
  case stop2 =>
   rintro c pre' W' _ h
   exact h.elim
 case done =>
  rintro D xs W hD hxs ⟨⟨A,c,hI⟩,hO⟩ hK
  rw [pats_all hxs] at hI
  have HI:=Lib.hid hI
  obtain ⟨⟨m1,m2,m3,m4⟩,⟨m5,m6,m7⟩,m8,m9,m10⟩:=hI
  have HKE:=Lib.hid hK
  have cL:=m7.cell 0
  have c3:=m3.cell 0;have f3:=m3.frozen 0
  have c4:=m4.cell 0;have f4:=m4.frozen 0
  simp only [List.getElem?_toArray,List.getElem?_cons_zero] at cL c3 c4
  clear m1 m2 m3 m4 m5 m6 m7 m8 m9 hK cO
  gi_wp2
  go_wp2_with fail
  obtain ⟨z1,z2,z3,z4,z5⟩:=HI.out.fin HKE.out (by omega)
  refine ⟨by simp,.inl ⟨_,_,rfl,run_takeDeferred z1,?_⟩⟩
  refine ⟨_,results_sp _ _ (w.heap.size+1+1) (w.heap.size+1+1+1) rfl rfl z2 z3,⟨A,c,by rw [HF.out,HK.out],?_⟩,z5⟩
  rw [HF.out,HGU.out,HGL.out]
  exact z4
 case stop =>
  rintro D c pre W _ _ h _
  exact h.elim
end
section
open Go.RowKit
attribute [local go_sem ↓] Go.wp_at_zero Go.wp_at_succ
theorem sp_fail {w W:World} {tu tl:T2} {ju jl:Int} (hk:spOk tu ju tl jl=false) (tmps:Array Value) (hB:Below w.heap.size w W) (h3:Blk W (w.heap.size+1+1) 59 #[.slice none 0 0]) (h4:Blk W (w.heap.size+1+1+1) 4 #[.bool false])
 (e4:tmps.getD 4 undef=.pointer (some ⟨w.heap.size+1+1,0,none⟩)) (e5:tmps.getD 5 undef=.pointer (some ⟨w.heap.size+1+1+1,0,none⟩)) :
 bodyPost Tryz.prog Tryz.f30 (SplitsPost w tu ju tl jl) .ret { tmps:=tmps,defers:=[] } ((W.setCell ⟨w.heap.size+1+1,0,none⟩ (.slice none 0 0)).setCell ⟨w.heap.size+1+1+1,0,none⟩ (.bool false)):=by
 have s3:=(h3.set 0 (.slice none 0 0)).far (p:=⟨w.heap.size+1+1+1,0,none⟩) (by simp) (.bool false)
 have s4:=(h4.far (p:=⟨w.heap.size+1+1,0,none⟩) (by simp) (.slice none 0 0)).set 0 (.bool false)
 refine bodyPost_ret (results_sp _ _ (w.heap.size+1+1) (w.heap.size+1+1+1) e4 e5 (s3.cell 0) (s4.cell 0)) rfl ?_
 have hF:spL tu ju tl jl=[]:=by unfold spL;rw [hk];rfl
 exact ⟨⟨none,0,by rw [hF,hk];rfl,by rw [hF];exact World.ownsRow_nil _ _ _ _⟩,bel_set (bel_set hB (by omega)) (by omega)⟩
theorem implSplitOf_no (su lu ju sl ll jl:Int) (w:World) (hk:spOk (su,lu) ju (sl,ll) jl=false) :
 Calls Tryz.prog 30 #[.agg #[.int .i64 su,.int .i64 lu,.int .i64 ju],.agg #[.int .i64 sl,.int .i64 ll,.int .i64 jl]] w (SplitsPost w (su,lu) ju (sl,ll) jl):=by
 have HB:=Lib.hid (bel_alloc (bel_alloc (bel_alloc (bel_alloc (Below.refl w.heap.size w) (.cells #[.int .i64 su,.int .i64 lu,.int .i64 ju] 31)) (.cells #[.int .i64 sl,.int .i64 ll,.int .i64 jl] 31)) (.cells #[.slice none 0 0] 59)) (.cells #[.bool false] 4))
 have hx:=(((Blk.new w 31 #[.int .i64 su,.int .i64 lu,.int .i64 ju]).alloc (.cells #[.int .i64 sl,.int .i64 ll,.int .i64 jl] 31)).alloc (.cells #[.slice none 0 0] 59)).alloc (.cells #[.bool false] 4)
 have hy:=((Blk.new (w.alloc (.cells #[.int .i64 su,.int .i64 lu,.int .i64 ju] 31)) 31 #[.int .i64 sl,.int .i64 ll,.int .i64 jl]).alloc (.cells #[.slice none 0 0] 59)).alloc (.cells #[.bool false] 4)
 have hz:=(Blk.new ((w.alloc (.cells #[.int .i64 su,.int .i64 lu,.int .i64 ju] 31)).alloc (.cells #[.int .i64 sl,.int .i64 ll,.int .i64 jl] 31)) 59 #[.slice none 0 0]).alloc (.cells #[.bool false] 4)
 have hu:=Blk.new (((w.alloc (.cells #[.int .i64 su,.int .i64 lu,.int .i64 ju] 31)).alloc (.cells #[.int .i64 sl,.int .i64 ll,.int .i64 jl] 31)).alloc (.cells #[.slice none 0 0] 59)) 4 #[.bool false]
 simp only [World.size_alloc] at hy hz hu
 have HX:=Lib.hid hx;have HY:=Lib.hid hy;have HZ:=Lib.hid hz;have HU:=Lib.hid hu;clear hx hy hz hu
 have HV1:=Lib.hid (fun W=>LevelValid_all (su,lu) ju W)
 have HV2:=Lib.hid (fun W=>LevelValid_all (sl,ll) jl W)
 have HTR:=Lib.hid (fun W=>SpinTriangle_all jl 2 ju W)
 have HK:=Lib.hid hk
 simp only at HV1 HV2
 cases k1:lvB (su,lu) ju
 ·rw [k1] at HV1;clear k1
  clear hk
  go_enter Tryz.func30,Tryz.ntmps30
  go_wp2_with fail
  refine (HV1.out _).mono ?_
  rintro e1 w1 ⟨rfl,hb1⟩
  replace HB:=Lib.hid (bel_sub HB.out hb1);replace HX:=Lib.hid (HX.out.sub hb1);replace HY:=Lib.hid (HY.out.sub hb1);replace HZ:=Lib.hid (HZ.out.sub hb1);replace HU:=Lib.hid (HU.out.sub hb1);clear hb1
  obtain ⟨z1,z2⟩:=blk1 HZ.out
  obtain ⟨v1,v2⟩:=blk1 HU.out
  go_wp2_with fail
  exact sp_fail HK.out _ HB.out HZ.out HU.out rfl rfl
 cases k2:lvB (sl,ll) jl
 ·rw [k1] at HV1;rw [k2] at HV2;clear k1 k2
  clear hk
  go_enter Tryz.func30,Tryz.ntmps30
  go_wp2_with fail
  refine (HV1.out _).mono ?_
  rintro e1 w1 ⟨rfl,hb1⟩
  replace HB:=Lib.hid (bel_sub HB.out hb1);replace HX:=Lib.hid (HX.out.sub hb1);replace HY:=Lib.hid (HY.out.sub hb1);replace HZ:=Lib.hid (HZ.out.sub hb1);replace HU:=Lib.hid (HU.out.sub hb1);clear hb1
  obtain ⟨x1,x2,x3,_,_,_⟩:=blk3 HY.out
  go_wp2_with fail
  refine (HV2.out _).mono ?_
  rintro e1 w2 ⟨rfl,hb2⟩
  replace HB:=Lib.hid (bel_sub HB.out hb2);replace HX:=Lib.hid (HX.out.sub hb2);replace HY:=Lib.hid (HY.out.sub hb2);replace HZ:=Lib.hid (HZ.out.sub hb2);replace HU:=Lib.hid (HU.out.sub hb2);clear hb2 x1 x2 x3
  obtain ⟨x1,x2,x3,_,_,_⟩:=blk3 HX.out
  obtain ⟨y1,y2,y3,_,_,_⟩:=blk3 HY.out
  obtain ⟨z1,z2⟩:=blk1 HZ.out
  obtain ⟨v1,v2⟩:=blk1 HU.out
  go_wp2_with fail
  exact sp_fail HK.out _ HB.out HZ.out HU.out rfl rfl
 by_cases c1:ju≤6
 case neg =>
  rw [k1] at HV1;rw [k2] at HV2;clear k1 k2
  clear hk
  go_enter Tryz.func30,Tryz.ntmps30
  go_wp2_with fail
  refine (HV1.out _).mono ?_
  rintro e1 w1 ⟨rfl,hb1⟩
  replace HB:=Lib.hid (bel_sub HB.out hb1);replace HX:=Lib.hid (HX.out.sub hb1);replace HY:=Lib.hid (HY.out.sub hb1);replace HZ:=Lib.hid (HZ.out.sub hb1);replace HU:=Lib.hid (HU.out.sub hb1);clear hb1
  obtain ⟨x1,x2,x3,_,_,_⟩:=blk3 HY.out
  go_wp2_with fail
  refine (HV2.out _).mono ?_
  rintro e1 w2 ⟨rfl,hb2⟩
  replace HB:=Lib.hid (bel_sub HB.out hb2);replace HX:=Lib.hid (HX.out.sub hb2);replace HY:=Lib.hid (HY.out.sub hb2);replace HZ:=Lib.hid (HZ.out.sub hb2);replace HU:=Lib.hid (HU.out.sub hb2);clear hb2 x1 x2 x3
  obtain ⟨x1,x2,x3,_,_,_⟩:=blk3 HX.out
  obtain ⟨y1,y2,y3,_,_,_⟩:=blk3 HY.out
  obtain ⟨z1,z2⟩:=blk1 HZ.out
  obtain ⟨v1,v2⟩:=blk1 HU.out
  go_wp2_with fail
  exact sp_fail HK.out _ HB.out HZ.out HU.out rfl rfl
 by_cases c2:jl≤6
 case neg =>
  rw [k1] at HV1;rw [k2] at HV2;clear k1 k2
  clear hk
  go_enter Tryz.func30,Tryz.ntmps30
  go_wp2_with fail
  refine (HV1.out _).mono ?_
  rintro e1 w1 ⟨rfl,hb1⟩
  replace HB:=Lib.hid (bel_sub HB.out hb1);replace HX:=Lib.hid (HX.out.sub hb1);replace HY:=Lib.hid (HY.out.sub hb1);replace HZ:=Lib.hid (HZ.out.sub hb1);replace HU:=Lib.hid (HU.out.sub hb1);clear hb1
  obtain ⟨x1,x2,x3,_,_,_⟩:=blk3 HY.out
  go_wp2_with fail
  refine (HV2.out _).mono ?_
  rintro e1 w2 ⟨rfl,hb2⟩
  replace HB:=Lib.hid (bel_sub HB.out hb2);replace HX:=Lib.hid (HX.out.sub hb2);replace HY:=Lib.hid (HY.out.sub hb2);replace HZ:=Lib.hid (HZ.out.sub hb2);replace HU:=Lib.hid (HU.out.sub hb2);clear hb2 x1 x2 x3
  obtain ⟨x1,x2,x3,_,_,_⟩:=blk3 HX.out
  obtain ⟨y1,y2,y3,_,_,_⟩:=blk3 HY.out
  obtain ⟨z1,z2⟩:=blk1 HZ.out
  obtain ⟨v1,v2⟩:=blk1 HU.out
  go_wp2_with fail
  exact sp_fail HK.out _ HB.out HZ.out HU.out rfl rfl
 cases k3:triB jl 2 ju
 ·rw [k1] at HV1;rw [k2] at HV2;rw [k3] at HTR;clear k1 k2 k3
  clear hk
  go_enter Tryz.func30,Tryz.ntmps30
  go_wp2_with fail
  refine (HV1.out _).mono ?_
  rintro e1 w1 ⟨rfl,hb1⟩
  replace HB:=Lib.hid (bel_sub HB.out hb1);replace HX:=Lib.hid (HX.out.sub hb1);replace HY:=Lib.hid (HY.out.sub hb1);replace HZ:=Lib.hid (HZ.out.sub hb1);replace HU:=Lib.hid (HU.out.sub hb1);clear hb1
  obtain ⟨x1,x2,x3,_,_,_⟩:=blk3 HY.out
  go_wp2_with fail
  refine (HV2.out _).mono ?_
  rintro e1 w2 ⟨rfl,hb2⟩
  replace HB:=Lib.hid (bel_sub HB.out hb2);replace HX:=Lib.hid (HX.out.sub hb2);replace HY:=Lib.hid (HY.out.sub hb2);replace HZ:=Lib.hid (HZ.out.sub hb2);replace HU:=Lib.hid (HU.out.sub hb2);clear hb2 x1 x2 x3
  obtain ⟨x1,x2,x3,_,_,_⟩:=blk3 HX.out
  obtain ⟨y1,y2,y3,_,_,_⟩:=blk3 HY.out
  go_wp2_with fail
  refine (HTR.out _).mono ?_
  rintro e1 w3 ⟨rfl,rfl⟩
  obtain ⟨z1,z2⟩:=blk1 HZ.out
  obtain ⟨v1,v2⟩:=blk1 HU.out
  go_wp2_with fail
  exact sp_fail HK.out _ HB.out HZ.out HU.out rfl rfl
 rw [spOk_iff.2 ⟨k1,k2,c1,c2,k3⟩] at hk
 cases hk
theorem implSplitOf_any (su lu ju sl ll jl:Int) (w:World) (hE:Ers w) :
 Calls Tryz.prog 30 #[.agg #[.int .i64 su,.int .i64 lu,.int .i64 ju],.agg #[.int .i64 sl,.int .i64 ll,.int .i64 jl]] w (SplitsPost w (su,lu) ju (sl,ll) jl):=by
 cases hk:spOk (su,lu) ju (sl,ll) jl
 ·exact implSplitOf_no su lu ju sl ll jl w hk
 ·obtain ⟨_,_,_,_,v3⟩:=spOk_iff.1 hk
  obtain ⟨ju,rfl⟩:=Int.eq_ofNat_of_zero_le (triB_iff.1 v3).1.2.2.1
  obtain ⟨jl,rfl⟩:=Int.eq_ofNat_of_zero_le (triB_iff.1 v3).1.1.1
  exact implSplitOf_yes su lu sl ll ju jl w hE hk
end
end
section
section
open Go.RowKit
attribute [local go_sem ↓] Go.wp_at_zero Go.wp_at_succ
theorem join_lek {m:Nat} {L:List (List UInt8)} (h:∀x∈L,x.length≤m):∀k,k≤L.length→(Lib.join (L.take k) [32]).length≤(m+1)*k
 | 0,_=>by simp [Lib.join_nil]
 | k+1,hk=>by
  have ih:=join_lek h k (by omega)
  have h2:=h L[k] (List.getElem_mem (by omega))
  rw [List.take_succ_eq_append_getElem (by omega),join_snoc,List.length_append,Nat.mul_add]
  split
  ·simp only [List.length_nil];omega
  ·rw [List.length_append];simp only [List.length_cons,List.length_nil];omega
theorem join_le {m:Nat} {L:List (List UInt8)} (h:∀x∈L,x.length≤m):(Lib.join L [32]).length≤(m+1)*L.length:=by
 have:=join_lek h L.length (Nat.le_refl _)
 rwa [List.take_length] at this
def spE (gu:T2) (ju:Int) (gl:T2) (jl:Int) (p:Int × Int):List UInt8:=ratT (shR gu p.1 gl p.2).1++[58]++ratT (clR jl 2 ju p.2 (p.1-p.2)).1.2
def splT (tu:T2) (ju:Int) (tl:T2) (jl:Int):List UInt8:=Lib.join ((spL tu ju tl jl).map (spE (fz tu ju) ju (fz tl jl) jl)) [32]
theorem spE_len (gu:T2) (ju:Int) (gl:T2) (jl:Int) (p:Int × Int):(spE gu ju gl jl p).length≤47:=by
 unfold spE
 have h1:=ratT_len (shR gu p.1 gl p.2).1
 have h2:=ratT_len (clR jl 2 ju p.2 (p.1-p.2)).1.2
 rw [List.length_append,List.length_append,List.length_cons,List.length_nil]
 omega
theorem spL_len (tu tl:T2) (ju jl:Int):(spL tu ju tl jl).length≤49:=by
 unfold spL
 split
 ·rename_i hk
  obtain ⟨_,_,c1,c2,v3⟩:=spOk_iff.1 hk
  obtain ⟨ju,rfl⟩:=Int.eq_ofNat_of_zero_le (triB_iff.1 v3).1.2.2.1
  obtain ⟨jl,rfl⟩:=Int.eq_ofNat_of_zero_le (triB_iff.1 v3).1.1.1
  have h:=sprows_len ju jl (ju+1)
  have h2:(ju+1)*(jl+1)≤7*7:=Nat.mul_le_mul (by omega) (by omega)
  unfold spPs
  rw [Int.toNat_natCast]
  omega
 ·simp
theorem splT_len (tu tl:T2) (ju jl:Int):(splT tu ju tl jl).length≤48*49:=by
 unfold splT
 refine Nat.le_trans (join_le (m:=47) ?_) ?_
 ·intro x hx
  obtain ⟨p,_,rfl⟩:=List.mem_map.1 hx
  exact spE_len _ _ _ _ _
 ·rw [List.length_map]
  exact Nat.mul_le_mul (Nat.le_refl _) (spL_len _ _ _ _)
theorem spcells_len (gu:T2) (ju:Int) (gl:T2) (jl:Int) (ps:List (Int × Int)):(spcells gu ju gl jl ps).length=ps.length*6:=by
 induction ps with
 | nil=>rfl
 | cons p ps ih =>
  have:spcells gu ju gl jl (p :: ps)=entC gu ju gl jl p.1 p.2++spcells gu ju gl jl ps:=rfl
  rw [this,List.length_append,ih]
  simp [entC];omega
theorem spcells_at (gu:T2) (ju:Int) (gl:T2) (jl:Int):∀(ps:List (Int × Int)) (k:Nat) (p:Int × Int),ps[k]?=some p→∀i,i<6→(spcells gu ju gl jl ps)[k*6+i]?=(entC gu ju gl jl p.1 p.2)[i]?
 | [],k,p,h,_,_=>by simp at h
 | q :: ps,0,p,h,i,hi=>by
  cases h
  have:spcells gu ju gl jl (q :: ps)=entC gu ju gl jl q.1 q.2++spcells gu ju gl jl ps:=rfl
  rw [this,List.getElem?_append_left (by simp [entC];omega)]
  simp
 | q :: ps,k+1,p,h,i,hi=>by
  have e:spcells gu ju gl jl (q :: ps)=entC gu ju gl jl q.1 q.2++spcells gu ju gl jl ps:=rfl
  rw [e,List.getElem?_append_right (by simp [entC];omega)]
  have:=spcells_at gu ju gl jl ps k p (by simpa using h) i hi
  rw [←this]
  congr 1
  simp [entC];omega
theorem Reads.spl {w:World} {B:Nat} {A:Option Addr} {n:Nat} {gu gl:T2} {ju jl:Int} {ps:List (Int × Int)} (h:Reads w B 6 A n (spcells gu ju gl jl ps)) {k:Nat} (hk:k<n) :
 ∃b off p,A=some ⟨b,off,none⟩∧b<B∧ps[k]?=some p∧w.cell? ⟨b,off+k*6,none⟩=some (.int .i64 p.1)∧w.cell? ⟨b,off+k*6+1,none⟩=some (.int .i64 p.2)∧w.cell? ⟨b,off+k*6+2,none⟩=some (.int .i64 (shR gu p.1 gl p.2).1.1) ∧
  w.cell? ⟨b,off+k*6+3,none⟩=some (.int .i64 (shR gu p.1 gl p.2).1.2)∧w.cell? ⟨b,off+k*6+4,none⟩=some (.int .i64 (clR jl 2 ju p.2 (p.1-p.2)).1.2.1)∧w.cell? ⟨b,off+k*6+5,none⟩=some (.int .i64 (clR jl 2 ju p.2 (p.1-p.2)).1.2.2):=by
 obtain ⟨b,off,e,hb,hc⟩:=h.2 (by omega)
 have hl:=h.1
 rw [spcells_len] at hl
 have hkl:k<ps.length:=by omega
 have hp:ps[k]?=some ps[k]:=List.getElem?_eq_getElem hkl
 have hx:=spcells_at gu ju gl jl ps k _ hp
 have hc':∀i u,i<6→(entC gu ju gl jl ps[k].1 ps[k].2)[i]?=some u→w.cell? ⟨b,off+k*6+i,none⟩=some u:=fun i u hi hu=>by
  have:=hc (k*6+i) u (by rw [hx i hi];exact hu)
  rw [←this,Nat.add_assoc]
 exact ⟨b,off,ps[k],e,hb,hp,hc' 0 _ (by omega) rfl,hc' 1 _ (by omega) rfl,hc' 2 _ (by omega) rfl,hc' 3 _ (by omega) rfl,hc' 4 _ (by omega) rfl,hc' 5 _ (by omega) rfl⟩
theorem sameSplits_any (A A':Option Addr) (n c c':Nat) (gu gl:T2) (ju jl:Int) (ps:List (Int × Int)) (w:World) (hn:n≤1000) (hr:Reads w w.heap.size 6 A n (spcells gu ju gl jl ps)) (hr':Reads w w.heap.size 6 A' n (spcells gu ju gl jl ps)) :
 Calls Tryz.prog 32 #[.slice A n c,.slice A' n c'] w fun e w'=>e=.returned (.bool true)∧Below w.heap.size w w':=by
 have HR:=Lib.hid hr;clear hr
 have HR':=Lib.hid hr';clear hr'
 have hB0:=Below.refl w.heap.size w
 go_enter Tryz.func32,Tryz.ntmps32
 go_wp2_with fail
 go_loopw [5] (fun i wr=>∃(k:Nat),k≤n∧i=.int .i64 k∧Hid (Below w.heap.size w wr)) (fun i _=>n-(RowKit.intOf i).toNat)
 case atStart=>exact ⟨0,Nat.zero_le _,rfl,hB0⟩
 case round =>
  clear hB0
  obtain ⟨k,hk,rfl,HB⟩:=hrel
  by_cases hlt:k<n
  ·obtain ⟨b,off,p,rfl,hb,hp,r1,r2,r3,r4,r5,r6⟩:=(HR.out.below HB.out).spl hlt
   obtain ⟨b',off',p',rfl,hb',hp',q1,q2,q3,q4,q5,q6⟩:=(HR'.out.below HB.out).spl hlt
   obtain rfl:p=p':=by rw [hp] at hp';injection hp'
   clear hp hp'
   generalize (shR gu p.1 gl p.2).1.1=n1 at *
   generalize (shR gu p.1 gl p.2).1.2=n2 at *
   generalize (clR jl 2 ju p.2 (p.1-p.2)).1.2.1=n3 at *
   generalize (clR jl 2 ju p.2 (p.1-p.2)).1.2.2=n4 at *
   have i1:(k:Int)<(n:Int):=by omega
   have i0:(0:Int)≤(k:Int):=by omega
   go_wp2_with fail
   go_quiet (fail)
   go_wp2_with fail
   go_roundw
   case rel=>exact ⟨k+1,by omega,by go_num,⟨HB.out.os,HB.out.tape,HB.out.output,HB.out.size,HB.out.block⟩⟩
   case measure=>simp [RowKit.intOf];omega
  ·obtain rfl:k=n:=by omega
   go_wp2_with fail
   go_ret
   exact ⟨rfl,HB.out⟩
end
section
open Go.RowKit
attribute [local go_sem ↓] Go.wp_at_zero Go.wp_at_succ
def rqSpl (s1 s2:List UInt8):List UInt8 × Bool:=(splT (lvF s1).1.1 (lvF s1).1.2 (lvF s2).1.1 (lvF s2).1.2,(lvF s1).2 && ((lvF s2).2 && spOk (lvF s1).1.1 (lvF s1).1.2 (lvF s2).1.1 (lvF s2).1.2))
def RsI (w:World) (B4:Nat) (A':Option Addr) (k c':Nat) (xs:List Value) (A:Option Addr) (n c:Nat) (ys:List Value) (g:Nat) (six:Array Value) (W:World):Prop :=
 Below w.heap.size w W∧W.ownsRow w.heap.size 9 1 (.slice A' k c') k xs∧W.ownsRow B4 64 6 (.slice A n c) n ys∧Blk W g 64 six
theorem RsI.sub {w:World} {B4:Nat} {A':Option Addr} {k c':Nat} {xs:List Value} {A:Option Addr} {n c:Nat} {ys:List Value} {g:Nat} {six:Array Value} {W W':World} (h:RsI w B4 A' k c' xs A n c ys g six W) (hb:Below W.heap.size W W'):RsI w B4 A' k c' xs A n c ys g six W' :=
 ⟨bel_sub h.1 hb,own_below h.2.1 hb,own_below h.2.2.1 hb,h.2.2.2.sub hb⟩
theorem RsI.drew {w:World} {B4:Nat} {A':Option Addr} {k c':Nat} {xs:List Value} {A:Option Addr} {n c:Nat} {ys:List Value} {g:Nat} {six:Array Value} {W:World} (h:RsI w B4 A' k c' xs A n c ys g six W):RsI w B4 A' k c' xs A n c ys g six W.drew :=
 ⟨h.1.drew,ownsRow_drew' h.2.1,ownsRow_drew' h.2.2.1,h.2.2.2.drew⟩
theorem rs_cells {w:World} {B4:Nat} {A':Option Addr} {k c':Nat} {xs:List Value} {A:Option Addr} {n c:Nat} {ys:List Value} {g:Nat} {a b d e f i:Value} {W:World} (h:RsI w B4 A' k c' xs A n c ys g #[a,b,d,e,f,i] W) :
 W.cell? ⟨g,2,none⟩=some d∧W.cell? ⟨g,3,none⟩=some e∧W.cell? ⟨g,4,none⟩=some f∧W.cell? ⟨g,5,none⟩=some i:=⟨h.2.2.2.cell 2,h.2.2.2.cell 3,h.2.2.2.cell 4,h.2.2.2.cell 5⟩
theorem rs_app {w:World} {B4:Nat} {A' A2:Option Addr} {k c' c2:Nat} {xs zs:List Value} {A:Option Addr} {n c:Nat} {ys:List Value} {g:Nat} {six:Array Value} {W W2:World} {o:Array Value} (h:RsI w B4 A' k c' xs A n c ys g six W) (hown:W2.ownsRow w.heap.size 9 1 (.slice A2 (k+1) c2) (k+1) zs)
 (hb:Below w.heap.size (W.alloc (.cells o 9)) W2) (hk:KeepT 9 (W.alloc (.cells o 9)) W2):RsI w B4 A2 (k+1) c2 zs A n c ys g six W2 :=
 ⟨(h.1.alloc h.1.size _).trans hb,hown,own_keepT (h.2.2.1.alloc _) hk (by decide),(h.2.2.2.alloc _).keepT hk (by decide)⟩
theorem join_any (A:Option Addr) (n c:Nat) (L:List (List UInt8)) (base:Nat) (w:World) (hl:L.length=n) (hc:n≤c) (hn:n≤1000000) (hj:(Lib.join L [32]).length≤1000000) (h:w.ownsRow base 9 1 (.slice A n c) n (scells L)) :
 Calls Tryz.prog 54 #[.slice A n c,.string ⟨#[32]⟩] w fun e w'=>e=.returned (.string (bs (Lib.join L [32])))∧Below w.heap.size w w':=by
 rcases Nat.eq_zero_or_pos n with h0 | h0
 ·subst h0
  obtain rfl:=List.length_eq_zero_iff.1 hl
  exact (Tryz.strings_Join_none A c ⟨#[32]⟩ w).mono fun e w' ⟨he,hw⟩=>⟨he,hw ▸ Below.refl _ _⟩
 ·obtain ⟨g,cur,rfl,hg,hblk,hfl⟩:=own_blk2 h h0
  have hmm:((L.map bs).map fun x:ByteArray=>x.data.toList)=L:=by
   rw [List.map_map]
   conv=>rhs;rw [←List.map_id L]
   rfl
  have hln:(L.map bs).length=n:=by rw [List.length_map,hl]
  have hjj:=Tryz.strings_Join g 0 c (L.map bs) ⟨#[32]⟩ w (fun i x hx=>by
   rw [Nat.zero_add,hblk.cell]
   refine hfl i _ ?_
   unfold scells
   rw [List.getElem?_map] at hx ⊢
   cases hq:L[i]? with
   | none=>rw [hq] at hx;cases hx
   | some l=>rw [hq] at hx;cases hx;rfl) hblk.lt (by rw [hln];omega) (by rw [hln];exact hc) (by rw [hmm];show (Lib.join _ [32]).length≤_;omega)
  rw [hmm,show (⟨#[32]⟩:ByteArray).data.toList=[32] from rfl,hln] at hjj
  exact hjj
theorem reqSplit_any (s1 s2:List UInt8) (b:Nat) (w:World) (l1:s1.length≤1000000) (l2:s2.length≤1000000) (hb:b<w.heap.size) (hA1:w.cell? ⟨b,1,none⟩=some (.string (bs s1))) (hA2:w.cell? ⟨b,2,none⟩=some (.string (bs s2))) (hE:Ers w) (ht:Tab w) :
 Calls Tryz.prog 132 #[.agg #[.slice (some ⟨b,1,none⟩) 2 2]] w fun e w'=>e=.returned (.tuple #[.string (bs (rqSpl s1 s2).1),.bool (rqSpl s1 s2).2])∧Below w.heap.size w w':=by
 have HLF1:=Lib.hid (fun W=>LevelFrom_all s1 W l1)
 have HLF2:=Lib.hid (fun W=>LevelFrom_all s2 W l2)
 unfold rqSpl
 simp only
 obtain ⟨r1,hr1⟩:∃r,lvF s1=r:=⟨_,rfl⟩
 obtain ⟨r2,hr2⟩:∃r,lvF s2=r:=⟨_,rfl⟩
 rw [hr1] at HLF1 ⊢
 rw [hr2] at HLF2 ⊢
 clear hr1 hr2
 obtain ⟨⟨⟨su,lu⟩,ju⟩,ok1⟩:=r1
 obtain ⟨⟨⟨sl,ll⟩,jl⟩,ok2⟩:=r2
 unfold lvV at HLF1 HLF2
 simp only at HLF1 HLF2 ⊢
 have HSP:=Lib.hid (fun W (hW:Ers W)=>implSplitOf_any su lu ju sl ll jl W hW)
 unfold SplitsPost at HSP
 have hnl:=spL_len (su,lu) (sl,ll) ju jl
 have htl:=splT_len (su,lu) (sl,ll) ju jl
 have HTT:Hid (splT (su,lu) ju (sl,ll) jl=Lib.join ((spL (su,lu) ju (sl,ll) jl).map (spE (fz (su,lu) ju) ju (fz (sl,ll) jl) jl)) [32]):=rfl
 rw [HTT.out] at htl
 have HTL:=Lib.hid htl;clear htl
 obtain ⟨n,hn⟩:∃n,(spL (su,lu) ju (sl,ll) jl).length=n:=⟨_,rfl⟩
 rw [hn] at HSP hnl
 have HN:=Lib.hid hn;clear hn
 obtain ⟨ok3,hok3⟩:∃o,spOk (su,lu) ju (sl,ll) jl=o:=⟨_,rfl⟩
 rw [hok3] at HSP ⊢
 clear hok3
 generalize spL (su,lu) ju (sl,ll) jl=ps at *
 generalize fz (su,lu) ju=gu at *
 generalize fz (sl,ll) jl=gl at *
 have HE:=Lib.hid (fun W (hb:Below w.heap.size w W)=>hE.on hb);clear hE
 have HTb:=Lib.hid (fun W (hb:Below w.heap.size w W)=>ht.on hb);clear ht
 have HA1:=Lib.hid hA1;have HA2:=Lib.hid hA2;clear hA1 hA2
 generalize bs s1=X1 at *
 generalize bs s2=X2 at *
 obtain ⟨cs,hcs,hmk⟩:=run_mk0 elStr n (by omega) (by omega)
 have HCS:=Lib.hid hcs;clear hcs
 have HB0:=Lib.hid (bel_alloc (Below.refl w.heap.size w) (.cells #[.slice (some ⟨b,1,none⟩) 2 2] 136))
 have HQ0:=Lib.hid (Blk.new w 136 #[.slice (some ⟨b,1,none⟩) 2 2])
 go_enter Tryz.func132,Tryz.ntmps132
 go_wp2_with fail
 refine (exactly_any _ 2 2 _).mono ?_
 rintro e w1 ⟨rfl,hb1⟩
 have HB1:=Lib.hid (bel_sub HB0.out hb1)
 have HQ1:=Lib.hid (HQ0.out.sub hb1)
 have c0:w1.cell? ⟨w.heap.size,0,none⟩=some (.slice (some ⟨b,1,none⟩) 2 2):=HQ1.out.cell 0
 have hA:=(HB1.out.cell (p:=⟨b,1,none⟩) hb).trans HA1.out
 clear hb1 HB0 HQ0
 go_wp2_with fail
 refine (HLF1.out _).mono ?_
 rintro e w2 ⟨rfl,hb2⟩
 have HB2:=Lib.hid (bel_alloc (bel_sub HB1.out hb2) (.cells #[.int .i64 su,.int .i64 lu,.int .i64 ju] 31))
 have HQ2:=Lib.hid ((HQ1.out.sub hb2).alloc (.cells #[.int .i64 su,.int .i64 lu,.int .i64 ju] 31))
 have HX2:=Lib.hid (Blk.new w2 31 #[.int .i64 su,.int .i64 lu,.int .i64 ju])
 clear hb2 c0 hA HB1 HQ1
 have c0:(w2.alloc (.cells #[.int .i64 su,.int .i64 lu,.int .i64 ju] 31)).cell? ⟨w.heap.size,0,none⟩=some (.slice (some ⟨b,1,none⟩) 2 2):=HQ2.out.cell 0
 have hA:=(HB2.out.cell (p:=⟨b,2,none⟩) hb).trans HA2.out
 go_wp2_with fail
 refine (HLF2.out _).mono ?_
 rintro e w3 ⟨rfl,hb3⟩
 have HB3:=Lib.hid (bel_alloc (bel_sub HB2.out hb3) (.cells #[.int .i64 sl,.int .i64 ll,.int .i64 jl] 31))
 have HX3:=Lib.hid ((HX2.out.sub hb3).alloc (.cells #[.int .i64 sl,.int .i64 ll,.int .i64 jl] 31))
 have HY3:=Lib.hid (Blk.new w3 31 #[.int .i64 sl,.int .i64 ll,.int .i64 jl])
 clear hb3 c0 hA HB2 HQ2 HX2
 obtain ⟨x1,x2,x3,_,_,_⟩:=blk3 HX3.out
 obtain ⟨y1,y2,y3,_,_,_⟩:=blk3 HY3.out
 go_wp2_with fail
 refine (HSP.out _ (HE.out _ HB3.out)).mono ?_
 rintro e w4 ⟨⟨A,c,rfl,hr4⟩,hb4⟩
 have HB4:=Lib.hid (bel_sub HB3.out hb4)
 obtain ⟨B4,hB4⟩:∃B4,(w3.alloc (.cells #[.int .i64 sl,.int .i64 ll,.int .i64 jl] 31)).heap.size=B4:=⟨_,rfl⟩
 rw [hB4] at hr4
 have HO:=Lib.hid (World.ownsRow_made (base:=w.heap.size) (e:=9) (size:=1) w4 cs n HB4.out.size (by unfold maxLen;omega) HCS.out)
 have HB5:=Lib.hid (bel_alloc HB4.out (.cells cs 9))
 have HL5:=Lib.hid (own_below hr4 ((Below.refl _ _).alloc (Nat.le_refl _) (.cells cs 9)))
 clear hb4 hr4 hB4 x1 x2 x3 y1 y2 y3 HX3 HY3 HB3 HB4 HSP HLF1 HLF2 HA1 HA2
 go_wp2_with fail
 go_loopw [10,42] (fun v i wr=>∃(k:Nat) (A':Option Addr) (c':Nat),k≤n∧i=.int .i64 k∧v=.slice A' k c'∧k≤c'∧Hid (wr.ownsRow w.heap.size 9 1 (.slice A' k c') k (scells ((ps.take k).map (spE gu ju gl jl))))∧Hid (wr.ownsRow B4 64 6 (.slice A n c) n (spcells gu ju gl jl ps))∧Hid (Below w.heap.size w wr)) (fun _ i _=>n-(RowKit.intOf i).toNat)
 case atStart=>exact ⟨0,_,_,Nat.zero_le _,rfl,rfl,Nat.zero_le _,HO.out,HL5.out,HB5.out⟩
 case round =>
  clear HO HL5 HB5 hmk
  obtain ⟨k,A',c',hk,rfl,rfl,hkc,HW,HL,HB⟩:=hrel
  by_cases hlt:k<n
  ·obtain ⟨b',off,p,rfl,hb',hp,r1,r2,r3,r4,r5,r6⟩:=(own_reads HL.out).spl hlt
   have hkl:k<ps.length:=by rw [HN.out];exact hlt
   have hjk:ps[k]=p:=by rw [List.getElem?_eq_getElem hkl] at hp;injection hp
   have HJ:Hid (scells ((ps.take (k+1)).map (spE gu ju gl jl))=scells ((ps.take k).map (spE gu ju gl jl))++[.string (bs (spE gu ju gl jl p))]):=by
    unfold Hid scells
    rw [List.take_succ_eq_append_getElem hkl,List.map_append,List.map_append,hjk]
    rfl
   have HTX:Hid (bs (spE gu ju gl jl p)=bs (ratT (shR gu p.1 gl p.2).1)++⟨#[58]⟩++bs (ratT (clR jl 2 ju p.2 (p.1-p.2)).1.2)):=by
    unfold Hid spE;rw [←bs_append,←bs_append];rfl
   have HR1:=Lib.hid (fun W (hW:Tab W)=>implRatText_any (shR gu p.1 gl p.2).1.1 (shR gu p.1 gl p.2).1.2 W hW)
   have HR2:=Lib.hid (fun W (hW:Tab W)=>implRatText_any (clR jl 2 ju p.2 (p.1-p.2)).1.2.1 (clR jl 2 ju p.2 (p.1-p.2)).1.2.2 W hW)
   have hz1:(bs (ratT (shR gu p.1 gl p.2).1)).size≤23:=by rw [bs_size];exact ratT_len _
   have hz2:(bs (ratT (clR jl 2 ju p.2 (p.1-p.2)).1.2)).size≤23:=by rw [bs_size];exact ratT_len _
   have HRI:=Lib.hid (fun W (h:RsI w B4 A' k c' (scells ((ps.take k).map (spE gu ju gl jl))) (some ⟨b',off,none⟩) n c (spcells gu ju gl jl ps) wr.heap.size #[.int .i64 p.1,.int .i64 p.2,.int .i64 (shR gu p.1 gl p.2).1.1,.int .i64 (shR gu p.1 gl p.2).1.2,.int .i64 (clR jl 2 ju p.2 (p.1-p.2)).1.2.1,.int .i64 (clR jl 2 ju p.2 (p.1-p.2)).1.2.2] W)=>HTb.out W h.1)
   clear hp hjk hkl
   rw [show (((shR gu p.1 gl p.2).1.1,(shR gu p.1 gl p.2).1.2):T2)=(shR gu p.1 gl p.2).1 from rfl] at HR1
   rw [show (((clR jl 2 ju p.2 (p.1-p.2)).1.2.1,(clR jl 2 ju p.2 (p.1-p.2)).1.2.2):T2)=(clR jl 2 ju p.2 (p.1-p.2)).1.2 from rfl] at HR2
   generalize bs (spE gu ju gl jl p)=TX at *
   generalize bs (ratT (shR gu p.1 gl p.2).1)=T1 at *
   generalize bs (ratT (clR jl 2 ju p.2 (p.1-p.2)).1.2)=T2 at *
   generalize (shR gu p.1 gl p.2).1.1=n1 at *
   generalize (shR gu p.1 gl p.2).1.2=n2 at *
   generalize (clR jl 2 ju p.2 (p.1-p.2)).1.2.1=n3 at *
   generalize (clR jl 2 ju p.2 (p.1-p.2)).1.2.2=n4 at *
   obtain ⟨p1,p2⟩:=p
   simp only at *
   have hal:Below wr.heap.size wr (wr.alloc (.cells #[.int .i64 p1,.int .i64 p2,.int .i64 n1,.int .i64 n2,.int .i64 n3,.int .i64 n4] 64)):=(Below.refl _ _).alloc (Nat.le_refl _) _
   have HI0:Hid (RsI w B4 A' k c' (scells ((ps.take k).map (spE gu ju gl jl))) (some ⟨b',off,none⟩) n c (spcells gu ju gl jl ps) wr.heap.size #[.int .i64 p1,.int .i64 p2,.int .i64 n1,.int .i64 n2,.int .i64 n3,.int .i64 n4] (wr.alloc (.cells #[.int .i64 p1,.int .i64 p2,.int .i64 n1,.int .i64 n2,.int .i64 n3,.int .i64 n4] 64))) :=
    ⟨bel_sub HB.out hal,own_below HW.out hal,own_below HL.out hal,Blk.new _ _ _⟩
   have i1:(k:Int)<(n:Int):=by omega
   have i0:(0:Int)≤(k:Int):=by omega
   go_wp2_with fail
   obtain ⟨W0,hW0⟩:∃W0,wr.alloc (.cells #[.int .i64 p1,.int .i64 p2,.int .i64 n1,.int .i64 n2,.int .i64 n3,.int .i64 n4] 64)=W0:=⟨_,rfl⟩
   rw [hW0] at HI0 ⊢
   clear hW0 hal
   have HID:=Lib.hid (HI0.out.drew)
   obtain ⟨e2,e3,e4,e5⟩:=rs_cells HI0.out
   clear r1 r2 r3 r4 r5 r6
   have qa1:¬(9223372036854775807<T1.size+1):=by omega
   have qa2:¬(9223372036854775807<T1.size+1+T2.size):=by omega
   go_region_held3 (fun w'=>w'.cell? ⟨wr.heap.size,2,none⟩=some (.int .i64 n1)∧w'.cell? ⟨wr.heap.size,3,none⟩=some (.int .i64 n2)∧w'.cell? ⟨wr.heap.size,4,none⟩=some (.int .i64 n3)∧w'.cell? ⟨wr.heap.size,5,none⟩=some (.int .i64 n4)) (first | exact ⟨e2,e3,e4,e5⟩ | exact rs_cells hi6 | exact rs_cells hi5 | exact ⟨cell_past _ (rs_cells hi6).1,cell_past _ (rs_cells hi6).2.1,cell_past _ (rs_cells hi6).2.2.1,cell_past _ (rs_cells hi6).2.2.2⟩ | exact rs_cells hi7)
    (first | (go_at_call 24;with_reducible refine (HR1.out _ (HRI.out _ HID.out)).mono ?_;rintro e w5 ⟨rfl,hb5⟩;have hi5:=HID.out.sub hb5) | (go_at_call 24;with_reducible refine (HR2.out _ (HRI.out _ hi5)).mono ?_;rintro e w6 ⟨rfl,hb6⟩;have hi6:=hi5.sub hb6) | (refine step_app2 _ (by rfl) (.tmp 46) (.tmp 55) _ (by rfl) w.heap.size 9 1 16 elStr A' c' k (scells ((ps.take k).map (spE gu ju gl jl))) (by rfl) (hi6.2.1.alloc _) w6.heap.size #[.string (T1++⟨#[58]⟩++T2)] (by rfl) (Blk.new w6 _ _) (by rfl) (one1 (by rfl)) (by omega) (by omega) (by have:=hi6.1.size;simp;omega) ?_;intro A2 c2 w7 hown7 hc7 hb7 hk7;have hi7:=rs_app hi6 hown7 hb7 hk7))
   all_goals
    have HI7:=Lib.hid hi7
    clear hown7 hb7 hk7 hi7 hi6 hi5 hb5 hb6
    go_wp2_with fail
    go_roundw
    case rel =>
     refine ⟨k+1,A2,c2,by omega,by go_num,rfl,hc7,?_,HI7.out.2.2.1,HI7.out.1⟩
     unfold Hid
     rw [HJ.out,HTX.out];exact HI7.out.2.1
    case measure=>simp [RowKit.intOf];omega
  ·obtain rfl:k=n:=by omega
   have htk:ps.take k=ps:=List.take_of_length_le (by rw [HN.out];exact Nat.le_refl _)
   rw [htk] at HW
   have HJN:Hid (Calls Tryz.prog 54 #[.slice A' k c',.string ⟨#[32]⟩] wr fun e w'=>e=.returned (.string (bs (splT (su,lu) ju (sl,ll) jl)))∧Below wr.heap.size wr w'):=by
    rw [HTT.out]
    exact join_any A' k c' (ps.map (spE gu ju gl jl)) w.heap.size wr (by rw [List.length_map,HN.out]) hkc (by omega) (by have:=HTL.out;omega) HW.out
   have HB9:=Lib.hid HB.out
   clear HW HB HL
   obtain ⟨TT,hTT⟩:∃T,splT (su,lu) ju (sl,ll) jl=T:=⟨_,rfl⟩
   rw [hTT] at HJN
   have HTE:=Lib.hid hTT;clear hTT
   go_wp2_with fail
   refine HJN.out.mono ?_
   rintro e w5 ⟨rfl,hb5⟩
   have HB5:=Lib.hid (bel_sub HB9.out hb5);clear hb5
   cases ok1 <;> cases ok2 <;> cases ok3
   all_goals
    go_wp2_with fail
    go_ret2
    exact ⟨by rw [HTE.out];rfl,HB5.out⟩
end
section
open Go.RowKit
theorem dec_chars:∀(n u:Nat),u≤n→∀x∈Lib.decDigits u,48≤x.toNat∧x.toNat≤57:=by
 intro n
 induction n with
 | zero =>
  intro u hu x hx
  obtain rfl:u=0:=by omega
  rw [Lib.decDigits_one (by omega)] at hx
  simp at hx
  subst hx
  decide
 | succ n ih =>
  intro u hu x hx
  rw [Lib.decDigits] at hx
  split at hx
  ·rename_i h
   simp only [List.mem_singleton] at hx
   subst hx
   rw [UInt8.toNat_ofNat']
   omega
  ·rename_i h
   rw [List.mem_append] at hx
   rcases hx with hx | hx
   ·exact ih (u / 10) (by omega) x hx
   ·simp only [List.mem_singleton] at hx
    subst hx
    rw [UInt8.toNat_ofNat']
    omega
theorem itoa_no {c:UInt8} (h:c.toNat<45∨57<c.toNat) (n:Int):c∉Lib.itoa n:=by
 unfold Lib.itoa
 split
 ·intro hx
  rcases List.mem_cons.1 hx with rfl | hx
  ·revert h;decide
  ·have:=dec_chars _ _ (Nat.le_refl _) _ hx;omega
 ·intro hx
  have:=dec_chars _ _ (Nat.le_refl _) _ hx;omega
theorem rat_no {c:UInt8} (h:c.toNat<45∨57<c.toNat) (a:T2):c∉ratT a:=by
 have h47:c≠47:=by rintro rfl;revert h;decide
 unfold ratT
 split
 ·split
  ·exact itoa_no h _
  ·simp only [List.mem_append,List.mem_singleton,not_or]
   exact ⟨⟨itoa_no h _,h47⟩,itoa_no h _⟩
 ·simp
theorem spE_count (gu:T2) (ju:Int) (gl:T2) (jl:Int) (p:Int × Int):(spE gu ju gl jl p).count 58=1:=by
 unfold spE
 rw [List.count_append,List.count_append,List.count_eq_zero_of_not_mem (rat_no (by decide) _),List.count_eq_zero_of_not_mem (rat_no (by decide) _)]
 rfl
theorem join_count {L:List (List UInt8)} (h:∀x∈L,x.count 58=1):∀k,k≤L.length→(Lib.join (L.take k) [32]).count 58=k
 | 0,_=>by simp [Lib.join_nil]
 | k+1,hk=>by
  have ih:=join_count h k (by omega)
  have h2:=h L[k] (List.getElem_mem (by omega))
  rw [List.take_succ_eq_append_getElem (by omega),join_snoc,List.count_append,h2]
  split
  ·rename_i h0
   have:k=0:=by
    have:=congrArg List.length h0
    rw [List.length_take,List.length_nil] at this;omega
   subst this
   rfl
  ·rw [List.count_append,ih];rfl
theorem splT_count (tu tl:T2) (ju jl:Int):(splT tu ju tl jl).count 58=(spL tu ju tl jl).length:=by
 have:=join_count (L:=(spL tu ju tl jl).map (spE (fz tu ju) ju (fz tl jl) jl)) (fun x hx=>by
  obtain ⟨p,_,rfl⟩:=List.mem_map.1 hx
  exact spE_count _ _ _ _ _) _ (Nat.le_refl _)
 rw [List.take_length,List.length_map] at this
 exact this
theorem prj_head (j:Nat):prj (j:Int) (j+1)=(-(j:Int)) :: (prj (j:Int) (j+1)).tail:=by
 unfold prj
 rw [List.range_succ_eq_map]
 simp
theorem spL_ne {tu tl:T2} {ju jl:Int} (h:spOk tu ju tl jl=true):spL tu ju tl jl≠[]:=by
 have hk:=h
 obtain ⟨_,_,c1,c2,v3⟩:=spOk_iff.1 h
 have ht:=triB_iff.1 v3
 obtain ⟨ju,rfl⟩:=Int.eq_ofNat_of_zero_le ht.1.2.2.1
 obtain ⟨jl,rfl⟩:=Int.eq_ofNat_of_zero_le ht.1.1.1
 unfold spL
 rw [if_pos hk]
 unfold spPs sprows
 simp only [Int.toNat_natCast]
 rw [prj_head ju,List.flatMap_cons]
 unfold sprow
 rw [prj_head jl,List.filter_cons]
 rw [if_pos]
 ·simp
 ·rw [decide_eq_true_eq]
  have h1:=ht.2.2.2.1;have h2:=ht.2.2.2.2
  omega
theorem join_cons (a:List UInt8) (L:List (List UInt8)):∃r,Lib.join (a :: L) [32]=a++r:=by
 cases L with
 | nil=>exact ⟨[],by simp [Lib.join]⟩
 | cons b L=>exact ⟨[32]++Lib.join (b :: L) [32],by simp [Lib.join]⟩
theorem splT_first {tu tl:T2} {ju jl:Int} {p:Int × Int} {ps:List (Int × Int)} (h:spL tu ju tl jl=p :: ps):∃r,splT tu ju tl jl=spE (fz tu ju) ju (fz tl jl) jl p++r:=by
 unfold splT
 rw [h,List.map_cons]
 exact join_cons _ _
end
section
open Go.RowKit
attribute [local go_sem ↓] Go.wp_at_zero Go.wp_at_succ
def LevsPost (T:TypeId) (w:World) (B R N:Nat) (e:Ending) (w':World):Prop :=
 ∃s l j s' l' j':Int,e=.returned (.tuple #[.agg #[.int .i64 s,.int .i64 l,.int .i64 j],.agg #[.int .i64 s',.int .i64 l',.int .i64 j']])∧((-100≤j∧j≤100)∧(-100≤j'∧j'≤100))∧Rd T w' B R N∧w.grownBy w' (some R)
theorem results_ll {P:Program} {fn:Func} {p q:Tmp} {cs ds:Array Value} {ty:TypeId} {d:TypeDesc} (h:fn.results=#[.cell p ty,.cell q ty]) (tmps:Array Value) (w:World) (g k:Nat) {t:TypeId}
 (hp:tmps.getD p undef=.pointer (some ⟨g,0,none⟩)) (hq:tmps.getD q undef=.pointer (some ⟨k,0,none⟩)) (hg:Blk w g t cs) (hk:Blk w k t ds)
 (hu:P.underlying ty=some d) (hd:(match d with | .struct _ | .array _ _=>true | _=>false)=true) (hi:(P.info? ty).map (·.size)=some cs.size) (hi':(P.info? ty).map (·.size)=some ds.size) :
 (results fn tmps).run P w=.ok (.tuple #[.agg cs,.agg ds]) w:=by
 have hp':tmps[p]?.getD undef=.pointer (some ⟨g,0,none⟩):=by simpa using hp
 have hq':tmps[q]?.getD undef=.pointer (some ⟨k,0,none⟩):=by simpa using hq
 simp [results,h,hp',hq',asAddr,run_loadVar_row w g t ty cs (0,0) d hg hu hd hi,run_loadVar_row w k t ty ds (0,0) d hk hu hd hi']
theorem blk_set3 {w:World} {g:Nat} {t:TypeId} {a b c x y z:Value} (h:Blk w g t #[a,b,c]):Blk (((w.setCell ⟨g,0,none⟩ x).setCell ⟨g,1,none⟩ y).setCell ⟨g,2,none⟩ z) g t #[x,y,z]:=((h.set 0 x).set 1 y).set 2 z
theorem blk_far3 {w:World} {g p:Nat} {t:TypeId} {cs:Array Value} {x y z:Value} (h:Blk w g t cs) (hp:g≠p):Blk (((w.setCell ⟨p,0,none⟩ x).setCell ⟨p,1,none⟩ y).setCell ⟨p,2,none⟩ z) g t cs:=blk_far (blk_far (blk_far h hp) hp) hp
theorem rd_set3 {T:TypeId} {w:World} {B R N g:Nat} {x y z:Value} (h:Rd T w B R N) (hB:B≤g) (hR:g≠R):Rd T (((w.setCell ⟨g,0,none⟩ x).setCell ⟨g,1,none⟩ y).setCell ⟨g,2,none⟩ z) B R N :=
 ((h.setCell (p:=⟨g,0,none⟩) hB hR x).setCell (p:=⟨g,1,none⟩) hB hR y).setCell (p:=⟨g,2,none⟩) hB hR z
theorem gb_set3 {a w:World} {R g:Nat} {x y z:Value} (h:a.grownBy w (some R)) (hg:a.heap.size≤g):a.grownBy (((w.setCell ⟨g,0,none⟩ x).setCell ⟨g,1,none⟩ y).setCell ⟨g,2,none⟩ z) (some R) :=
 gb_setCell (p:=⟨g,2,none⟩) (gb_setCell (p:=⟨g,1,none⟩) (gb_setCell (p:=⟨g,0,none⟩) h (.inr hg) x) (.inr hg) y) (.inr hg) z
theorem l92Near_any (B R N:Nat) (w:World) (hN:N≤700000) (hR:Rd 124 w B R N) :
 Calls Tryz.prog 113 #[.pointer (some ⟨R,0,none⟩)] w (LevsPost 124 w B R (N+11)):=by
 have ltw:=hR.lt
 have lew:=hR.le
 have HR:=Lib.hid ((hR.alloc (.cells #[.int .i64 0,.int .i64 0,.int .i64 0] 31)).alloc (.cells #[.int .i64 0,.int .i64 0,.int .i64 0] 31));clear hR
 have HG:=Lib.hid (gb_alloc (gb_alloc (gb_refl w (some R)) (.cells #[.int .i64 0,.int .i64 0,.int .i64 0] 31)) (.cells #[.int .i64 0,.int .i64 0,.int .i64 0] 31))
 have H0:=Lib.hid ((Blk.new w 31 #[.int .i64 0,.int .i64 0,.int .i64 0]).alloc (.cells #[.int .i64 0,.int .i64 0,.int .i64 0] 31))
 have H1:=Lib.hid (Blk.new (w.alloc (.cells #[.int .i64 0,.int .i64 0,.int .i64 0] 31)) 31 #[.int .i64 0,.int .i64 0,.int .i64 0])
 rw [World.size_alloc] at H1
 go_enter Tryz.func113,Tryz.ntmps113
 go_wp2_with fail
 refine (pick_any B R _ 4 _ (by omega) (by omega) (by omega) HR.out).mono ?_
 rintro e w2 ⟨v2,rfl,hv2,hR2,hg2⟩
 have b2:=hv2.lt (by omega)
 replace H0:=Lib.hid (H0.out.gb hg2 (by omega))
 replace H1:=Lib.hid (H1.out.gb hg2 (by omega))
 replace HR:=Lib.hid hR2;replace HG:=Lib.hid (gb_trans HG.out hg2);clear hR2 hg2
 have le2:=HG.out.size
 go_wp2_with fail
 refine (pick_any B R _ 3 _ (by omega) (by omega) (by omega) HR.out).mono ?_
 rintro e w3 ⟨v3,rfl,hv3,hR3,hg3⟩
 have b3:=hv3.lt (by omega)
 replace H0:=Lib.hid (H0.out.gb hg3 (by omega))
 replace H1:=Lib.hid (H1.out.gb hg3 (by omega))
 replace HR:=Lib.hid hR3;replace HG:=Lib.hid (gb_trans HG.out hg3);clear hR3 hg3
 have le3:=HG.out.size
 go_wp2_with fail
 refine (pick_any B R _ 3 _ (by omega) (by omega) (by omega) HR.out).mono ?_
 rintro e w4 ⟨v4,rfl,hv4,hR4,hg4⟩
 have b4:=hv4.lt (by omega)
 replace H0:=Lib.hid (H0.out.gb hg4 (by omega))
 replace H1:=Lib.hid (H1.out.gb hg4 (by omega))
 replace HR:=Lib.hid hR4;replace HG:=Lib.hid (gb_trans HG.out hg4);clear hR4 hg4
 have le4:=HG.out.size
 have um:IntKind.i64.wrap (v3+v4-1)=v3+v4-1:=IntWalk.i64_in _ (by omega)
 go_wp2_with fail
 have hmb:0≤max 0 (min 2 (v3+v4-1))∧max 0 (min 2 (v3+v4-1))≤2:=by omega
 generalize max 0 (min 2 (v3+v4-1))=m at *
 have hv1:tvB (v2,v3)=true:=tvB_iff.2 ⟨⟨by simp;omega,by simp;omega⟩,by simp;omega,by simp;omega⟩
 have hln1:=lv_len hv1
 have HLO1:=Lib.hid (fun W=>specLevelsOf_any (v2,v3) W)
 unfold LevelsPost at HLO1
 have HJB1:=Lib.hid (fun j h=>And.intro (lv_ok hv1 (j:=j) h).1 (lv_ok hv1 (j:=j) h).2.1);clear hv1
 obtain ⟨js1,hjs1⟩:∃js,lvJs (v2,v3)=js:=⟨_,rfl⟩
 obtain ⟨n1,hnn1⟩:∃n,js1.length=n:=⟨_,rfl⟩
 rw [hjs1] at HLO1 hln1 HJB1
 rw [hnn1] at HLO1 hln1
 have HN1:=Lib.hid hnn1;clear hjs1 hnn1
 have HO1b:R<w4.heap.size:=HR.out.lt
 refine (HLO1.out _).mono ?_
 rintro e w5 ⟨⟨A1,c1,rfl,hr1⟩,hg5⟩
 replace H0:=Lib.hid (H0.out.sub hg5)
 replace H1:=Lib.hid (H1.out.sub hg5)
 replace HR:=Lib.hid (HR.out.below hg5);replace HG:=Lib.hid (gb_below HG.out hg5);clear hg5
 have le5:=HG.out.size
 have HO1:=Lib.hid hr1;clear hr1 HLO1
 have hv2:tvB (v2,m)=true:=tvB_iff.2 ⟨⟨by simp;omega,by simp;omega⟩,by simp;omega,by simp;omega⟩
 have hln2:=lv_len hv2
 have HLO2:=Lib.hid (fun W=>specLevelsOf_any (v2,m) W)
 unfold LevelsPost at HLO2
 have HJB2:=Lib.hid (fun j h=>And.intro (lv_ok hv2 (j:=j) h).1 (lv_ok hv2 (j:=j) h).2.1);clear hv2
 obtain ⟨js2,hjs2⟩:∃js,lvJs (v2,m)=js:=⟨_,rfl⟩
 obtain ⟨n2,hnn2⟩:∃n,js2.length=n:=⟨_,rfl⟩
 rw [hjs2] at HLO2 hln2 HJB2
 rw [hnn2] at HLO2 hln2
 have HN2:=Lib.hid hnn2;clear hjs2 hnn2
 have HO2b:R<w5.heap.size:=HR.out.lt
 go_wp2_with fail
 refine (HLO2.out _).mono ?_
 rintro e w6 ⟨⟨A2,c2,rfl,hr2⟩,hg6⟩
 replace H0:=Lib.hid (H0.out.sub hg6)
 replace H1:=Lib.hid (H1.out.sub hg6)
 replace HO1:=Lib.hid (own_below HO1.out hg6)
 replace HR:=Lib.hid (HR.out.below hg6);replace HG:=Lib.hid (gb_below HG.out hg6);clear hg6
 have le6:=HG.out.size
 have HO2:=Lib.hid hr2;clear hr2 HLO2
 go_wp2_with fail
 refine (pick_any B R _ (n1:Int) _ (by omega) (by omega) (by omega) HR.out).mono ?_
 rintro e w7 ⟨v7,rfl,hv7,hR7,hg7⟩
 have b7:=hv7.lt (by omega)
 replace H0:=Lib.hid (H0.out.gb hg7 (by omega))
 replace H1:=Lib.hid (H1.out.gb hg7 (by omega))
 replace HO1:=Lib.hid (own_gb HO1.out hg7 HO1b)
 replace HO2:=Lib.hid (own_gb HO2.out hg7 HO2b)
 replace HR:=Lib.hid hR7;replace HG:=Lib.hid (gb_trans HG.out hg7);clear hR7 hg7
 have le7:=HG.out.size
 obtain ⟨i1,rfl⟩:∃i:Nat,v7=i:=⟨v7.toNat,by omega⟩
 obtain ⟨bb1,off1,j1,rfl,hb1,r1,r2,r3,hgj⟩:=(own_reads HO1.out).lev HN1.out (k:=i1) (by omega)
 have hjb1:=HJB1.out _ (List.mem_of_getElem? hgj.out);clear hgj
 have i0:(0:Int)≤(i1:Int):=by omega
 have i1:(i1:Int)<(n1:Int):=by omega
 simp only at r1 r2
 have hzHX:w.heap.size+1<w7.heap.size:=H1.out.lt
 have hrzHX:R<w7.heap.size:=HR.out.lt
 replace H0:=Lib.hid (H0.out.alloc (.cells #[.int .i64 v2,.int .i64 v3,.int .i64 j1] 31))
 replace H1:=Lib.hid (H1.out.alloc (.cells #[.int .i64 v2,.int .i64 v3,.int .i64 j1] 31))
 replace HO1:=Lib.hid (HO1.out.alloc (.cells #[.int .i64 v2,.int .i64 v3,.int .i64 j1] 31))
 replace HO2:=Lib.hid (HO2.out.alloc (.cells #[.int .i64 v2,.int .i64 v3,.int .i64 j1] 31))
 replace HR:=Lib.hid (HR.out.alloc (.cells #[.int .i64 v2,.int .i64 v3,.int .i64 j1] 31));replace HG:=Lib.hid (gb_alloc HG.out (.cells #[.int .i64 v2,.int .i64 v3,.int .i64 j1] 31))
 have HX:=Lib.hid (Blk.new w7 31 #[.int .i64 v2,.int .i64 v3,.int .i64 j1])
 obtain ⟨gHX,hgHX⟩:∃g,w7.heap.size=g:=⟨_,rfl⟩
 rw [hgHX] at HX
 go_wp2_with fail
 refine (pick_any B R _ (n2:Int) _ (by omega) (by omega) (by omega) HR.out).mono ?_
 rintro e w8 ⟨v8,rfl,hv8,hR8,hg8⟩
 have b8:=hv8.lt (by omega)
 clear r1 r2 r3 i0 i1
 replace H0:=Lib.hid (H0.out.gb hg8 (by omega))
 replace H1:=Lib.hid (H1.out.gb hg8 (by omega))
 replace HX:=Lib.hid (HX.out.gb hg8 (by omega))
 replace HO1:=Lib.hid (own_gb HO1.out hg8 HO1b)
 replace HO2:=Lib.hid (own_gb HO2.out hg8 HO2b)
 replace HR:=Lib.hid hR8;replace HG:=Lib.hid (gb_trans HG.out hg8);clear hR8 hg8
 have le8:=HG.out.size
 obtain ⟨i2,rfl⟩:∃i:Nat,v8=i:=⟨v8.toNat,by omega⟩
 obtain ⟨bb2,off2,j2,rfl,hb2,r1,r2,r3,hgj⟩:=(own_reads HO2.out).lev HN2.out (k:=i2) (by omega)
 have hjb2:=HJB2.out _ (List.mem_of_getElem? hgj.out);clear hgj
 have i0:(0:Int)≤(i2:Int):=by omega
 have i1:(i2:Int)<(n2:Int):=by omega
 simp only at r1 r2
 have hzHY:w.heap.size+1<w8.heap.size:=H1.out.lt
 have hxy:gHX<w8.heap.size:=HX.out.lt
 have hrzHY:R<w8.heap.size:=HR.out.lt
 replace H0:=Lib.hid (H0.out.alloc (.cells #[.int .i64 v2,.int .i64 m,.int .i64 j2] 31))
 replace H1:=Lib.hid (H1.out.alloc (.cells #[.int .i64 v2,.int .i64 m,.int .i64 j2] 31))
 replace HX:=Lib.hid (HX.out.alloc (.cells #[.int .i64 v2,.int .i64 m,.int .i64 j2] 31))
 replace HO1:=Lib.hid (HO1.out.alloc (.cells #[.int .i64 v2,.int .i64 m,.int .i64 j2] 31))
 replace HO2:=Lib.hid (HO2.out.alloc (.cells #[.int .i64 v2,.int .i64 m,.int .i64 j2] 31))
 replace HR:=Lib.hid (HR.out.alloc (.cells #[.int .i64 v2,.int .i64 m,.int .i64 j2] 31));replace HG:=Lib.hid (gb_alloc HG.out (.cells #[.int .i64 v2,.int .i64 m,.int .i64 j2] 31))
 have HY:=Lib.hid (Blk.new w8 31 #[.int .i64 v2,.int .i64 m,.int .i64 j2])
 obtain ⟨gHY,hgHY⟩:∃g,w8.heap.size=g:=⟨_,rfl⟩
 rw [hgHY] at HY
 go_wp2_with fail
 refine (pick_any B R _ 24 _ (by omega) (by omega) (by omega) HR.out).mono ?_
 rintro e w9 ⟨v9,rfl,hv9,hR9,hg9⟩
 have b9:=hv9.lt (by omega)
 clear r1 r2 r3 i0 i1
 replace H0:=Lib.hid (H0.out.gb hg9 (by omega))
 replace H1:=Lib.hid (H1.out.gb hg9 (by omega))
 replace HX:=Lib.hid (HX.out.gb hg9 (by omega))
 replace HY:=Lib.hid (HY.out.gb hg9 (by omega))
 replace HO1:=Lib.hid (own_gb HO1.out hg9 HO1b)
 replace HO2:=Lib.hid (own_gb HO2.out hg9 HO2b)
 replace HR:=Lib.hid hR9;replace HG:=Lib.hid (gb_trans HG.out hg9);clear hR9 hg9
 have le9:=HG.out.size
 by_cases h0:v9=0
 ·subst h0
  go_wp2_with fail
  refine (l92Level_any B R _ _ (by omega) HR.out).mono ?_
  rintro e w10 ⟨s9,l9,j9,rfl,hbd9,hR10,hg10⟩
  replace H0:=Lib.hid (H0.out.gb hg10 (by omega))
  replace H1:=Lib.hid (H1.out.gb hg10 (by omega))
  replace HX:=Lib.hid (HX.out.gb hg10 (by omega))
  replace HY:=Lib.hid (HY.out.gb hg10 (by omega))
  replace HO1:=Lib.hid (own_gb HO1.out hg10 HO1b)
  replace HO2:=Lib.hid (own_gb HO2.out hg10 HO2b)
  replace HR:=Lib.hid hR10;replace HG:=Lib.hid (gb_trans HG.out hg10);clear hR10 hg10
  have le10:=HG.out.size
  obtain ⟨f1,f2,f3,f4,f5,f6⟩:=blk3 HY.out
  replace HX:=Lib.hid (blk_far3 (p:=gHY) (x:=.int .i64 s9) (y:=.int .i64 l9) (z:=.int .i64 j9) HX.out (by omega))
  replace H0:=Lib.hid (blk_far3 (p:=gHY) (x:=.int .i64 s9) (y:=.int .i64 l9) (z:=.int .i64 j9) H0.out (by omega))
  replace H1:=Lib.hid (blk_far3 (p:=gHY) (x:=.int .i64 s9) (y:=.int .i64 l9) (z:=.int .i64 j9) H1.out (by omega))
  replace HR:=Lib.hid (((HR.out.setCell (p:=⟨gHY,0,none⟩) (by show B≤gHY;omega) (by show gHY≠R;omega) (.int .i64 s9)).setCell (p:=⟨gHY,1,none⟩) (by show B≤gHY;omega) (by show gHY≠R;omega) (.int .i64 l9)).setCell (p:=⟨gHY,2,none⟩) (by show B≤gHY;omega) (by show gHY≠R;omega) (.int .i64 j9))
  replace HG:=Lib.hid (gb_setCell (p:=⟨gHY,2,none⟩) (gb_setCell (p:=⟨gHY,1,none⟩) (gb_setCell (p:=⟨gHY,0,none⟩) HG.out (.inr (by show w.heap.size≤gHY;omega)) (.int .i64 s9)) (.inr (by show w.heap.size≤gHY;omega)) (.int .i64 l9)) (.inr (by show w.heap.size≤gHY;omega)) (.int .i64 j9))
  replace HY:=Lib.hid (blk_set3 (x:=.int .i64 s9) (y:=.int .i64 l9) (z:=.int .i64 j9) HY.out)
  obtain ⟨W9,hW9⟩:∃W9,((w10.setCell ⟨gHY,0,none⟩ (.int .i64 s9)).setCell ⟨gHY,1,none⟩ (.int .i64 l9)).setCell ⟨gHY,2,none⟩ (.int .i64 j9)=W9:=⟨_,rfl⟩
  go_wp2_with fail
  rw [hW9] at HX H0 H1 HY HR HG
  clear f1 f2 f3 f4 f5 f6 hW9
  obtain ⟨e1,e2,e3,e4,e5,e6⟩:=blk3 HX.out
  obtain ⟨f1,f2,f3,f4,f5,f6⟩:=blk3 HY.out
  obtain ⟨u1,u2,u3,u4,u5,u6⟩:=blk3 H0.out
  obtain ⟨q1,q2,q3,q4,q5,q6⟩:=blk3 H1.out
  replace HR:=Lib.hid (HR.out.more (N':=N+11) (by omega))
  go_wp2_with fail
  go_region
  all_goals
   go_wp2_with fail
   refine bodyPost_ret (results_ll (t:=31) (cs:=#[.int .i64 v2,.int .i64 v3,.int .i64 j1]) (ds:=#[.int .i64 s9,.int .i64 l9,.int .i64 j9]) rfl _ _ w.heap.size (w.heap.size+1) rfl rfl ?z0 ?z1 Tryz.underlying31 rfl (by kernel_rfl) (by kernel_rfl)) rfl ?_
   case z0=>repeat (first | with_reducible exact H0.out | with_reducible refine blk_far3 ?_ (by omega) | with_reducible refine blk_far ?_ (by omega) | with_reducible refine blk_set3 (a:=.int .i64 0) (b:=.int .i64 0) (c:=.int .i64 0) ?_ | with_reducible refine Blk.drew ?_)
   case z1=>repeat (first | with_reducible exact H1.out | with_reducible refine blk_far3 ?_ (by omega) | with_reducible refine blk_far ?_ (by omega) | with_reducible refine blk_set3 (a:=.int .i64 0) (b:=.int .i64 0) (c:=.int .i64 0) ?_ | with_reducible refine Blk.drew ?_)
   refine ⟨_,_,_,_,_,_,rfl,by omega,?_,?_⟩
   ·repeat (first | with_reducible exact HR.out | with_reducible refine rd_set3 ?_ (by omega) (by omega) | with_reducible refine Rd.drew ?_)
   ·repeat (first | with_reducible exact HG.out | with_reducible refine gb_set3 ?_ (by omega) | with_reducible refine gb_drew ?_)
 by_cases h1:v9=1
 ·subst h1
  obtain ⟨e1,e2,e3,e4,e5,e6⟩:=blk3 HX.out
  replace HY:=Lib.hid (blk_far (p:=gHX) (i:=2) (u:=(.int .i64 (j1+1))) HY.out (by omega))
  replace H0:=Lib.hid (blk_far (p:=gHX) (i:=2) (u:=(.int .i64 (j1+1))) H0.out (by omega))
  replace H1:=Lib.hid (blk_far (p:=gHX) (i:=2) (u:=(.int .i64 (j1+1))) H1.out (by omega))
  replace HR:=Lib.hid (HR.out.setCell (p:=⟨gHX,2,none⟩) (by show B≤gHX;omega) (by show gHX≠R;omega) (.int .i64 (j1+1)))
  replace HG:=Lib.hid (gb_setCell (p:=⟨gHX,2,none⟩) HG.out (.inr (by show w.heap.size≤gHX;omega)) (.int .i64 (j1+1)))
  replace HX:=Lib.hid (HX.out.set 2 (.int .i64 (j1+1)))
  have uj:IntKind.i64.wrap (j1+1)=j1+1:=IntWalk.i64_in _ (by omega)
  obtain ⟨W9,hW9⟩:∃W9,w9.setCell ⟨gHX,2,none⟩ (.int .i64 (j1+1))=W9:=⟨_,rfl⟩
  go_wp2_with fail
  rw [hW9] at HX H0 H1 HY HR HG
  clear e1 e2 e3 e4 e5 e6 hW9 uj
  obtain ⟨e1,e2,e3,e4,e5,e6⟩:=blk3 HX.out
  obtain ⟨f1,f2,f3,f4,f5,f6⟩:=blk3 HY.out
  obtain ⟨u1,u2,u3,u4,u5,u6⟩:=blk3 H0.out
  obtain ⟨q1,q2,q3,q4,q5,q6⟩:=blk3 H1.out
  replace HR:=Lib.hid (HR.out.more (N':=N+11) (by omega))
  go_wp2_with fail
  go_region
  all_goals
   go_wp2_with fail
   refine bodyPost_ret (results_ll (t:=31) (cs:=#[.int .i64 v2,.int .i64 v3,.int .i64 (j1+1)]) (ds:=#[.int .i64 v2,.int .i64 m,.int .i64 j2]) rfl _ _ w.heap.size (w.heap.size+1) rfl rfl ?z0 ?z1 Tryz.underlying31 rfl (by kernel_rfl) (by kernel_rfl)) rfl ?_
   case z0=>repeat (first | with_reducible exact H0.out | with_reducible refine blk_far3 ?_ (by omega) | with_reducible refine blk_far ?_ (by omega) | with_reducible refine blk_set3 (a:=.int .i64 0) (b:=.int .i64 0) (c:=.int .i64 0) ?_ | with_reducible refine Blk.drew ?_)
   case z1=>repeat (first | with_reducible exact H1.out | with_reducible refine blk_far3 ?_ (by omega) | with_reducible refine blk_far ?_ (by omega) | with_reducible refine blk_set3 (a:=.int .i64 0) (b:=.int .i64 0) (c:=.int .i64 0) ?_ | with_reducible refine Blk.drew ?_)
   refine ⟨_,_,_,_,_,_,rfl,by omega,?_,?_⟩
   ·repeat (first | with_reducible exact HR.out | with_reducible refine rd_set3 ?_ (by omega) (by omega) | with_reducible refine Rd.drew ?_)
   ·repeat (first | with_reducible exact HG.out | with_reducible refine gb_set3 ?_ (by omega) | with_reducible refine gb_drew ?_)
 have e0:(v9==0)=false:=by simpa using h0
 have e1:(v9==1)=false:=by simpa using h1
 clear h0 h1
 obtain ⟨e1,e2,e3,e4,e5,e6⟩:=blk3 HX.out
 obtain ⟨f1,f2,f3,f4,f5,f6⟩:=blk3 HY.out
 obtain ⟨u1,u2,u3,u4,u5,u6⟩:=blk3 H0.out
 obtain ⟨q1,q2,q3,q4,q5,q6⟩:=blk3 H1.out
 replace HR:=Lib.hid (HR.out.more (N':=N+11) (by omega))
 go_wp2_with fail
 go_region
 all_goals
  go_wp2_with fail
  refine bodyPost_ret (results_ll (t:=31) (cs:=#[.int .i64 v2,.int .i64 v3,.int .i64 j1]) (ds:=#[.int .i64 v2,.int .i64 m,.int .i64 j2]) rfl _ _ w.heap.size (w.heap.size+1) rfl rfl ?z0 ?z1 Tryz.underlying31 rfl (by kernel_rfl) (by kernel_rfl)) rfl ?_
  case z0=>repeat (first | with_reducible exact H0.out | with_reducible refine blk_far3 ?_ (by omega) | with_reducible refine blk_far ?_ (by omega) | with_reducible refine blk_set3 (a:=.int .i64 0) (b:=.int .i64 0) (c:=.int .i64 0) ?_ | with_reducible refine Blk.drew ?_)
  case z1=>repeat (first | with_reducible exact H1.out | with_reducible refine blk_far3 ?_ (by omega) | with_reducible refine blk_far ?_ (by omega) | with_reducible refine blk_set3 (a:=.int .i64 0) (b:=.int .i64 0) (c:=.int .i64 0) ?_ | with_reducible refine Blk.drew ?_)
  refine ⟨_,_,_,_,_,_,rfl,by omega,?_,?_⟩
  ·repeat (first | with_reducible exact HR.out | with_reducible refine rd_set3 ?_ (by omega) (by omega) | with_reducible refine Rd.drew ?_)
  ·repeat (first | with_reducible exact HG.out | with_reducible refine gb_set3 ?_ (by omega) | with_reducible refine gb_drew ?_)
theorem l92Split_any (B R N:Nat) (w:World) (hN:N≤600000) (hR:Rd 124 w B R N) :
 Calls Tryz.prog 77 #[.pointer (some ⟨R,0,none⟩)] w (LevsPost 124 w B R (N+13)):=by
 have ltw:=hR.lt
 have lew:=hR.le
 have HR:=Lib.hid ((hR.alloc (.cells #[.int .i64 0,.int .i64 0,.int .i64 0] 31)).alloc (.cells #[.int .i64 0,.int .i64 0,.int .i64 0] 31));clear hR
 have HG:=Lib.hid (gb_alloc (gb_alloc (gb_refl w (some R)) (.cells #[.int .i64 0,.int .i64 0,.int .i64 0] 31)) (.cells #[.int .i64 0,.int .i64 0,.int .i64 0] 31))
 have H0:=Lib.hid ((Blk.new w 31 #[.int .i64 0,.int .i64 0,.int .i64 0]).alloc (.cells #[.int .i64 0,.int .i64 0,.int .i64 0] 31))
 have H1:=Lib.hid (Blk.new (w.alloc (.cells #[.int .i64 0,.int .i64 0,.int .i64 0] 31)) 31 #[.int .i64 0,.int .i64 0,.int .i64 0])
 rw [World.size_alloc] at H1
 go_enter Tryz.func77,Tryz.ntmps77
 go_wp2_with fail
 refine (l92Near_any B R _ _ (by omega) HR.out).mono ?_
 rintro e w2 ⟨a,b,c,a',b',c',rfl,hbd,hR2,hg2⟩
 replace H0:=Lib.hid (H0.out.gb hg2 (by omega))
 replace H1:=Lib.hid (H1.out.gb hg2 (by omega))
 replace HR:=Lib.hid hR2;replace HG:=Lib.hid (gb_trans HG.out hg2);clear hR2 hg2
 have lt2:=H1.out.lt
 have lr2:=HR.out.lt
 replace H0:=Lib.hid ((H0.out.alloc (.cells #[.int .i64 a,.int .i64 b,.int .i64 c] 31)).alloc (.cells #[.int .i64 a',.int .i64 b',.int .i64 c'] 31))
 replace H1:=Lib.hid ((H1.out.alloc (.cells #[.int .i64 a,.int .i64 b,.int .i64 c] 31)).alloc (.cells #[.int .i64 a',.int .i64 b',.int .i64 c'] 31))
 replace HR:=Lib.hid ((HR.out.alloc (.cells #[.int .i64 a,.int .i64 b,.int .i64 c] 31)).alloc (.cells #[.int .i64 a',.int .i64 b',.int .i64 c'] 31))
 replace HG:=Lib.hid (gb_alloc (gb_alloc HG.out (.cells #[.int .i64 a,.int .i64 b,.int .i64 c] 31)) (.cells #[.int .i64 a',.int .i64 b',.int .i64 c'] 31))
 have HX:=Lib.hid ((Blk.new w2 31 #[.int .i64 a,.int .i64 b,.int .i64 c]).alloc (.cells #[.int .i64 a',.int .i64 b',.int .i64 c'] 31))
 have HY:=Lib.hid (Blk.new (w2.alloc (.cells #[.int .i64 a,.int .i64 b,.int .i64 c] 31)) 31 #[.int .i64 a',.int .i64 b',.int .i64 c'])
 rw [World.size_alloc] at HY
 obtain ⟨W3,hW3⟩:∃W3,(w2.alloc (.cells #[.int .i64 a,.int .i64 b,.int .i64 c] 31)).alloc (.cells #[.int .i64 a',.int .i64 b',.int .i64 c'] 31)=W3:=⟨_,rfl⟩
 rw [hW3] at H0 H1 HR HG HX HY
 obtain ⟨e1,e2,e3,e4,e5,e6⟩:=blk3 HX.out
 obtain ⟨f1,f2,f3,f4,f5,f6⟩:=blk3 HY.out
 have HT:=Lib.hid (fun W=>specTriangle_all c c' 2 W)
 have hzl:w.heap.size+1<W3.heap.size:=H1.out.lt
 cases tr:triB c c' 2
 case true =>
  rw [tr] at HT
  go_wp2_with fail
  refine (HT.out _).mono ?_
  rintro e w4 ⟨rfl,rfl⟩
  obtain ⟨u1,u2,u3,u4,u5,u6⟩:=blk3 H0.out
  obtain ⟨q1,q2,q3,q4,q5,q6⟩:=blk3 H1.out
  replace HR:=Lib.hid (HR.out.more (N':=N+13) (by omega))
  go_wp2_with fail
  go_region
  all_goals
   go_wp2_with fail
   refine bodyPost_ret (results_ll (t:=31) (cs:=#[.int .i64 a,.int .i64 b,.int .i64 c]) (ds:=#[.int .i64 a',.int .i64 b',.int .i64 c']) rfl _ _ w.heap.size (w.heap.size+1) rfl rfl ?z0 ?z1 Tryz.underlying31 rfl (by kernel_rfl) (by kernel_rfl)) rfl ?_
   case z0=>repeat (first | with_reducible exact H0.out | with_reducible refine blk_far3 ?_ (by omega) | with_reducible refine blk_far ?_ (by omega) | with_reducible refine blk_set3 (a:=.int .i64 0) (b:=.int .i64 0) (c:=.int .i64 0) ?_ | with_reducible refine Blk.drew ?_)
   case z1=>repeat (first | with_reducible exact H1.out | with_reducible refine blk_far3 ?_ (by omega) | with_reducible refine blk_far ?_ (by omega) | with_reducible refine blk_set3 (a:=.int .i64 0) (b:=.int .i64 0) (c:=.int .i64 0) ?_ | with_reducible refine Blk.drew ?_)
   refine ⟨_,_,_,_,_,_,rfl,by omega,?_,?_⟩
   ·repeat (first | with_reducible exact HR.out | with_reducible refine rd_set3 ?_ (by omega) (by omega) | with_reducible refine Rd.drew ?_)
   ·repeat (first | with_reducible exact HG.out | with_reducible refine gb_set3 ?_ (by omega) | with_reducible refine gb_drew ?_)
 rw [tr] at HT
 go_wp2_with fail
 refine (HT.out _).mono ?_
 rintro e w4 ⟨rfl,rfl⟩
 go_wp2_with fail
 refine (pick_any B R _ 6 _ (by omega) (by omega) (by omega) HR.out).mono ?_
 rintro e w5 ⟨v5,rfl,hv5,hR5,hg5⟩
 have b5:=hv5.lt (by omega)
 have lr3:R<w.heap.size+1:=by omega
 replace H0:=Lib.hid (H0.out.gb hg5 (by omega))
 replace H1:=Lib.hid (H1.out.gb hg5 (by omega))
 replace HX:=Lib.hid (HX.out.gb hg5 (by omega))
 replace HY:=Lib.hid (HY.out.gb hg5 (by omega))
 replace HR:=Lib.hid hR5;replace HG:=Lib.hid (gb_trans HG.out hg5);clear hR5 hg5 hv5
 clear e1 e2 e3 e4 e5 e6 f1 f2 f3 f4 f5 f6 hW3
 by_cases h0:0<v5
 ·go_wp2_with fail
  refine (pick_any B R _ 2 _ (by omega) (by omega) (by omega) HR.out).mono ?_
  rintro e w6 ⟨v6,rfl,hv6,hR6,hg6⟩
  have b6:=hv6.lt (by omega)
  replace H0:=Lib.hid (H0.out.gb hg6 (by omega))
  replace H1:=Lib.hid (H1.out.gb hg6 (by omega))
  replace HR:=Lib.hid hR6;replace HG:=Lib.hid (gb_trans HG.out hg6);clear hR6 hg6 hv6
  have u7:IntKind.i64.wrap (2*v6)=2*v6:=IntWalk.i64_in _ (by omega)
  have u8:IntKind.i64.wrap (1+2*v6)=1+2*v6:=IntWalk.i64_in _ (by omega)
  obtain ⟨u1,u2,u3,u4,u5,u6⟩:=blk3 H0.out
  obtain ⟨q1,q2,q3,q4,q5,q6⟩:=blk3 H1.out
  replace HR:=Lib.hid (HR.out.more (N':=N+13) (by omega))
  go_wp2_with fail
  refine bodyPost_ret (results_ll (t:=31) (cs:=#[.int .i64 1,.int .i64 1,.int .i64 (1+2*v6)]) (ds:=#[.int .i64 1,.int .i64 0,.int .i64 1]) rfl _ _ w.heap.size (w.heap.size+1) rfl rfl ?z0 ?z1 Tryz.underlying31 rfl (by kernel_rfl) (by kernel_rfl)) rfl ?_
  case z0=>repeat (first | with_reducible exact H0.out | with_reducible refine blk_far3 ?_ (by omega) | with_reducible refine blk_far ?_ (by omega) | with_reducible refine blk_set3 (a:=.int .i64 0) (b:=.int .i64 0) (c:=.int .i64 0) ?_ | with_reducible refine Blk.drew ?_)
  case z1=>repeat (first | with_reducible exact H1.out | with_reducible refine blk_far3 ?_ (by omega) | with_reducible refine blk_far ?_ (by omega) | with_reducible refine blk_set3 (a:=.int .i64 0) (b:=.int .i64 0) (c:=.int .i64 0) ?_ | with_reducible refine Blk.drew ?_)
  refine ⟨_,_,_,_,_,_,rfl,by omega,?_,?_⟩
  ·repeat (first | with_reducible exact HR.out | with_reducible refine rd_set3 ?_ (by omega) (by omega) | with_reducible refine Rd.drew ?_)
  ·repeat (first | with_reducible exact HG.out | with_reducible refine gb_set3 ?_ (by omega) | with_reducible refine gb_drew ?_)
 ·obtain ⟨e1,e2,e3,e4,e5,e6⟩:=blk3 HX.out
  obtain ⟨f1,f2,f3,f4,f5,f6⟩:=blk3 HY.out
  obtain ⟨u1,u2,u3,u4,u5,u6⟩:=blk3 H0.out
  obtain ⟨q1,q2,q3,q4,q5,q6⟩:=blk3 H1.out
  replace HR:=Lib.hid (HR.out.more (N':=N+13) (by omega))
  go_wp2_with fail
  go_region
  all_goals
   go_wp2_with fail
   refine bodyPost_ret (results_ll (t:=31) (cs:=#[.int .i64 a,.int .i64 b,.int .i64 c]) (ds:=#[.int .i64 a',.int .i64 b',.int .i64 c']) rfl _ _ w.heap.size (w.heap.size+1) rfl rfl ?z0 ?z1 Tryz.underlying31 rfl (by kernel_rfl) (by kernel_rfl)) rfl ?_
   case z0=>repeat (first | with_reducible exact H0.out | with_reducible refine blk_far3 ?_ (by omega) | with_reducible refine blk_far ?_ (by omega) | with_reducible refine blk_set3 (a:=.int .i64 0) (b:=.int .i64 0) (c:=.int .i64 0) ?_ | with_reducible refine Blk.drew ?_)
   case z1=>repeat (first | with_reducible exact H1.out | with_reducible refine blk_far3 ?_ (by omega) | with_reducible refine blk_far ?_ (by omega) | with_reducible refine blk_set3 (a:=.int .i64 0) (b:=.int .i64 0) (c:=.int .i64 0) ?_ | with_reducible refine Blk.drew ?_)
   refine ⟨_,_,_,_,_,_,rfl,by omega,?_,?_⟩
   ·repeat (first | with_reducible exact HR.out | with_reducible refine rd_set3 ?_ (by omega) (by omega) | with_reducible refine Rd.drew ?_)
   ·repeat (first | with_reducible exact HG.out | with_reducible refine gb_set3 ?_ (by omega) | with_reducible refine gb_drew ?_)
end
end
end
end Go.Proofs.YtlgdndnaiogooaaGreatDoor
