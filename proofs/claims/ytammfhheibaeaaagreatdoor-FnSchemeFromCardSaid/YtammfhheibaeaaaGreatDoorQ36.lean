/- Parts of the proof of : Df. -/
import Derived.Test.YtammfhheibaeaaaGreatDoorQ27
import Derived.Test.YtammfhheibaeaaaGreatDoorQ30
set_option maxHeartbeats 20000000
set_option maxRecDepth 1000000
set_option linter.unusedSimpArgs false
set_option linter.unusedVariables false
namespace Go.Proofs.YtammfhheibaeaaaGreatDoor
section
open Go.RowKit Go.Lib
attribute [local go_sem ↓] Go.wp_at_zero Go.wp_at_succ
theorem below_drew2 {B:Nat} {a w:World} (h:Below B a w):Below B a w.drew:=⟨h.os,h.tape,h.output,h.size,h.block⟩
def strs (ls:List (List UInt8)):Array Value:=(ls.map fun l=>Value.string (bs l)).toArray
theorem strs_at {ls:List (List UInt8)} {i:Nat} (h:i<ls.length):∃l,l∈ls∧(strs ls)[i]?=some (.string (bs l)) :=
 ⟨ls[i],List.getElem_mem h,by simp [strs,h]⟩
def OfPost (T:TypeId) (w:World) (B R N:Nat) (ls:List (List UInt8)) (e:Ending) (w':World):Prop :=
 ∃l,l∈ls∧e=.returned (.string (bs l))∧Rd T w' B R (N+1)∧w.grownBy w' (some R)
theorem of_any (B R N g n:Nat) (ls:List (List UInt8)) (w:World) (hN:N≤800000) (hn:ls.length=n) (h1:1≤n) (h2:n≤100) (hR:Rd 79 w B R N) (hg:Blk w g 9 (strs ls)) (hgR:g≠R) :
 Calls Tryz.prog 22 #[.pointer (some ⟨R,0,none⟩),.slice (some ⟨g,0,none⟩) n n] w (OfPost 79 w B R N ls):=by
 have HR:=Lib.hid hR;have HG:=Lib.hid hg;have HN:=Lib.hid hn
 clear hR hg hn
 go_enter Tryz.func22,Tryz.ntmps22
 go_wp2_with fail
 refine (pick_any B R N n _ (by omega) (by omega) (by omega) HR.out).mono ?_
 rintro e w1 ⟨v,rfl,hv1,hR1,hg1⟩
 have b1:=hv1.lt (by omega)
 have HR1:=Lib.hid hR1;have HG1:=Lib.hid hg1
 obtain ⟨j,rfl⟩:∃j:Nat,v=j:=⟨v.toNat,by omega⟩
 obtain ⟨l,hl,hat⟩:=strs_at (ls:=ls) (i:=j) (by have:=HN.out;omega)
 have hc:w1.cell? ⟨g,j,none⟩=some (.string (bs l)):=((HG.out.gb hg1 hgR).cell j).trans hat
 have HL:=Lib.hid hl
 clear hl hat hR1 hg1 hv1
 have i1:(0:Int)≤(j:Int):=by omega
 have i2:(j:Int)<(n:Int):=by omega
 obtain ⟨O,hO⟩:∃O,bs l=O:=⟨_,rfl⟩
 rw [hO] at hc
 have HO:=Lib.hid hO;clear hO
 go_wp2_with fail
 go_ret
 exact ⟨l,HL.out,by rw [HO.out];rfl,HR1.out,HG1.out⟩
def DfPost (w:World) (e:Ending) (w':World):Prop:=∃l,e=.returned (.string (bs l))∧l.length≤1000∧Below w.heap.size w w'
theorem scT_len240 (ns:List T3):(scT ns).length≤240:=by
 cases hv:svB ns
 ·unfold scT;rw [hv];simp
 ·exact scT_len12 hv
theorem DrawSchemeFrom_any (A:Option Addr) (n c:Nat) (w:World) (hm:n≤140737488355328) (hc:n≤c) (hb:Bytes w w.heap.size A n) :
 Calls Tryz.prog 10 #[.slice A n c] w (DfPost w):=by
 have HB:=Lib.hid hb;clear hb
 go_enter Tryz.func10,Tryz.ntmps10
 go_wp2_with fail
 refine (l6Open_any A n c w hm hc HB.out).mono ?_
 rintro e w1 ⟨rfl,hR1,hb1⟩
 have HB1:=Lib.hid hb1;have HR1:=Lib.hid hR1;clear hb1 hR1
 go_wp2_with fail
 refine (l93Scheme_any w.heap.size w.heap.size 0 w1 (by omega) HR1.out).mono ?_
 rintro e w2 ⟨A2,c2,n2,ns,rfl,⟨hnc,hts,h8,hr⟩,hR2,hg2⟩
 have HG2:=Lib.hid (below_of_gb HB1.out hg2 HB1.out.size (Nat.le_refl _))
 have HR2:=Lib.hid hR2
 have HT:=Lib.hid hts
 have HL:=Lib.hid hr
 clear hg2 hR2 hr hts HB1 HR1
 go_wp2_with fail
 refine (specSchemeText_any A2 n2 c2 ns w2 (by omega) HT.out HL.out).mono ?_
 rintro e w3 ⟨rfl,hb3⟩
 have HR3:=Lib.hid (HR2.out.sub hb3 HR2.out.lt)
 have HB3:=Lib.hid (HG2.out.trans (hb3.mono HG2.out.size))
 have hlt:=HR3.out.lt
 clear hb3 HR2 HG2 HL
 have hS:=scT_len240 ns
 generalize scT ns=l at *
 have HS:=Lib.hid hS;clear hS
 obtain ⟨O,hO⟩:∃O,bs l=O:=⟨_,rfl⟩
 rw [hO]
 have HO:=Lib.hid hO;clear hO
 have hOs:O.size≤240:=by rw [←HO.out,bs_size];exact HS.out
 go_wp2_with fail
 refine (pick_any w.heap.size w.heap.size _ 8 _ (by omega) (by omega) (by omega) HR3.out).mono ?_
 rintro e w4 ⟨v,rfl,hv4,hR4,hg4⟩
 have b4:=hv4.lt (by omega)
 have HB4:=Lib.hid (below_of_gb HB3.out hg4 HB3.out.size (Nat.le_refl _))
 have HR4:=Lib.hid hR4
 clear hg4 hR4 hv4 HB3 HR3
 have hlt4:=HR4.out.lt
 by_cases h0:v=0
 ·subst h0
  have HK:=Lib.hid (show Blk (w4.alloc (.cells (strs [[],[48,32,49,32,101],[48,32,49,32,101,10,10],[48,32,50,47,50,32,101,10],[48,32,49,32,120,10],[49,32,49,32,101,10],[48,32,49,32,101,10,53,32,49,47,50,32,111,10]]) 9)) w4.heap.size 9 _ from Blk.new w4 _ _)
  have HR5:=Lib.hid (HR4.out.alloc (.cells (strs [[],[48,32,49,32,101],[48,32,49,32,101,10,10],[48,32,50,47,50,32,101,10],[48,32,49,32,120,10],[49,32,49,32,101,10],[48,32,49,32,101,10,53,32,49,47,50,32,111,10]]) 9))
  have HB5:=Lib.hid (HB4.out.alloc HB4.out.size (.cells (strs [[],[48,32,49,32,101],[48,32,49,32,101,10,10],[48,32,50,47,50,32,101,10],[48,32,49,32,120,10],[49,32,49,32,101,10],[48,32,49,32,101,10,53,32,49,47,50,32,111,10]]) 9))
  go_wp2_with fail
  refine (of_any w.heap.size w.heap.size _ w4.heap.size 7 _ _ (by omega) rfl (by omega) (by omega) HR5.out HK.out (by omega)).mono ?_
  rintro e w6 ⟨l6,hl6,rfl,_,hg6⟩
  have HB6:=Lib.hid (below_of_gb HB5.out hg6 HB5.out.size (Nat.le_refl _))
  have HL6:Hid (l6.length≤1000):=by
   simp only [List.mem_cons,List.not_mem_nil,or_false] at hl6
   unfold Hid
   rcases hl6 with rfl | rfl | rfl | rfl | rfl | rfl | rfl <;> simp
  clear hl6 hg6
  go_wp2_with fail
  go_ret
  exact ⟨l6,rfl,HL6.out,HB6.out⟩
 have e0:(v==0)=false:=by simpa using h0
 by_cases h1:v=1
 ·subst h1
  have HK:=Lib.hid (show Blk (w4.alloc (.cells (strs [[32],[120,10],[50,48,48,48,48,49,32,49,32,101,10]]) 9)) w4.heap.size 9 _ from Blk.new w4 _ _)
  have HR5:=Lib.hid (HR4.out.alloc (.cells (strs [[32],[120,10],[50,48,48,48,48,49,32,49,32,101,10]]) 9))
  have HB5:=Lib.hid (HB4.out.alloc HB4.out.size (.cells (strs [[32],[120,10],[50,48,48,48,48,49,32,49,32,101,10]]) 9))
  go_wp2_with fail
  refine (of_any w.heap.size w.heap.size _ w4.heap.size 3 _ _ (by omega) rfl (by omega) (by omega) HR5.out HK.out (by omega)).mono ?_
  rintro e w6 ⟨l6,hl6,rfl,_,hg6⟩
  have HB6:=Lib.hid (below_of_gb HB5.out hg6 HB5.out.size (Nat.le_refl _))
  have hL6:l6.length≤11:=by
   simp only [List.mem_cons,List.not_mem_nil,or_false] at hl6
   rcases hl6 with rfl | rfl | rfl <;> simp
  have hs6:(bs l6).size≤11:=by rw [bs_size];exact hL6
  have HL6:=Lib.hid hL6
  clear hl6 hg6 hL6
  obtain ⟨O6,hO6⟩:∃O6,bs l6=O6:=⟨_,rfl⟩
  rw [hO6] at hs6 ⊢
  have HO6:=Lib.hid hO6;clear hO6
  go_wp2_with fail
  go_ret
  exact ⟨l++l6,by rw [←bs_append,HO.out,HO6.out];rfl,by have:=HS.out;have:=HL6.out;rw [List.length_append];omega,HB6.out⟩
 have e1:(v==1)=false:=by simpa using h1
 go_wp2_with fail
 go_ret
 exact ⟨l,by rw [HO.out];rfl,by have:=HS.out;omega,HB4.out⟩
theorem sameNodes_any (A A':Option Addr) (n c c':Nat) (ns:List T3) (w:World) (hn:n≤1048576) (hr:Reads w w.heap.size 3 A n (ncells ns)) (hr':Reads w w.heap.size 3 A' n (ncells ns)) :
 Calls Tryz.prog 11 #[.slice A n c,.slice A' n c'] w fun e w'=>e=.returned (.bool true)∧Below w.heap.size w w':=by
 have HR:=Lib.hid hr;clear hr
 have HR':=Lib.hid hr';clear hr'
 have hB0:=Below.refl w.heap.size w
 go_enter Tryz.func11,Tryz.ntmps11
 go_wp2_with fail
 go_loopw [5] (fun i wr=>∃(k:Nat),k≤n∧i=.int .i64 k∧Hid (Below w.heap.size w wr)) (fun i _=>n-(RowKit.intOf i).toNat)
 case atStart=>exact ⟨0,Nat.zero_le _,rfl,hB0⟩
 case round =>
  clear hB0
  obtain ⟨k,hk,rfl,HB⟩:=hrel
  by_cases hlt:k<n
  ·obtain ⟨b,off,rfl,hb,r1,r2,r3⟩:=(HR.out.below HB.out).node hlt
   obtain ⟨b',off',rfl,hb',q1,q2,q3⟩:=(HR'.out.below HB.out).node hlt
   have i1:(k:Int)<(n:Int):=by omega
   have i0:(0:Int)≤(k:Int):=by omega
   generalize (gN ns k).1=E at *
   generalize (gN ns k).2.1=J at *
   generalize (gN ns k).2.2=P at *
   go_wp2_with fail
   go_region
   go_wp2_with fail
   go_roundw
   case rel=>exact ⟨k+1,by omega,by go_num,below_drew2 HB.out⟩
   case measure=>simp [RowKit.intOf];omega
  ·obtain rfl:k=n:=by omega
   go_wp2_with fail
   go_ret
   exact ⟨rfl,HB.out⟩
end
end Go.Proofs.YtammfhheibaeaaaGreatDoor
