/- Parts of the proof of : Mh. -/
import Derived.Test.YtammfhheibaeaaaGreatDoorQ30
set_option maxHeartbeats 20000000
set_option maxRecDepth 1000000
set_option linter.unusedSimpArgs false
set_option linter.unusedVariables false
namespace Go.Proofs.YtammfhheibaeaaaGreatDoor
section
open Go.RowKit
attribute [local go_sem ↓] Go.wp_at_zero Go.wp_at_succ
def mkN (n:Nat):List T3:=(List.range n).map fun (i:Nat)=>((3*i+1:Nat),(3*i+2:Nat),true)
theorem mkN_len (n:Nat):(mkN n).length=n:=by simp [mkN]
theorem mkN_succ (n:Nat):mkN (n+1)=mkN n++[(((3*n+1:Nat):Int),((3*n+2:Nat):Int),true)]:=by simp [mkN,List.range_succ]
theorem mkN_at {n k:Nat} (h:k<n):gN (mkN n) k=(((3*k+1:Nat):Int),((3*k+2:Nat):Int),true):=by simp [gN,mkN,h]
theorem mcells_len (k:Nat):(ncells (mkN k)).length=k*3:=by rw [ncells_len,mkN_len]
theorem mcells_succ (k:Nat):ncells (mkN (k+1))=ncells (mkN k)++[.int .i64 (3*k+1:Nat),.int .i64 (3*k+2:Nat),.bool true]:=by rw [mkN_succ,ncells_snoc]
theorem Filled.size {cs:Array Value} {vs:List Value} (h:Filled cs vs):vs.length≤cs.size:=by
 rcases Nat.lt_or_ge cs.size vs.length with h1 | h1
 ·have:=h cs.size _ (List.getElem?_eq_getElem h1)
  rw [Array.getElem?_eq_none (Nat.le_refl _)] at this;cases this
 ·exact h1
theorem reads_zero (w:World) (B size:Nat) (A:Option Addr):Reads w B size A 0 []:=⟨by simp,fun h=>absurd h (by omega)⟩
theorem markNodeS_any (A:Option Addr) (n c base:Nat) (xs:List Value) (w:World) (hn:n≤1000) (ho:w.ownsRow base 34 3 (.slice A n c) n xs) :
 Calls Tryz.prog 8 #[.slice A n c,.int .i64 1] w fun e w'=>e=.returned (.int .i64 ((3*n+1:Nat):Int))∧Reads w' w'.heap.size 3 A n (ncells (mkN n))∧Below base w w':=by
 have hB0:=Below.refl base w
 obtain ⟨g,S,H0⟩:∃(g S:Nat),Hid (0<n→A=some ⟨g,0,none⟩∧base≤g∧n*3≤S∧∃cs:Array Value,cs.size=S∧Blk w g 34 cs∧Filled cs (ncells (mkN 0))):=by
  by_cases h0:n=0
  ·exact ⟨0,0,fun h=>absurd h (by omega)⟩
  ·obtain ⟨g,cur,hA,hbg,hbl,hf⟩:=own_blk ho (by omega)
   have hsz:=hf.size
   rw [ho.1] at hsz
   exact ⟨g,cur.size,fun _=>⟨hA,hbg,hsz,cur,rfl,hbl,filled_nil _⟩⟩
 clear ho
 go_enter Tryz.func8,Tryz.ntmps8
 go_wp2_with fail
 go_loopw [1,5] (fun v i wr=>∃(k:Nat),k≤n∧i=.int .i64 k∧v=.int .i64 ((3*k+1:Nat):Int)∧Hid (0<n→A=some ⟨g,0,none⟩∧base≤g∧n*3≤S∧∃cs:Array Value,cs.size=S∧Blk wr g 34 cs∧Filled cs (ncells (mkN k)))∧Hid (Below base w wr)) (fun _ i _=>n-(RowKit.intOf i).toNat)
 case atStart=>exact ⟨0,Nat.zero_le _,rfl,rfl,H0.out,hB0⟩
 case round =>
  clear hB0 H0
  obtain ⟨k,hk,rfl,rfl,HR,HB⟩:=hrel
  by_cases hlt:k<n
  ·obtain ⟨rfl,hbg,hS,cs,hcs,hbl,hf⟩:=HR.out (by omega)
   clear HR
   have hl:=mcells_len k
   have f1:=hf.put hl (by omega) (.int .i64 ((3*k+1:Nat):Int))
   have b1:=hbl.set (k*3) (.int .i64 ((3*k+1:Nat):Int))
   have f2:=f1.put (j:=k*3+1) (by simp [hl]) (by simp;omega) (.int .i64 ((3*k+2:Nat):Int))
   have b2:=b1.set (k*3+1) (.int .i64 ((3*k+2:Nat):Int))
   have f3:=f2.put (j:=k*3+2) (by simp [hl]) (by simp;omega) (.bool true)
   have b3:=b2.set (k*3+2) (.bool true)
   have hfin:Hid (∃cs':Array Value,cs'.size=S∧Blk (((wr.setCell ⟨g,k*3,none⟩ (.int .i64 ((3*k+1:Nat):Int))).setCell ⟨g,k*3+1,none⟩ (.int .i64 ((3*k+2:Nat):Int))).setCell ⟨g,k*3+2,none⟩ (.bool true)) g 34 cs'∧Filled cs' (ncells (mkN (k+1)))):=by
    refine ⟨_,?_,b3,?_⟩
    ·simp [hcs]
    ·rw [mcells_succ];simpa using f3
   obtain ⟨u1,hu1⟩:=old_cell hbl (j:=k*3) (by omega)
   obtain ⟨u2,hu2⟩:=old_cell b1 (j:=k*3+1) (by simp;omega)
   obtain ⟨u3,hu3⟩:=old_cell b2 (j:=k*3+2) (by simp;omega)
   have z1:=hbl.frozen (k*3)
   have z2:=b1.frozen (k*3+1)
   have z3:=b2.frozen (k*3+2)
   have HB3:=Lib.hid (((HB.out.setCell (p:=⟨g,k*3,none⟩) hbg (.int .i64 ((3*k+1:Nat):Int))).setCell (p:=⟨g,k*3+1,none⟩) hbg (.int .i64 ((3*k+2:Nat):Int))).setCell (p:=⟨g,k*3+2,none⟩) hbg (.bool true))
   have q1:((3*k+1:Nat):Int)+1=((3*k+2:Nat):Int):=by omega
   have q2:((3*k+2:Nat):Int)+1=((3*k+3:Nat):Int):=by omega
   have q3:(((3*k+3:Nat):Int).tmod 3==0)=true:=by have:((3*k+3:Nat):Int).tmod 3=0:=by rw [Int.tmod_eq_emod_of_nonneg (by omega)];omega
                                                  rw [this];rfl
   have q4:(((3*k+3:Nat):Int) % 3==0)=true:=by have:((3*k+3:Nat):Int) % 3=0:=by omega
                                               rw [this];rfl
   have q5:((3*k+3:Nat):Int)+1=((3*(k+1)+1:Nat):Int):=by omega
   clear hl f1 f2 f3 b1 b2 b3 hf hbl
   generalize hX1:((3*k+1:Nat):Int)=X1 at *
   generalize hX2:((3*k+2:Nat):Int)=X2 at *
   generalize hX3:((3*k+3:Nat):Int)=X3 at *
   have HX:=Lib.hid hX1;clear hX1
   have y1:0≤X1∧X1≤4000:=by have:=HX.out;omega
   have y2:0≤X2∧X2≤4000:=by omega
   have y3:0≤X3∧X3≤4000:=by omega
   clear hX2 hX3
   go_wp2_with fail
   go_roundw
   case rel=>exact ⟨k+1,by omega,by go_num,by go_num,fun _=>⟨trivial,hbg,hS,hfin.out⟩,HB3.out⟩
   case measure=>simp [RowKit.intOf];omega
  ·obtain rfl:k=n:=by omega
   have HF:Hid (Reads wr wr.heap.size 3 A k (ncells (mkN k))):=by
    by_cases h0:k=0
    ·subst h0;exact reads_zero _ _ _ _
    ·obtain ⟨rfl,hbg,hS,cs,hcs,hbl,hf⟩:=HR.out (by omega)
     exact hf.reads hbl (mcells_len k)
   clear HR
   go_wp2_with fail
   go_ret
   exact ⟨rfl,HF.out,HB.out⟩
theorem heldNodeS_any (A:Option Addr) (n c:Nat) (w:World) (hn:n≤1000) (hr:Reads w w.heap.size 3 A n (ncells (mkN n))) :
 Calls Tryz.prog 9 #[.slice A n c,.int .i64 1] w fun e w'=>e=.returned (.int .i64 ((3*n+1:Nat):Int))∧Below w.heap.size w w':=by
 have HR:=Lib.hid hr;clear hr
 have hB0:=Below.refl w.heap.size w
 go_enter Tryz.func9,Tryz.ntmps9
 go_wp2_with fail
 go_loopw [1,5] (fun v i wr=>∃(k:Nat),k≤n∧i=.int .i64 k∧v=.int .i64 ((3*k+1:Nat):Int)∧Hid (Below w.heap.size w wr)) (fun _ i _=>n-(RowKit.intOf i).toNat)
 case atStart=>exact ⟨0,Nat.zero_le _,rfl,rfl,hB0⟩
 case round =>
  clear hB0
  obtain ⟨k,hk,rfl,rfl,HB⟩:=hrel
  by_cases hlt:k<n
  ·obtain ⟨b,off,rfl,hb,c1,c2,c3⟩:=(HR.out.below HB.out).node hlt
   rw [mkN_at hlt] at c1 c2 c3
   simp only at c1 c2 c3
   have q1:((3*k+1:Nat):Int)+1=((3*k+2:Nat):Int):=by omega
   have q2:((3*k+2:Nat):Int)+1=((3*k+3:Nat):Int):=by omega
   have q3:(((3*k+3:Nat):Int).tmod 3==0)=true:=by have:((3*k+3:Nat):Int).tmod 3=0:=by rw [Int.tmod_eq_emod_of_nonneg (by omega)];omega
                                                  rw [this];rfl
   have q4:(((3*k+3:Nat):Int) % 3==0)=true:=by have:((3*k+3:Nat):Int) % 3=0:=by omega
                                               rw [this];rfl
   have q5:((3*k+3:Nat):Int)+1=((3*(k+1)+1:Nat):Int):=by omega
   generalize hX1:((3*k+1:Nat):Int)=X1 at *
   generalize hX2:((3*k+2:Nat):Int)=X2 at *
   generalize hX3:((3*k+3:Nat):Int)=X3 at *
   have HX:=Lib.hid hX1;clear hX1
   have y1:0≤X1∧X1≤4000:=by have:=HX.out;omega
   have y2:0≤X2∧X2≤4000:=by omega
   have y3:0≤X3∧X3≤4000:=by omega
   clear hX2 hX3
   go_wp2_with fail
   go_roundw
   case rel=>exact ⟨k+1,by omega,by go_num,by go_num,HB.out⟩
   case measure=>simp [RowKit.intOf];omega
  ·obtain rfl:k=n:=by omega
   go_wp2_with fail
   go_ret
   exact ⟨rfl,HB.out⟩
end
end Go.Proofs.YtammfhheibaeaaaGreatDoor
