/- Parts of the proof of : Ns. -/
import Derived.Test.YtammfhheibaeaaaGreatDoorQ23
set_option maxHeartbeats 20000000
set_option maxRecDepth 1000000
set_option linter.unusedSimpArgs false
set_option linter.unusedVariables false
namespace Go.Proofs.YtammfhheibaeaaaGreatDoor
section
open Go.RowKit Go.Lib
attribute [local go_sem ↓] Go.wp_at_zero Go.wp_at_succ
open Classical in
noncomputable def spf (l:List UInt8):Int:=if h:∃j:Nat,j≤24∧spT (j:Int)=l then ((Classical.choose h:Nat):Int) else -1
theorem spf_eq {l:List UInt8} {k:Nat} (hk:k≤24) (h:spT (k:Int)=l):spf l=k:=by
 have he:∃j:Nat,j≤24∧spT (j:Int)=l:=⟨k,hk,h⟩
 unfold spf
 rw [dif_pos he]
 have hc:=Classical.choose_spec he
 have:=spT_inj ⟨Classical.choose he,by omega⟩ ⟨k,by omega⟩ (hc.2.trans h.symm)
 have h2:Classical.choose he=k:=by simpa using this
 rw [h2]
theorem spf_none {l:List UInt8} (h:∀j:Nat,j<25→spT (j:Int)≠l):spf l=-1:=by
 unfold spf
 rw [dif_neg fun ⟨j,hj,he⟩=>h j (by omega) he]
theorem l41Spin_any (l:List UInt8) (w:World) :
 Calls Tryz.prog 29 #[.string (bs l)] w fun en w'=>en=.returned (.int .i64 (spf l))∧Below w.heap.size w w':=by
 have HSP:=Lib.hid (fun (j:Nat) W=>specSpinText_any (j:Int) W)
 have HB0:=Lib.hid (Below.refl w.heap.size w)
 obtain ⟨L,hL⟩:∃L,bs l=L:=⟨_,rfl⟩
 have HEQ:Hid (∀j:Nat,((bs (spT (j:Int))).toList==L.toList)=decide (spT (j:Int)=l)):=fun j=>by rw [←hL,bs_eq]
 rw [hL]
 clear hL
 go_enter Tryz.func29,Tryz.ntmps29
 go_wp2_with fail
 go_loopw [3] (fun i wr=>∃k:Nat,k≤25∧i=.int .i64 k∧Hid (∀j:Nat,j<k→spT (j:Int)≠l)∧Hid (Below w.heap.size w wr)) (fun i _=>26-(RowKit.intOf i).toNat)
 case atStart=>exact ⟨0,by omega,rfl,fun j hj=>absurd hj (by omega),HB0.out⟩
 case round =>
  clear HB0
  obtain ⟨k,hk,rfl,HN,HB⟩:=hrel
  by_cases hlt:k<25
  ·have i1:(k:Int)≤24:=by omega
   have HC:=Lib.hid (HSP.out k wr)
   have he:=HEQ.out k
   by_cases hs:spT (k:Int)=l
   ·rw [decide_eq_true hs] at he
    have HV:Hid (spf l=k):=spf_eq (by omega) hs
    clear hs
    generalize bs (spT (k:Int))=S at *
    go_wp2_with fail
    refine HC.out.mono ?_
    rintro en w2 ⟨rfl,hb2⟩
    have HB2:=Lib.hid (HB.out.trans (hb2.mono HB.out.size));clear hb2
    go_wp2_with fail
    go_ret
    exact ⟨ret_int HV.out.symm,HB2.out⟩
   ·rw [decide_eq_false hs] at he
    have HN2:Hid (∀j:Nat,j<k+1→spT (j:Int)≠l):=fun j hj=>by
     rcases Nat.lt_or_ge j k with h | h
     ·exact HN.out j h
     ·obtain rfl:j=k:=by omega
      exact hs
    clear hs
    generalize bs (spT (k:Int))=S at *
    go_wp2_with fail
    refine HC.out.mono ?_
    rintro en w2 ⟨rfl,hb2⟩
    have HB2:=Lib.hid (HB.out.trans (hb2.mono HB.out.size));clear hb2
    go_wp2_with fail
    go_roundw
    case rel=>exact ⟨k+1,by omega,by go_num,HN2.out,HB2.out⟩
    case measure=>simp [RowKit.intOf];omega
  ·obtain rfl:k=25:=by omega
   go_wp2_with fail
   go_ret
   exact ⟨ret_int (spf_none HN.out).symm,HB.out⟩
end
end Go.Proofs.YtammfhheibaeaaaGreatDoor
