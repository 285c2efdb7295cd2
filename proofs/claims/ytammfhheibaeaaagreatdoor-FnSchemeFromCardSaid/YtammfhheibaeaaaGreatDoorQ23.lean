/- Parts of the proof of : Nd. -/
import Derived.Test.YtammfhheibaeaaaGreatDoorQ22
set_option maxHeartbeats 20000000
set_option maxRecDepth 1000000
set_option linter.unusedSimpArgs false
set_option linter.unusedVariables false
namespace Go.Proofs.YtammfhheibaeaaaGreatDoor
section
open Go.RowKit Go.Lib
attribute [local go_sem ↓] Go.wp_at_zero Go.wp_at_succ
def dgf (l:List UInt8):Int:=if (1≤l.length∧l.length≤10)∧∀c∈l,48≤c.toNat∧c.toNat≤57 then ((dval l:Nat):Int) else -1
theorem dgf_dec {n:Nat} (h:(decDigits n).length≤10):dgf (decDigits n)=n:=by
 unfold dgf
 rw [if_pos ⟨⟨dd_pos n,h⟩,dd_all n⟩,dd_val]
theorem l1Digits_any (l:List UInt8) (w:World) (hlen:l.length≤1048576) :
 Calls Tryz.prog 28 #[.string (bs l)] w fun en w'=>en=.returned (.int .i64 (dgf l))∧w'=w:=by
 have HSZ:=Lib.hid (bs_size l)
 have HIX:=Lib.hid (idx_strk l)
 have HIN:=Lib.hid (fun W=>l6In_any (l.length:Int) 1 10 W)
 obtain ⟨L,hL⟩:∃L,bs l=L:=⟨_,rfl⟩
 rw [hL] at HSZ HIX ⊢
 clear hL
 obtain ⟨n,hn⟩:∃n,l.length=n:=⟨_,rfl⟩
 rw [hn] at hlen HSZ HIN
 have hsz:L.size=n:=HSZ.out
 have HN:=Lib.hid hn;clear hn HSZ
 by_cases h10:1≤n∧n≤10
 ·have hi:inB (n:Int) 1 10=true:=inB_iff.2 (by omega)
  rw [hi] at HIN;clear hi
  go_enter Tryz.func28,Tryz.ntmps28
  go_wp2_with fail
  refine (HIN.out _).mono ?_
  rintro en w1 ⟨rfl,rfl⟩
  go_wp2_with fail
  go_loop [3,4] (fun v i=>∃k:Nat,k≤n∧i=.int .i64 k∧v=.int .i64 (dval (l.take k):Nat)∧Hid (∀c∈l.take k,48≤c.toNat∧c.toNat≤57)) (fun _ i=>n+1-(RowKit.intOf i).toNat)
  case atStart=>exact ⟨0,Nat.zero_le _,rfl,rfl,fun c hc=>by simp at hc⟩
  case round =>
   obtain ⟨k,hk,rfl,rfl,HD⟩:=hrel
   by_cases hlt:k<n
   ·obtain ⟨y,hy⟩:∃y,l[k]?=some y:=⟨l[k]'(by have:=HN.out;omega),List.getElem?_eq_getElem _⟩
    have hidx:=HIX.out k y hy
    have i1:(k:Int)<(n:Int):=by omega
    have htk:l.take (k+1)=l.take k++[y]:=by rw [List.take_add_one,hy];rfl
    have hvb:dval (l.take k)≤10000000000:=by
     have h1:=dval_le (l.take k) (fun z hz=>(HD.out z hz).2)
     have h2:(l.take k).length≤9:=by have:=List.length_take_le k l;omega
     have h3:=Nat.pow_le_pow_right (show 0<10 by omega) h2
     omega
    have HBAD:Hid (¬(48≤y.toNat∧y.toNat≤57)→dgf l=-1):=fun hbad=>if_neg fun h=>hbad (h.2 y (List.mem_of_getElem? hy))
    by_cases h48:y.toNat<48
    ·have hb:=HBAD.out (by omega)
     have HM:=Lib.hid hb
     clear hb htk hvb hy
     obtain ⟨yn,hyn⟩:∃yn,y.toNat=yn:=⟨_,rfl⟩
     rw [hyn] at hidx h48
     clear hyn
     go_wp2_with fail
     go_ret
     exact ⟨ret_int HM.out.symm,rfl⟩
    by_cases h57:57<y.toNat
    ·have hb:=HBAD.out (by omega)
     have HM:=Lib.hid hb
     clear hb htk hvb hy
     obtain ⟨yn,hyn⟩:∃yn,y.toNat=yn:=⟨_,rfl⟩
     rw [hyn] at hidx h48 h57
     clear hyn
     go_wp2_with fail
     go_ret
     exact ⟨ret_int HM.out.symm,rfl⟩
    have HD2:Hid (∀c∈l.take (k+1),48≤c.toNat∧c.toNat≤57):=fun c hc=>by
     rw [htk,List.mem_append,List.mem_singleton] at hc
     rcases hc with hc | rfl
     ·exact HD.out c hc
     ·omega
    have HTK:Hid (dval (l.take (k+1))=dval (l.take k)*10+(y.toNat-48)):=by
     unfold Hid;rw [htk,←dval_snoc]
    clear htk hy HBAD
    generalize dval (l.take k)=v at *
    obtain ⟨yn,hyn⟩:∃yn,y.toNat=yn:=⟨_,rfl⟩
    rw [hyn] at hidx h48 h57 HTK
    clear hyn
    go_wp2_with fail
    go_round
    case rel=>exact ⟨k+1,by omega,by go_num,by rw [HTK.out];exact congrArg (Value.int .i64) (by omega),HD2.out⟩
    case measure=>simp [RowKit.intOf];omega
   ·obtain rfl:k=n:=by omega
    have HV:Hid (dval (l.take k)=dval l):=by unfold Hid;rw [List.take_of_length_le (by rw [HN.out];exact Nat.le_refl _)]
    rw [HV.out]
    rw [List.take_of_length_le (by rw [HN.out];exact Nat.le_refl _)] at HD
    have HG:Hid (dgf l=((dval l:Nat):Int)):=if_pos ⟨by rw [HN.out];exact h10,HD.out⟩
    go_wp2_with fail
    go_ret
    exact ⟨ret_int HG.out.symm,rfl⟩
 ·have hi:inB (n:Int) 1 10=false:=by
   cases h:inB (n:Int) 1 10
   ·rfl
   ·have:=inB_iff.1 h;omega
  rw [hi] at HIN;clear hi
  go_enter Tryz.func28,Tryz.ntmps28
  go_wp2_with fail
  refine (HIN.out _).mono ?_
  rintro en w1 ⟨rfl,rfl⟩
  go_wp2_with fail
  go_ret
  have HG:dgf l=-1:=if_neg fun h=>h10 (by have:=h.1;rwa [HN.out] at this)
  exact ⟨ret_int HG.symm,rfl⟩
end
end Go.Proofs.YtammfhheibaeaaaGreatDoor
