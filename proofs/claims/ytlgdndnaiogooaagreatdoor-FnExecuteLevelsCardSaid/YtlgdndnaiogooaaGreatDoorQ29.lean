/- Parts of the proof of : LLev. -/
import Derived.Test.YtlgdndnaiogooaaGreatDoorQ27
import Derived.Test.YtlgdndnaiogooaaGreatDoorQ28
set_option maxHeartbeats 20000000
set_option maxRecDepth 1000000
set_option linter.unusedSimpArgs false
set_option linter.unusedVariables false
namespace Go.Proofs.YtlgdndnaiogooaaGreatDoor
section
open Go.RowKit
attribute [local go_sem ↓] Go.wp_at_zero Go.wp_at_succ
def lvP (t:T2) (js:List Int) (k:Nat):List UInt8:=Lib.join ((js.take k).map (l1T t)) [32]
theorem lvP_one {t:T2} {js:List Int} {j:Int} (h:js[0]?=some j):lvP t js 1=l1T t j:=by
 cases js with
 | nil=>cases h
 | cons a r =>
  simp only [List.getElem?_cons_zero] at h
  injection h with h
  subst h
  show Lib.join [l1T t a] [32]=_
  exact Lib.join_one _ _
theorem lvP_succ {t:T2} {js:List Int} {j:Int} {k:Nat} (hk:0<k) (h:js[k]?=some j):lvP t js (k+1)=lvP t js k++[32]++l1T t j:=by
 have hl:k<js.length:=by
  rcases Nat.lt_or_ge k js.length with h1 | h1
  ·exact h1
  ·rw [List.getElem?_eq_none h1] at h;cases h
 rw [List.getElem?_eq_getElem hl] at h
 injection h with h
 unfold lvP
 rw [List.take_succ_eq_append_getElem hl,List.map_append,List.map_cons,List.map_nil,join_snoc,h,if_neg]
 intro e
 have:=congrArg List.length e
 simp at this
 rcases this with h0 | h0
 ·omega
 ·subst h0;simp at hl
theorem fnExecuteLevels_walk (A:Option Addr) (n0 c0:Nat) (w:World) (hn:n0≤maxLen) (hc:n0≤c0) (hb:Bytes w w.heap.size A n0) (ht:Tab w) (hm:Mx w) :
 Calls Tryz.prog 3 #[.slice A n0 c0] w fun e w'=>e=.returned (.bool true)∧Below w.heap.size w w':=by
 unfold maxLen at hn
 have HE:=Lib.hid (fun W (hB:Below w.heap.size w W)=>And.intro (ht.on hB) (hm.on hB));clear ht hm
 have HB:=Lib.hid hb;clear hb
 have hB0:=Below.refl w.heap.size w
 by_cases hbig:1048576<n0
 ·go_enter Tryz.func3,Tryz.ntmps3
  go_wp2_with fail
  go_ret
  exact ⟨rfl,hB0⟩
 clear hB0
 go_enter Tryz.func3,Tryz.ntmps3
 go_wp2_with fail
 refine (DrawLevelsOf_any A n0 c0 w (by omega) hc HB.out).mono ?_
 rintro e w1 ⟨t,rfl,hd,hb1⟩
 have HB1:=Lib.hid (hb1.alloc hb1.size (.cells #[.int .i64 t.1,.int .i64 t.2] 24))
 have HT1:=Lib.hid (Blk.new w1 24 #[.int .i64 t.1,.int .i64 t.2])
 clear hd hb1 HB
 obtain ⟨x1,x2,_,_⟩:=blk2 HT1.out
 unfold trm
 have HI:=Lib.hid (fun W=>implLevelsOf_any t W)
 have HS:=Lib.hid (fun W=>specLevelsOf_any t W)
 have HSM:=Lib.hid (fun A A' n c c' W=>sameLevels_any A A' n c c' t (lvJs t) W)
 unfold LevelsPost at HI HS
 have HX:=Lib.hid (fun W=>implTermText_any t W)
 have HEX:=Lib.hid (fun W hv (h:Tab W∧Mx W)=>ExecLevels_any t W hv h.1 h.2)
 cases hv:tvB t
 ·have hjs:lvJs t=[]:=by unfold lvJs;rw [hv];rfl
  rw [hjs] at HI HS HSM
  clear hv HX HEX HE hjs
  generalize t.1=s at *
  generalize t.2=l at *
  go_wp2_with fail
  refine (HI.out _).mono ?_
  rintro e w2 ⟨⟨A1,c1,rfl,hr1⟩,hb2⟩
  have HB2:=Lib.hid (HB1.out.trans (hb2.mono HB1.out.size))
  have HT2:=Lib.hid (HT1.out.sub hb2)
  have HR1:=Lib.hid hr1
  clear hb2 hr1 x1 x2
  obtain ⟨x1,x2,_,_⟩:=blk2 HT2.out
  go_wp2_with fail
  refine (HS.out _).mono ?_
  rintro e w3 ⟨⟨A2,c2,rfl,hr2⟩,hb3⟩
  have HB3:=Lib.hid (HB2.out.trans (hb3.mono HB2.out.size))
  have HRa:=Lib.hid (own_reads (own_below HR1.out hb3))
  have HRb:=Lib.hid (own_reads hr2)
  clear hb3 hr2 x1 x2
  have hs1:=fun W (h:Below w3.heap.size w3 W)=>HSM.out A1 A2 0 c1 c2 W (by omega) rfl ((HRa.out.below h).more h.size) ((HRb.out.below h).more h.size)
  have HSS:=Lib.hid hs1;clear hs1
  simp only [List.length_nil] at *
  go_wp2_with fail
  refine (HSS.out _ (Below.refl _ _)).mono ?_
  rintro e w4 ⟨rfl,hb4⟩
  have HB4:=Lib.hid (HB3.out.trans (hb4.mono HB3.out.size))
  have HK:=Lib.hid hb4;clear hb4
  go_wp2_with fail
  refine (HSS.out _ HK.out).mono ?_
  rintro e w5 ⟨rfl,hb5⟩
  have HB5:=Lib.hid (HB4.out.trans (hb5.mono HB4.out.size));clear hb5
  go_wp2_with fail
  go_ret
  exact ⟨rfl,HB5.out⟩
 have hlen:=lv_len hv
 have HLT:=Lib.hid (fun j hj W=>LevelText_any t j W hj)
 have HLV:Hid (lvT t=lvP t (lvJs t) (lvJs t).length):=by unfold Hid lvP lvT;rw [List.take_of_length_le (Nat.le_refl _)]
 have HJL:=Lib.hid (joinl_len hv (lvJs t))
 have HL1:=Lib.hid (fun j=>l1T_len hv j)
 have htz:(bs (tmT t)).size≤2:=by rw [bs_size,tmT_len hv];exact Nat.le_refl _
 have HSC:Hid (bs (lvS t)=(⟨#[108,101,118,101,108,115,32]⟩:ByteArray)++bs (tmT t)++⟨#[10]⟩):=by
  unfold Hid lvS lvL
  rw [←bs_append,←bs_append];rfl
 have HEX2:=Lib.hid (fun W h=>HEX.out W hv h)
 clear HEX
 have HOT:Hid (bs (lvT t++[10,108,105,110,101,115,32,49,10])=bs (lvT t)++(⟨#[10,108,105,110,101,115,32,49,10]⟩:ByteArray)):=by
  unfold Hid
  rw [←bs_append];rfl
 rw [HOT.out,HSC.out,HLV.out] at HEX2
 clear HOT HSC HLV hv
 obtain ⟨X,hX⟩:∃X,bs (tmT t)=X:=⟨_,rfl⟩
 rw [hX] at HX HEX2 htz;clear hX
 obtain ⟨js,hjs⟩:∃js,lvJs t=js:=⟨_,rfl⟩
 obtain ⟨n,hjn⟩:∃n,js.length=n:=⟨_,rfl⟩
 rw [hjs] at HI HS HSM HLT HEX2 hlen HJL
 rw [hjn] at HI HS HEX2 hlen HJL
 have HN:=Lib.hid hjn;clear hjs hjn
 obtain ⟨s,l⟩:=t
 simp only at *
 go_wp2_with fail
 refine (HI.out _).mono ?_
 rintro e w2 ⟨⟨A1,c1,rfl,hr1⟩,hb2⟩
 have HB2:=Lib.hid (HB1.out.trans (hb2.mono HB1.out.size))
 have HT2:=Lib.hid (HT1.out.sub hb2)
 have HR1:=Lib.hid hr1
 clear hb2 hr1 x1 x2
 obtain ⟨x1,x2,_,_⟩:=blk2 HT2.out
 go_wp2_with fail
 refine (HS.out _).mono ?_
 rintro e w3 ⟨⟨A2,c2,rfl,hr2⟩,hb3⟩
 have HB3:=Lib.hid (HB2.out.trans (hb3.mono HB2.out.size))
 have HT3:=Lib.hid (HT2.out.sub hb3)
 have HRa:=Lib.hid (own_reads (own_below HR1.out hb3))
 have HRb:=Lib.hid (own_reads hr2)
 clear hb3 hr2 x1 x2
 have e0:((n:Int)==0)=false:=by simp;omega
 go_wp2_with fail
 refine (HSM.out A1 A2 n c1 c2 w3 (by omega) HN.out HRa.out HRb.out).mono ?_
 rintro e w4 ⟨rfl,hb4⟩
 have HB4:=Lib.hid (HB3.out.trans (hb4.mono HB3.out.size))
 have HT4:=Lib.hid (HT3.out.sub hb4)
 have hrr:=(HRa.out.below hb4).more hb4.size
 have HR:=Lib.hid (fun W (h:Below w4.heap.size w4 W)=>hrr.below h)
 clear hb4 hrr HI HS HSM HRa HRb HR1
 go_wp2_with fail
 clear e0
 go_loopw [6,7] (fun v i wr=>∃k:Nat,k≤n∧i=.int .i64 k∧v=.string (bs (lvP (s,l) js k))∧Hid (Below w4.heap.size w4 wr)) (fun _ i _=>n-(RowKit.intOf i).toNat)
 case atStart=>exact ⟨0,Nat.zero_le _,rfl,rfl,Below.refl _ _⟩
 case round =>
  obtain ⟨k,hk,rfl,rfl,HB⟩:=hrel
  have hpz:(bs (lvP (s,l) js k)).size≤12*k:=by rw [bs_size];exact HJL.out k hk
  by_cases hlt:k<n
  ·obtain ⟨b',off,j,rfl,hb',r1,r2,r3,hg⟩:=(HR.out wr HB.out).lev HN.out hlt
   have hkl:k<js.length:=by rw [HN.out];exact hlt
   have hjk:js[k]=j:=by have:=hg.out;rw [List.getElem?_eq_getElem hkl] at this;injection this
   have HTX:=Lib.hid (fun W=>HLT.out j (by rw [←hjk];exact List.getElem_mem hkl) W)
   have hl1:(bs (l1T (s,l) j)).size≤11:=by rw [bs_size];exact HL1.out j
   rw [show tmT (s,l)++spT j=l1T (s,l) j from rfl] at HTX
   rcases Nat.eq_zero_or_pos k with h0 | h0
   ·subst h0
    have HPS:Hid (bs (lvP (s,l) js 0)++bs (l1T (s,l) j)=bs (lvP (s,l) js 1)):=by
     unfold Hid
     rw [lvP_one hg.out,bs_append];rfl
    clear hg hjk hkl
    simp only [Nat.zero_mul,Nat.add_zero] at r1 r2 r3
    generalize bs (lvP (s,l) js 0)=P at *
    generalize bs (l1T (s,l) j)=T at *
    go_wp2_with fail
    refine (HTX.out _).mono ?_
    rintro e w6 ⟨rfl,hb6⟩
    have HB6:=Lib.hid (HB.out.trans (hb6.mono HB.out.size));clear hb6
    go_wp2_with fail
    go_roundw
    case rel =>
     first | exact ⟨1,by omega,by first | rfl | go_num,by rw [←HPS.out],HB6.out⟩ | exact ⟨_,_,_,_,_,_,_,_,_,_,_,_,_,_,_,_,_,_,_,⟨1,by omega,rfl,by rw [←HPS.out],HB6.out⟩,rfl⟩
    case measure=>simp [RowKit.intOf];omega
   ·have HPS:Hid (bs (lvP (s,l) js k)++⟨#[32]⟩++bs (l1T (s,l) j)=bs (lvP (s,l) js (k+1))):=by
     unfold Hid
     rw [lvP_succ h0 hg.out,←bs_append,←bs_append];rfl
    have d0:decide (0<k)=true:=by simpa using h0
    clear hg hjk hkl
    generalize bs (lvP (s,l) js k)=P at *
    generalize bs (l1T (s,l) j)=T at *
    go_wp2_with fail
    refine (HTX.out _).mono ?_
    rintro e w6 ⟨rfl,hb6⟩
    have HB6:=Lib.hid (HB.out.trans (hb6.mono HB.out.size));clear hb6
    go_wp2_with fail
    go_roundw
    case rel =>
     first | exact ⟨k+1,by omega,by first | rfl | go_num,by rw [←HPS.out],HB6.out⟩ | (refine ⟨_,_,_,_,_,_,_,_,_,_,_,_,_,_,_,_,_,_,_,?_,rfl⟩;exact ⟨k+1,by omega,by first | rfl | go_num,by rw [←HPS.out],HB6.out⟩)
    case measure=>simp [RowKit.intOf];omega
  ·obtain rfl:k=n:=by omega
   obtain ⟨x1,x2,_,_⟩:=blk2 (HT4.out.sub HB.out)
   have HBr:=Lib.hid (HB4.out.trans (HB.out.mono HB4.out.size))
   generalize bs (lvP (s,l) js k)=P at *
   go_wp2_with fail
   refine (HX.out _).mono ?_
   rintro e w6 ⟨rfl,hb6⟩
   have HB6:=Lib.hid (HBr.out.trans (hb6.mono HBr.out.size));clear hb6
   go_wp2_with fail
   refine (HEX2.out _ (HE.out _ HB6.out)).mono ?_
   rintro e w7 ⟨rfl,hb7⟩
   have HB7:=Lib.hid (HB6.out.trans (hb7.mono HB6.out.size));clear hb7
   go_wp2_with fail
   go_ret
   exact ⟨ret_bool (by simp),HB7.out⟩
end
end Go.Proofs.YtlgdndnaiogooaaGreatDoor
