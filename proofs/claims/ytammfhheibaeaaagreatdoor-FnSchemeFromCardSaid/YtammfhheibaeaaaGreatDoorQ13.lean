/- Parts of the proof of : Pn2. -/
import Derived.Test.YtammfhheibaeaaaGreatDoorQ10
import Derived.Test.YtammfhheibaeaaaGreatDoorQ12
set_option maxHeartbeats 20000000
set_option maxRecDepth 1000000
set_option linter.unusedSimpArgs false
set_option linter.unusedVariables false
namespace Go.Proofs.YtammfhheibaeaaaGreatDoor
section
open Go.RowKit Go.Lib
attribute [local go_sem ↓] Go.wp_at_zero Go.wp_at_succ
theorem isO (o:Bool):((bs [if o then 111 else 101]).toList==[111])=o:=by
 rw [show (bs [if o then 111 else 101]).toList=[if o then 111 else 101] from ByteArray.toList_mk _]
 cases o <;> rfl
theorem parseNode_any (e j:Int) (o:Bool) (w:World) (ht:Tab w) (hm:Mx w) (h:ndB e j=true) :
 Calls Tryz.prog 33 #[.string (bs (ndT e j o))] w fun en w'=>en=.returned (.tuple #[.agg #[.int .i64 e,.int .i64 j,.bool o],.bool true])∧Below w.heap.size w w':=by
 have hb:=ndB_iff.1 h
 obtain ⟨hbe,hbj⟩:=hb
 obtain ⟨j,rfl⟩:=Int.eq_ofNat_of_zero_le hbj.1
 have hj24:j≤24:=by omega
 have hlen:(ndT e j o).length<4294967281:=by have:=ndT_len e j o;omega
 have HX:=Lib.hid (Blk.new w 34 #[.int .i64 0,.int .i64 0,.bool false])
 have HB1:=Lib.hid ((Below.refl w.heap.size w).alloc (Nat.le_refl _) (.cells #[.int .i64 0,.int .i64 0,.bool false] 34))
 have HSP:=Lib.hid (split_any (ndT e j o) 32 (w.alloc (.cells #[.int .i64 0,.int .i64 0,.bool false] 34)) (hm.on HB1.out) hlen)
 rw [spl_nd h] at HSP
 have HAT:=Lib.hid (fun W=>atoi_any (decDigits e.toNat) W (dd_pos _) (by have:=dig_len7 (n:=e.toNat) (by omega);omega) (dd_all _))
 rw [dd_val,show ((e.toNat:Nat):Int)=e from Int.toNat_of_nonneg hbe.1] at HAT
 have HNT:=Lib.hid (fun (k:Nat) W (hW:Below w.heap.size w W)=>implNodeText_any e k o W (ht.on hW))
 have HNE:=Lib.hid (fun (k:Nat) (hk:k<j)=>show ((bs (ndT e k o)).toList==(bs (ndT e j o)).toList)=false by rw [bs_eq];exact decide_eq_false fun hh=>by have:=ndT_inj hbe (by omega) hj24 hh;omega)
 have HEQ:=Lib.hid (show ((bs (ndT e j o)).toList==(bs (ndT e j o)).toList)=true by rw [bs_eq];simp)
 clear ht hm h hlen
 obtain ⟨L,hL⟩:∃L,bs (ndT e j o)=L:=⟨_,rfl⟩
 rw [hL] at HSP HEQ HNE ⊢
 have HLL:=Lib.hid hL;clear hL
 go_enter Tryz.func33,Tryz.ntmps33
 go_wp2_with fail
 refine HSP.out.mono ?_
 rintro en w1 ⟨rfl,rfl⟩
 obtain ⟨D,hD⟩:∃D,bs (decDigits e.toNat)=D:=⟨_,rfl⟩
 obtain ⟨J,hJ⟩:∃J,bs (spT (j:Int))=J:=⟨_,rfl⟩
 have HW1:=Lib.hid (Blk.new (w.alloc (.cells #[.int .i64 0,.int .i64 0,.bool false] 34)) 9 #[.string D,.string J,.string (bs [if o then 111 else 101])])
 rw [World.size_alloc] at HW1
 simp only [List.map_cons,List.map_nil,List.length_cons,List.length_nil,hD,hJ]
 rw [hD] at HAT
 obtain ⟨W1,hW1⟩:∃W1,(w.alloc (.cells #[.int .i64 0,.int .i64 0,.bool false] 34)).alloc (.cells #[.string D,.string J,.string (bs [if o then 111 else 101])] 9)=W1:=⟨_,rfl⟩
 have HB2:Hid (Below w.heap.size w W1):=by unfold Hid;rw [←hW1];exact HB1.out.alloc (by simp) _
 have HX2:Hid (Blk W1 w.heap.size 34 #[.int .i64 0,.int .i64 0,.bool false]):=by unfold Hid;rw [←hW1];exact HX.out.alloc _
 have HO:=Lib.hid (isO o)
 generalize bs [if o then 111 else 101]=S at *
 rw [hW1] at HW1 ⊢
 clear hW1 hD hJ HX HB1 HSP
 obtain ⟨c0,c1,c2,_,_,_⟩:=blk3 HW1.out
 go_wp2_with fail
 refine (HAT.out _).mono ?_
 rintro en w3 ⟨rfl,hb3⟩
 have HB3:=Lib.hid (HB2.out.trans (hb3.mono HB2.out.size))
 have HX3:=Lib.hid (HX2.out.sub hb3)
 have HW3:=Lib.hid (HW1.out.sub hb3)
 clear hb3 HB2 HX2 HW1 c0 c1 c2 HAT
 go_wp2_with fail
 go_loopw [25] (fun i wr=>∃k:Nat,k≤j∧i=.int .i64 k∧Hid (Blk wr w.heap.size 34 #[.int .i64 0,.int .i64 0,.bool false])∧Hid (Blk wr (w.heap.size+1) 9 #[.string D,.string J,.string S])∧Hid (Below w.heap.size w wr)) (fun i _=>25-(RowKit.intOf i).toNat)
 case atStart=>exact ⟨0,Nat.zero_le _,rfl,HX3.out,HW3.out,HB3.out⟩
 case round =>
  clear HX3 HW3 HB3
  obtain ⟨k,hk,rfl,HX,HW,HB⟩:=hrel
  obtain ⟨c0,c1,c2,_,_,_⟩:=blk3 HW.out
  have ho:(S.toList==[111])=o:=HO.out
  have i1:(k:Int)<25:=by omega
  have HXN:=Lib.hid (HX.out.alloc (.cells #[.int .i64 e,.int .i64 k,.bool o] 34))
  have HWN:=Lib.hid (HW.out.alloc (.cells #[.int .i64 e,.int .i64 k,.bool o] 34))
  have HBN:=Lib.hid (HB.out.alloc HB.out.size (.cells #[.int .i64 e,.int .i64 k,.bool o] 34))
  have HYN:=Lib.hid (Blk.new wr 34 #[.int .i64 e,.int .i64 k,.bool o])
  have HCA:=Lib.hid (HNT.out k _ HBN.out)
  by_cases hkj:k<j
  ·have hne:=HNE.out k hkj
   generalize bs (ndT e (k:Int) o)=K at *
   go_wp2_with fail
   (with_reducible refine HCA.out.mono ?_)
   rintro en w5 ⟨rfl,hb5⟩
   have HX5:=Lib.hid (HXN.out.sub hb5)
   have HW5:=Lib.hid (HWN.out.sub hb5)
   have HB5:=Lib.hid (HBN.out.trans (hb5.mono HBN.out.size))
   clear hb5 HXN HWN HBN HYN HCA c0 c1 c2 ho
   go_wp2_with fail
   clear hne
   go_roundw
   case rel=>exact ⟨k+1,by omega,by go_num,HX5.out,HW5.out,HB5.out⟩
   case measure=>simp [RowKit.intOf];omega
  ·obtain rfl:k=j:=by omega
   rw [HLL.out] at HCA
   have heq:=HEQ.out
   go_wp2_with fail
   (with_reducible refine HCA.out.mono ?_)
   rintro en w5 ⟨rfl,hb5⟩
   have HX5:=Lib.hid (HXN.out.sub hb5)
   have HB5:=Lib.hid (HBN.out.trans (hb5.mono HBN.out.size))
   have HY5:=Lib.hid (HYN.out.sub hb5)
   obtain ⟨x1,x2,x3,f1,f2,f3⟩:=blk3 HX5.out
   obtain ⟨y1,y2,y3,_,_,_⟩:=blk3 HY5.out
   have HZ:=Lib.hid (((HX5.out.set 0 (.int .i64 e)).set 1 (.int .i64 k)).set 2 (.bool o))
   have HBZ:=Lib.hid (((HB5.out.setCell (p:=⟨w.heap.size,0,none⟩) (Nat.le_refl _) (.int .i64 e)).setCell (p:=⟨w.heap.size,1,none⟩) (Nat.le_refl _) (.int .i64 k)).setCell (p:=⟨w.heap.size,2,none⟩) (Nat.le_refl _) (.bool o))
   clear hb5 HXN HWN HBN HYN HCA c0 c1 c2 ho
   go_wp2_with fail
   refine bodyPost_ret (results_ct rfl _ _ w.heap.size _ _ _ _ rfl HZ.out Tryz.underlying34 rfl (by kernel_rfl)) rfl ?_
   exact ⟨rfl,HBZ.out⟩
end
end Go.Proofs.YtammfhheibaeaaaGreatDoor
