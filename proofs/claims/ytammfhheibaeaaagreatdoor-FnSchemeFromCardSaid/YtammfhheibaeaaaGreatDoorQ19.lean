/- Parts of the proof of : Pb. -/
import Derived.Test.YtammfhheibaeaaaGreatDoorQ13
set_option maxHeartbeats 20000000
set_option maxRecDepth 1000000
set_option linter.unusedSimpArgs false
set_option linter.unusedVariables false
namespace Go.Proofs.YtammfhheibaeaaaGreatDoor
section
open Go.RowKit Go.Lib
attribute [local go_sem ↓] Go.wp_at_zero Go.wp_at_succ
def Er (w:World):Prop:=(∃te pe,w.cell? ⟨2,0,none⟩=some (.iface te pe))∧∃te pe,w.cell? ⟨3,0,none⟩=some (.iface te pe)
theorem Er.on {w w':World} (h:Er w) (hb:Below w.heap.size w w'):Er w':=by
 obtain ⟨⟨t,p,h1⟩,⟨t',p',h2⟩⟩:=h
 exact ⟨⟨t,p,(hb.cell (World.block_lt_of_cell? _ _ h1)).trans h1⟩,⟨t',p',(hb.cell (World.block_lt_of_cell? _ _ h2)).trans h2⟩⟩
theorem Atoi_ex (d:List UInt8) (w:World) (he:Er w) (hl:d.length≤281474976710656) :
 Calls Tryz.prog 47 #[.string (bs d)] w fun en w'=>(∃(v:Int) (x:Value),en=.returned (.tuple #[.int .i64 v,x])∧(x=.nilIface∨∃N,x=.iface 111 (.pointer (some ⟨N,0,none⟩))))∧Below w.heap.size w w':=by
 obtain ⟨⟨t,p,h1⟩,⟨t',p',h2⟩⟩:=he
 have hs:(bs d).size=d.length:=bs_size d
 rcases h:Lib.atoiAll (bs d).data.toList with v | _ | _
 ·refine (Tryz.strconv_Atoi_ok (bs d) (by omega) v h w).mono ?_
  rintro en w' ⟨rfl,hw⟩
  refine ⟨⟨_,_,rfl,.inl rfl⟩,?_⟩
  rcases hw with rfl | ⟨r,rfl⟩
  ·exact Below.refl _ _
  ·exact Lib.bytesWorld_below _ _ _
 ·have hA:Calls Tryz.prog 47 #[.string (bs d)] w fun e w'=>∃N,e=.returned (.tuple #[.int .i64 0,.iface 111 (.pointer (some ⟨N,0,none⟩))])∧w.heap.size≤N∧w'.heap[N]?=some (.cells #[.string ⟨#[65,116,111,105]⟩,.string (bs d),.iface t p] 125 (0,0))∧Below w.heap.size w w':=Any.strconv_Atoi_syntax Tryz.laysC172 (bs d) (by omega) h _ w h1 (.inr ⟨_,_,rfl⟩)
  refine hA.mono ?_
  rintro en w' ⟨N,rfl,_,_,hb⟩
  exact ⟨⟨_,_,rfl,.inr ⟨N,rfl⟩⟩,hb⟩
 ·refine (Tryz.strconv_Atoi_range (bs d) (by omega) h _ w h2 (.inr ⟨_,_,rfl⟩)).mono ?_
  rintro en w' ⟨N,rfl,_,_,hb⟩
  exact ⟨⟨_,_,rfl,.inr ⟨N,rfl⟩⟩,hb⟩
theorem spl_piece (c:UInt8) (l:List UInt8):∀p∈spl c l,p.length≤l.length:=by
 induction l with
 | nil=>intro p hp;simp [spl] at hp;subst hp;simp
 | cons x r ih =>
  intro p hp
  unfold spl at hp
  by_cases h:x=c
  ·rw [if_pos h] at hp
   rcases List.mem_cons.1 hp with rfl | hp
   ·simp
   ·have:=ih p hp;simp;omega
  ·rw [if_neg h] at hp
   cases hs:spl c r with
   | nil=>rw [hs] at hp;simp at hp;subst hp;simp
   | cons q qs =>
    rw [hs] at hp ih
    rcases List.mem_cons.1 hp with rfl | hp
    ·have:=ih q (List.mem_cons_self ..);simp;omega
    ·have:=ih p (List.mem_cons_of_mem _ hp);simp;omega
theorem parseNode_ex (l:List UInt8) (w:World) (ht:Tab w) (hm:Mx w) (he:Er w) (hlen:l.length≤1048576) :
 Calls Tryz.prog 33 #[.string (bs l)] w fun en w'=>(∃(e j:Int) (o b:Bool),en=.returned (.tuple #[.agg #[.int .i64 e,.int .i64 j,.bool o],.bool b]))∧Below w.heap.size w w':=by
 have HX:=Lib.hid (Blk.new w 34 #[.int .i64 0,.int .i64 0,.bool false])
 have HB1:=Lib.hid ((Below.refl w.heap.size w).alloc (Nat.le_refl _) (.cells #[.int .i64 0,.int .i64 0,.bool false] 34))
 have HSP:=Lib.hid (split_any l 32 (w.alloc (.cells #[.int .i64 0,.int .i64 0,.bool false] 34)) (hm.on HB1.out) (by omega))
 have HAT:=Lib.hid (fun d (hd:d.length≤1048576) W (hW:Below w.heap.size w W)=>Atoi_ex d W (he.on hW) (by omega))
 have HNT:=Lib.hid (fun (e:Int) (o:Bool) (k:Nat) W (hW:Below w.heap.size w W)=>implNodeText_any e k o W (ht.on hW))
 have HPC:=Lib.hid (fun p hp=>Nat.le_trans (spl_piece 32 l p hp) hlen)
 clear ht hm he hlen
 generalize bs l=L at *
 obtain ⟨ps,hps⟩:∃ps,spl 32 l=ps:=⟨_,rfl⟩
 rw [hps] at HSP HPC
 clear hps
 by_cases h3:ps.length=3
 ·obtain ⟨d,j,s,rfl⟩:∃d j s,ps=[d,j,s]:=by
   match ps,h3 with
   | [d,j,s],_=>exact ⟨d,j,s,rfl⟩
  clear h3
  have HA:=Lib.hid (HAT.out d (HPC.out d (by simp)))
  clear HAT HPC
  go_enter Tryz.func33,Tryz.ntmps33
  go_wp2_with fail
  refine HSP.out.mono ?_
  rintro en w1 ⟨rfl,rfl⟩
  obtain ⟨D,hD⟩:∃D,bs d=D:=⟨_,rfl⟩
  obtain ⟨J,hJ⟩:∃J,bs j=J:=⟨_,rfl⟩
  obtain ⟨S,hS⟩:∃S,bs s=S:=⟨_,rfl⟩
  have HW1:=Lib.hid (Blk.new (w.alloc (.cells #[.int .i64 0,.int .i64 0,.bool false] 34)) 9 #[.string D,.string J,.string S])
  rw [World.size_alloc] at HW1
  simp only [List.map_cons,List.map_nil,List.length_cons,List.length_nil,hD,hJ,hS]
  rw [hD] at HA
  obtain ⟨W1,hW1⟩:∃W1,(w.alloc (.cells #[.int .i64 0,.int .i64 0,.bool false] 34)).alloc (.cells #[.string D,.string J,.string S] 9)=W1:=⟨_,rfl⟩
  have HB2:Hid (Below w.heap.size w W1):=by unfold Hid;rw [←hW1];exact HB1.out.alloc (by simp) _
  have HX2:Hid (Blk W1 w.heap.size 34 #[.int .i64 0,.int .i64 0,.bool false]):=by unfold Hid;rw [←hW1];exact HX.out.alloc _
  rw [hW1] at HW1 ⊢
  clear hW1 hD hJ hS HX HB1 HSP
  obtain ⟨c0,c1,c2,_,_,_⟩:=blk3 HW1.out
  go_wp2_with fail
  refine (HA.out _ HB2.out).mono ?_
  rintro en w3 ⟨⟨v,x,rfl,hx⟩,hb3⟩
  have HB3:=Lib.hid (HB2.out.trans (hb3.mono HB2.out.size))
  have HX3:=Lib.hid (HX2.out.sub hb3)
  have HW3:=Lib.hid (HW1.out.sub hb3)
  clear hb3 HB2 HX2 HW1 c0 c1 c2 HA
  rcases hx with rfl | ⟨N,rfl⟩
  ·go_wp2_with fail
   go_loopw [25] (fun i wr=>∃k:Nat,k≤25∧i=.int .i64 k∧Hid (Blk wr w.heap.size 34 #[.int .i64 0,.int .i64 0,.bool false])∧Hid (Blk wr (w.heap.size+1) 9 #[.string D,.string J,.string S])∧Hid (Below w.heap.size w wr)) (fun i _=>25-(RowKit.intOf i).toNat)
   case atStart=>exact ⟨0,Nat.zero_le _,rfl,HX3.out,HW3.out,HB3.out⟩
   case round =>
    clear HX3 HW3 HB3
    obtain ⟨k,hk,rfl,HX,HW,HB⟩:=hrel
    obtain ⟨c0,c1,c2,_,_,_⟩:=blk3 HW.out
    generalize hoo:(S.toList==[111])=o
    by_cases hk25:k<25
    ·have i1:(k:Int)<25:=by omega
     have HXN:=Lib.hid (HX.out.alloc (.cells #[.int .i64 v,.int .i64 k,.bool o] 34))
     have HWN:=Lib.hid (HW.out.alloc (.cells #[.int .i64 v,.int .i64 k,.bool o] 34))
     have HBN:=Lib.hid (HB.out.alloc HB.out.size (.cells #[.int .i64 v,.int .i64 k,.bool o] 34))
     have HYN:=Lib.hid (Blk.new wr 34 #[.int .i64 v,.int .i64 k,.bool o])
     have HCA:=Lib.hid (HNT.out v o k _ HBN.out)
     generalize bs (ndT v (k:Int) o)=K at *
     go_wp2_with fail
     (with_reducible refine HCA.out.mono ?_)
     rintro en w5 ⟨rfl,hb5⟩
     have HX5:=Lib.hid (HXN.out.sub hb5)
     have HW5:=Lib.hid (HWN.out.sub hb5)
     have HY5:=Lib.hid (HYN.out.sub hb5)
     have HB5:=Lib.hid (HBN.out.trans (hb5.mono HBN.out.size))
     clear hb5 HXN HWN HBN HYN HCA c0 c1 c2 hoo
     cases heq:(K.toList==L.toList)
     ·go_wp2_with fail
      go_roundw
      case rel=>exact ⟨k+1,by omega,by go_num,HX5.out,HW5.out,HB5.out⟩
      case measure=>simp [RowKit.intOf];omega
     ·obtain ⟨x1,x2,x3,f1,f2,f3⟩:=blk3 HX5.out
      obtain ⟨y1,y2,y3,_,_,_⟩:=blk3 HY5.out
      have HZ:=Lib.hid (((HX5.out.set 0 (.int .i64 v)).set 1 (.int .i64 k)).set 2 (.bool o))
      have HBZ:=Lib.hid (((HB5.out.setCell (p:=⟨w.heap.size,0,none⟩) (Nat.le_refl _) (.int .i64 v)).setCell (p:=⟨w.heap.size,1,none⟩) (Nat.le_refl _) (.int .i64 k)).setCell (p:=⟨w.heap.size,2,none⟩) (Nat.le_refl _) (.bool o))
      go_wp2_with fail
      refine bodyPost_ret (results_ct rfl _ _ w.heap.size _ _ _ _ rfl HZ.out Tryz.underlying34 rfl (by kernel_rfl)) rfl ?_
      exact ⟨⟨_,_,_,_,rfl⟩,HBZ.out⟩
    ·obtain rfl:k=25:=by omega
     clear c0 c1 c2 hoo
     obtain ⟨x1,x2,x3,f1,f2,f3⟩:=blk3 HX.out
     have HZ:=Lib.hid (((HX.out.set 0 (.int .i64 0)).set 1 (.int .i64 0)).set 2 (.bool false))
     have HBZ:=Lib.hid (((HB.out.setCell (p:=⟨w.heap.size,0,none⟩) (Nat.le_refl _) (.int .i64 0)).setCell (p:=⟨w.heap.size,1,none⟩) (Nat.le_refl _) (.int .i64 0)).setCell (p:=⟨w.heap.size,2,none⟩) (Nat.le_refl _) (.bool false))
     go_wp2_with fail
     refine bodyPost_ret (results_ct rfl _ _ w.heap.size _ _ _ _ rfl HZ.out Tryz.underlying34 rfl (by kernel_rfl)) rfl ?_
     exact ⟨⟨_,_,_,_,rfl⟩,HBZ.out⟩
  ·obtain ⟨x1,x2,x3,f1,f2,f3⟩:=blk3 HX3.out
   have HZ:=Lib.hid (((HX3.out.set 0 (.int .i64 0)).set 1 (.int .i64 0)).set 2 (.bool false))
   have HBZ:=Lib.hid (((HB3.out.setCell (p:=⟨w.heap.size,0,none⟩) (Nat.le_refl _) (.int .i64 0)).setCell (p:=⟨w.heap.size,1,none⟩) (Nat.le_refl _) (.int .i64 0)).setCell (p:=⟨w.heap.size,2,none⟩) (Nat.le_refl _) (.bool false))
   go_wp2_with fail
   refine bodyPost_ret (results_ct rfl _ _ w.heap.size _ _ _ _ rfl HZ.out Tryz.underlying34 rfl (by kernel_rfl)) rfl ?_
   exact ⟨⟨_,_,_,_,rfl⟩,HBZ.out⟩
 ·have h3':((ps.length:Int)==3)=false:=by rw [beq_eq_false_iff_ne];omega
  have h4':((ps.length:Int) != 3)=true:=by rw [bne_iff_ne];omega
  obtain ⟨LV,hLV⟩:∃LV,(ps.map fun x=>Value.string (bs x)).toArray=LV:=⟨_,rfl⟩
  rw [hLV] at HSP
  generalize ps.length=m at *
  clear h3 hLV HPC HAT HNT
  go_enter Tryz.func33,Tryz.ntmps33
  go_wp2_with fail
  refine HSP.out.mono ?_
  rintro en w1 ⟨rfl,rfl⟩
  obtain ⟨W1,hW1⟩:∃W1,(w.alloc (.cells #[.int .i64 0,.int .i64 0,.bool false] 34)).alloc (.cells LV 9)=W1:=⟨_,rfl⟩
  have HB3:Hid (Below w.heap.size w W1):=by unfold Hid;rw [←hW1];exact HB1.out.alloc (by simp) _
  have HX3:Hid (Blk W1 w.heap.size 34 #[.int .i64 0,.int .i64 0,.bool false]):=by unfold Hid;rw [←hW1];exact HX.out.alloc _
  rw [hW1]
  clear hW1 HX HB1 HSP
  obtain ⟨x1,x2,x3,f1,f2,f3⟩:=blk3 HX3.out
  have HZ:=Lib.hid (((HX3.out.set 0 (.int .i64 0)).set 1 (.int .i64 0)).set 2 (.bool false))
  have HBZ:=Lib.hid (((HB3.out.setCell (p:=⟨w.heap.size,0,none⟩) (Nat.le_refl _) (.int .i64 0)).setCell (p:=⟨w.heap.size,1,none⟩) (Nat.le_refl _) (.int .i64 0)).setCell (p:=⟨w.heap.size,2,none⟩) (Nat.le_refl _) (.bool false))
  go_wp2_with fail
  refine bodyPost_ret (results_ct rfl _ _ w.heap.size _ _ _ _ rfl HZ.out Tryz.underlying34 rfl (by kernel_rfl)) rfl ?_
  exact ⟨⟨_,_,_,_,rfl⟩,HBZ.out⟩
end
end Go.Proofs.YtammfhheibaeaaaGreatDoor
