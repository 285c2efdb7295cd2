/- The law FnExecuteNone. -/
import Derived.Test.YtcjebnffpbnljaaGreatDoorLiP
namespace Go.Proofs.YtcjebnffpbnljaaGreatDoor
section
open Go.RowKit Go.Lib
attribute [local go_sem ↓] Go.wp_at_zero Go.wp_at_succ
set_option maxHeartbeats 8000000 in
set_option maxRecDepth 100000 in
theorem fnExecuteNone_walk (A:Option Addr) (n0 c0:Nat) (w:World) (hn:n0≤maxLen) (hc:n0≤c0) (hb:Bytes w w.heap.size A n0) (ht:Tab w) (hm:Mx w) (hE:Ers w) (he:Er w) (hd:Mi.Dbt w) :
 Calls Tryz.prog 3 #[.slice A n0 c0] w fun e w'=>e=.returned (.bool true)∧Below w.heap.size w w':=by
 unfold maxLen at hn
 have HIE:=kk (fun(l:List UInt8) W (hW:Below w.heap.size w W)=>implExecute_all l W (ht.on hW) (hm.on hW) (he.on hW) (hE.on hW) (hd.on hW))
 have HB:=kk hb
 have hB0:=Below.refl w.heap.size w
 clear ht hm hE he hd hb
 by_cases hbig:1048576<n0
 ·go_enter Tryz.func3,Tryz.ntmps3
  go_wp2_with fail
  go_ret
  exact⟨rfl,hB0⟩
 clear hB0
 go_enter Tryz.func3,Tryz.ntmps3
 go_wp2_with fail
 refine(DrawExecute_any A n0 c0 w (by omega) hc HB.out).mono ?_
 rintro e w1 ⟨X,rfl,hX,hb1⟩
 have HB1:=kk hb1;clear hb1 HB
 obtain⟨l,rfl⟩:∃l,X=bs l:=⟨X.data.toList,rfl⟩
 have hXl:l.length≤10000:=by rw[bs_size] at hX;exact hX
 have HI1:=kk (HIE.out l)
 have HS1:=kk (fun W=>specExecute_any l W)
 have he0:(bs (exT l)).toList.isEmpty=false:=by
  rw[show(bs (exT l)).toList=exT l from ByteArray.toList_mk _]
  have:=(exT_size l).1
  cases h:exT l with
  | nil=>rw[h] at this;simp at this
  | cons a r=>rfl
 have HI0:=kk (HIE.out [])
 rw[exT_nil] at HI0
 rw[show bs []=(⟨#[]⟩:ByteArray) from rfl,show bs [108,105,110,101,115,32,48,10]=(⟨#[108,105,110,101,115,32,48,10]⟩:ByteArray) from rfl] at HI0
 clear HIE
 generalize bs (exT l)=Y at *
 generalize bs l=X at *
 go_wp2_with fail
 refine(HI1.out _ HB1.out).mono ?_
 rintro e w2 ⟨rfl,hb2⟩
 have HB2:=kk (bel_sub HB1.out hb2);clear hb2
 go_wp2_with fail
 refine(HS1.out _).mono ?_
 rintro e w3 ⟨rfl,hb3⟩
 have HB3:=kk (bel_sub HB2.out hb3);clear hb3 HB1 HB2 HI1 HS1
 go_wp2_with fail
 refine(HI0.out _ HB3.out).mono ?_
 rintro e w4 ⟨rfl,hb4⟩
 have HB4:=kk (bel_sub HB3.out hb4);clear hb4 HB3
 go_wp2_with fail
 go_ret
 exact⟨ret_bool (by simp),HB4.out⟩
end
end Go.Proofs.YtcjebnffpbnljaaGreatDoor