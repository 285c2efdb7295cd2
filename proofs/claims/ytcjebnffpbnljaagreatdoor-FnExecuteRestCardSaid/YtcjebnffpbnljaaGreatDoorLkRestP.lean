/- The law FnExecuteRest. -/
import Derived.Test.YtcjebnffpbnljaaGreatDoorLiP
namespace Go.Proofs.YtcjebnffpbnljaaGreatDoor
section
open Go.RowKit Go.Lib
attribute [local go_sem ↓] Go.wp_at_zero Go.wp_at_succ
set_option maxHeartbeats 8000000 in
set_option maxRecDepth 100000 in
theorem fnExecuteRest_walk (A:Option Addr) (n0 c0:Nat) (w:World) (hn:n0≤maxLen) (hc:n0≤c0) (hb:Bytes w w.heap.size A n0) (ht:Tab w) (hm:Mx w) (hE:Ers w) (he:Er w) (hd:Mi.Dbt w) :
 Calls Tryz.prog 4 #[.slice A n0 c0] w fun e w'=>e=.returned (.bool true)∧Below w.heap.size w w':=by
 unfold maxLen at hn
 have HIE:=kk (fun(l:List UInt8) W (hW:Below w.heap.size w W)=>implExecute_all l W (ht.on hW) (hm.on hW) (he.on hW) (hE.on hW) (hd.on hW))
 have HB:=kk hb
 have hB0:=Below.refl w.heap.size w
 clear ht hm hE he hd hb
 by_cases hbig:1048576<n0
 ·go_enter Tryz.func4,Tryz.ntmps4
  go_wp2_with fail
  go_ret
  exact⟨rfl,hB0⟩
 clear hB0
 go_enter Tryz.func4,Tryz.ntmps4
 go_wp2_with fail
 refine(DrawExecute_any A n0 c0 w (by omega) hc HB.out).mono ?_
 rintro e w1 ⟨X,rfl,hX,hb1⟩
 have HB1:=kk hb1;clear hb1 HB
 obtain⟨l,rfl⟩:∃l,X=bs l:=⟨X.data.toList,rfl⟩
 have hXl:l.length≤10000:=by rw[bs_size] at hX;exact hX
 have HI1:=kk (HIE.out l)
 have HS1:=kk (fun W=>specExecute_any l W)
 have hsz:(bs l).size=l.length:=bs_size l
 by_cases hl:l.length≤600
 case neg =>
  rw[exT_long l hl,show bs [116,111,111,32,108,111,110,103,10]=(⟨#[116,111,111,32,108,111,110,103,10]⟩:ByteArray) from rfl] at HI1 HS1
  clear HIE
  have i1:(600:Int)<(l.length:Int):=by omega
  generalize bs l=X at *
  generalize l.length=n at *
  go_wp2_with fail
  refine(HI1.out _ HB1.out).mono ?_
  rintro e w2 ⟨rfl,hb2⟩
  have HB2:=kk (bel_sub HB1.out hb2);clear hb2
  go_wp2_with fail
  refine(HS1.out _).mono ?_
  rintro e w3 ⟨rfl,hb3⟩
  have HB3:=kk (bel_sub HB2.out hb3);clear hb3 HB1 HB2 HI1 HS1
  go_wp2_with fail
  go_ret
  exact⟨ret_bool (by simp),HB3.out⟩
 have HC:=kk (fun W=>complete_any l W (by omega))
 have HI2:=kk (HIE.out (cmpl l))
 rw[exT_cmpl l hl] at HI2
 clear HIE
 have i1:¬(600:Int)<(l.length:Int):=by omega
 generalize bs (exT l)=Y at *
 generalize bs (cmpl l)=C at *
 generalize bs l=X at *
 generalize l.length=n at *
 go_wp2_with fail
 refine(HI1.out _ HB1.out).mono ?_
 rintro e w2 ⟨rfl,hb2⟩
 have HB2:=kk (bel_sub HB1.out hb2);clear hb2
 go_wp2_with fail
 refine(HS1.out _).mono ?_
 rintro e w3 ⟨rfl,hb3⟩
 have HB3:=kk (bel_sub HB2.out hb3);clear hb3 HB1 HB2 HI1 HS1
 go_wp2_with fail
 refine(HC.out _).mono ?_
 rintro e w4 ⟨rfl,rfl⟩
 go_wp2_with fail
 refine(HI2.out _ HB3.out).mono ?_
 rintro e w5 ⟨rfl,hb5⟩
 have HB5:=kk (bel_sub HB3.out hb5);clear hb5
 go_wp2_with fail
 go_ret
 exact⟨ret_bool (by simp),HB5.out⟩
end
end Go.Proofs.YtcjebnffpbnljaaGreatDoor