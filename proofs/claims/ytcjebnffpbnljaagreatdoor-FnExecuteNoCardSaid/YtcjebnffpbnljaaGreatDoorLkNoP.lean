/- The law FnExecuteNo. -/
import Derived.Test.YtcjebnffpbnljaaGreatDoorLiP
namespace Go.Proofs.YtcjebnffpbnljaaGreatDoor
section
open Go.RowKit Go.Lib
attribute [local go_sem ↓] Go.wp_at_zero Go.wp_at_succ
set_option maxHeartbeats 8000000 in
set_option maxRecDepth 100000 in
theorem fnExecuteNo_walk (A:Option Addr) (n0 c0:Nat) (w:World) (hn:n0≤maxLen) (hc:n0≤c0) (hb:Bytes w w.heap.size A n0) (ht:Tab w) (hm:Mx w) (hE:Ers w) (he:Er w) (hd:Mi.Dbt w) :
 Calls Tryz.prog 7 #[.slice A n0 c0] w fun e w'=>e=.returned (.bool true)∧Below w.heap.size w w':=by
 unfold maxLen at hn
 have HIE:=kk (fun(l:List UInt8) W (hW:Below w.heap.size w W)=>implExecute_all l W (ht.on hW) (hm.on hW) (he.on hW) (hE.on hW) (hd.on hW))
 have HB:=kk hb
 have hB0:=Below.refl w.heap.size w
 clear ht hm hE he hd hb
 by_cases hbig:1048576<n0
 ·go_enter Tryz.func7,Tryz.ntmps7
  go_wp2_with fail
  go_ret
  exact⟨rfl,hB0⟩
 clear hB0
 go_enter Tryz.func7,Tryz.ntmps7
 go_wp2_with fail
 refine(DrawExecute_any A n0 c0 w (by omega) hc HB.out).mono ?_
 rintro e w1 ⟨X,rfl,hX,hb1⟩
 have HB1:=kk hb1;clear hb1 HB
 obtain⟨l,rfl⟩:∃l,X=bs l:=⟨X.data.toList,rfl⟩
 have hXl:l.length≤10000:=by rw[bs_size] at hX;exact hX
 have HI1:=kk (HIE.out l)
 have HS1:=kk (fun W=>specExecute_any l W)
 have hcs:(bs (cmpl l)).size=(cmpl l).length:=bs_size _
 have HCM:=kk (fun W=>complete_any l W (by omega))
 by_cases hl:(cmpl l).length≤591
 case neg =>
  clear HIE
  have i1:(591:Int)<((cmpl l).length:Int):=by omega
  generalize bs (exT l)=Y at *
  generalize bs (cmpl l)=C at *
  generalize (cmpl l).length=n at *
  generalize bs l=X at *
  go_wp2_with fail
  refine(HI1.out _ HB1.out).mono ?_
  rintro e w2 ⟨rfl,hb2⟩
  have HB2:=kk (bel_sub HB1.out hb2);clear hb2
  go_wp2_with fail
  refine(HS1.out _).mono ?_
  rintro e w3 ⟨rfl,hb3⟩
  have HB3:=kk (bel_sub HB2.out hb3);clear hb3 HB1 HB2 HI1 HS1
  go_wp2_with fail
  refine(HCM.out _).mono ?_
  rintro e w4 ⟨rfl,rfl⟩
  go_wp2_with fail
  go_ret
  exact⟨ret_bool (by simp),HB3.out⟩
 have i1:¬(591:Int)<((cmpl l).length:Int):=by omega
 have HIa:=kk (HIE.out (cmpl l))
 have HIb:=kk (HIE.out (cmpl l++[103,114,111,117,110,100,32,48,10]))
 have hza:=(exT_size (cmpl l)).2
 have hzb:=(exT_size (cmpl l++[103,114,111,117,110,100,32,48,10])).2
 rw[exT_body l (by omega)] at HIa hza
 rw[exT_no l hl] at HIb hzb
 rw[←bs_append (cmpl l) [103,114,111,117,110,100,32,48,10],show bs [103,114,111,117,110,100,32,48,10]=(⟨#[103,114,111,117,110,100,32,48,10]⟩:ByteArray) from rfl] at HIb
 clear HIE
 have hea:E10 (unl ((linesO l).map ansL)):=unl_e10 _
 have heb:E10 (unl ((linesO l).map ansL)++[110,111,10]):=.inr ⟨unl ((linesO l).map ansL)++[110,111],by simp⟩
 obtain⟨P,hP⟩:∃P,unl ((linesO l).map ansL)=P:=⟨_,rfl⟩
 rw[hP] at HIa HIb hza hzb hea heb
 clear hP
 generalize (linesO l).length=k at *
 have HLa:=kk (fun W=>lastLine_any (P) (tailT k) W hea (tailT_free _) (by have h:=hza;omega))
 have HCa:Hid (∀W:World,(Instr.slice 9 (.string (bs (P++(tailT k++[10])))) none (some (.int .i64 ((P).length:Int))) none).run Tryz.prog W=.ok (.string (bs (P))) W):=fun W=>by
  have h:=sl_head (P++(tailT k++[10])) (P).length (by simp) W
  rw[List.take_left] at h
  exact h
 have hxa:(bs (P++(tailT k++[10]))).size=(P).length+(bs (tailT k++[10])).size:=by rw[bs_size,bs_size,List.length_append]
 have hya:(bs (P++(tailT k++[10]))).size≤10000000:=by rw[bs_size];have h:=hza;omega
 have HLb:=kk (fun W=>lastLine_any (P++[110,111,10]) (tailT (k+1)) W heb (tailT_free _) (by have h:=hzb;omega))
 have HCb:Hid (∀W:World,(Instr.slice 9 (.string (bs (P++[110,111,10]++(tailT (k+1)++[10])))) none (some (.int .i64 ((P++[110,111,10]).length:Int))) none).run Tryz.prog W=.ok (.string (bs (P++[110,111,10]))) W):=fun W=>by
  have h:=sl_head (P++[110,111,10]++(tailT (k+1)++[10])) (P++[110,111,10]).length (by simp) W
  rw[List.take_left] at h
  exact h
 have hxb:(bs (P++[110,111,10]++(tailT (k+1)++[10]))).size=(P++[110,111,10]).length+(bs (tailT (k+1)++[10])).size:=by rw[bs_size,bs_size,List.length_append]
 have hyb:(bs (P++[110,111,10]++(tailT (k+1)++[10]))).size≤10000000:=by rw[bs_size];have h:=hzb;omega
 have hab:bs (P++[110,111,10])=bs P++(⟨#[110,111,10]⟩:ByteArray):=(bs_append _ _).symm
 have hps:(bs P).size≤10000000:=by rw[bs_size];rw[bs_size] at hya;simp at hya;omega
 clear hza hzb hea heb
 generalize bs (P++(tailT k++[10]))=Xa at *
 generalize bs (tailT k++[10])=Za at *
 generalize bs (P++[110,111,10]++(tailT (k+1)++[10]))=Xb at *
 generalize bs (tailT (k+1)++[10])=Zb at *
 rw[hab] at HCb
 generalize bs P=Ba at *
 generalize P.length=pa at *
 generalize (P++[110,111,10]).length=pb at *
 clear hab
 generalize bs (exT l)=Y at *
 generalize bs (cmpl l)=C at *
 generalize (cmpl l).length=n at *
 generalize bs l=X at *
 go_wp2_with fail
 refine(HI1.out _ HB1.out).mono ?_
 rintro e w2 ⟨rfl,hb2⟩
 have HB2:=kk (bel_sub HB1.out hb2);clear hb2
 go_wp2_with fail
 refine(HS1.out _).mono ?_
 rintro e w3 ⟨rfl,hb3⟩
 have HB3:=kk (bel_sub HB2.out hb3);clear hb3 HB1 HB2 HI1 HS1
 go_wp2_with fail
 refine(HCM.out _).mono ?_
 rintro e w4 ⟨rfl,rfl⟩
 go_wp2_with fail
 refine(HIa.out _ HB3.out).mono ?_
 rintro e w4 ⟨rfl,hb4⟩
 have HB4:=kk (bel_sub HB3.out hb4);clear hb4 HB3
 go_wp2_with fail
 refine(HIb.out _ HB4.out).mono ?_
 rintro e w5 ⟨rfl,hb5⟩
 have HB5:=kk (bel_sub HB4.out hb5);clear hb5 HB4
 have HCa':=HCa.out
 have HCb':=HCb.out
 clear HCM
 go_wp2_with fail
 refine wp_region_after (by kernel_rfl) (by kernel_rfl) ?_
 repeat (go_big_quiet_step ((go_at_call 12;first | (with_reducible exact after_same _ (HLa.out _)) | (with_reducible exact after_same _ (HLb.out _)))))
 refine wpQuiet_nil ?_
 intro w9 hw'
 obtain⟨⟨w9',hb9⟩,hw''⟩:=hw'
 subst hw''
 have HB9:=kk (bel_sub HB5.out hb9);clear hb9
 go_wp2_with fail
 go_ret
 exact⟨ret_bool (by simp),HB9.out⟩
end
end Go.Proofs.YtcjebnffpbnljaaGreatDoor