/- The law FnExecuteJoin. -/
import Derived.Test.YtcjebnffpbnljaaGreatDoorLiP
namespace Go.Proofs.YtcjebnffpbnljaaGreatDoor
section
open Go.RowKit Go.Lib
attribute [local go_sem ↓] Go.wp_at_zero Go.wp_at_succ
set_option maxHeartbeats 8000000 in
set_option maxRecDepth 100000 in
theorem fnExecuteJoin_walk (A:Option Addr) (n0 c0:Nat) (A':Option Addr) (n1 c1:Nat) (w:World) (hn:n0≤maxLen) (hc:n0≤c0) (hb:Bytes w w.heap.size A n0) (hn1:n1≤maxLen) (hc1:n1≤c1) (hb1:Bytes w w.heap.size A' n1) (ht:Tab w) (hm:Mx w) (hE:Ers w) (he:Er w) (hd:Mi.Dbt w) :
 Calls Tryz.prog 5 #[.slice A n0 c0,.slice A' n1 c1] w fun e w'=>e=.returned (.bool true)∧Below w.heap.size w w':=by
 unfold maxLen at hn hn1
 have HIE:=kk (fun(l:List UInt8) W (hW:Below w.heap.size w W)=>implExecute_all l W (ht.on hW) (hm.on hW) (he.on hW) (hE.on hW) (hd.on hW))
 have HB:=kk hb
 have HBm:Hid (∀W,Below w.heap.size w W→Bytes W W.heap.size A' n1):=fun W hW hn=>by
  obtain⟨b,off,e,hlt,hc⟩:=(hb1.keep fun p hp=>hW.cell hp) hn
  exact⟨b,off,e,Nat.lt_of_lt_of_le hlt hW.size,hc⟩
 have hB0:=Below.refl w.heap.size w
 clear ht hm hE he hd hb hb1
 by_cases hbig:1048576<n0
 ·go_enter Tryz.func5,Tryz.ntmps5
  go_wp2_with fail
  go_ret
  exact⟨rfl,hB0⟩
 by_cases hbig1:1048576<n1
 ·go_enter Tryz.func5,Tryz.ntmps5
  go_wp2_with fail
  go_ret
  exact⟨rfl,hB0⟩
 clear hB0
 go_enter Tryz.func5,Tryz.ntmps5
 go_wp2_with fail
 refine(DrawExecute_any A n0 c0 w (by omega) hc HB.out).mono ?_
 rintro e w1 ⟨X,rfl,hX,hb1⟩
 have HB1:=kk hb1;clear hb1 HB
 obtain⟨l,rfl⟩:∃l,X=bs l:=⟨X.data.toList,rfl⟩
 have hXl:l.length≤10000:=by rw[bs_size] at hX;exact hX
 have HI1:=kk (HIE.out l)
 have HS1:=kk (fun W=>specExecute_any l W)
 have hcs:(bs (cmpl l)).size=(cmpl l).length:=bs_size _
 have HCM:=kk (fun W=>complete_any l W (by omega))
 have HLL:=kk (cmpl_len l)
 obtain⟨C,hC⟩:∃C,bs (cmpl l)=C:=⟨_,rfl⟩
 rw[hC] at hcs HCM
 have HCQ:=kk hC;clear hC
 obtain⟨n,hnn⟩:∃n,(cmpl l).length=n:=⟨_,rfl⟩
 rw[hnn] at hcs
 have HNQ:=kk hnn;clear hnn
 generalize bs (exT l)=Y at *
 generalize bs l=X at *
 go_wp2_with fail
 refine(HI1.out _ HB1.out).mono ?_
 rintro e w2 ⟨rfl,hb2⟩
 have HB2:=kk (bel_sub HB1.out hb2);clear hb2
 go_wp2_with fail
 refine(HS1.out _).mono ?_
 rintro e w3 ⟨rfl,hb3⟩
 have HB3:=kk (bel_sub HB2.out hb3);clear hb3 HB1 HB2 HI1 HS1
 go_wp2_with fail
 refine(HCM.out _).mono ?_
 rintro e w4 ⟨rfl,rfl⟩
 go_wp2_with fail
 refine(DrawExecute_any A' n1 c1 w3 (by omega) hc1 (HBm.out _ HB3.out)).mono ?_
 rintro e w5 ⟨X',rfl,hX',hb5⟩
 have HB5:=kk (bel_sub HB3.out hb5);clear hb5 HB3 HBm
 obtain⟨m,rfl⟩:∃m,X'=bs m:=⟨X'.data.toList,rfl⟩
 have hm0:m.length≤10000:=by rw[bs_size] at hX';exact hX'
 have hct:(bs (cmpl m)).size=(cmpl m).length:=bs_size _
 have HCN:=kk (fun W=>complete_any m W (by omega))
 have HLM:=kk (cmpl_len m)
 have hll:n≤10000:=by have:=HLL.out;have:=HNQ.out;omega
 have hlm:(cmpl m).length≤10000:=by have:=HLM.out;omega
 by_cases hl:n+(cmpl m).length≤600
 case neg =>
  clear HIE
  have i1:(600:Int)<(n:Int)+((cmpl m).length:Int):=by omega
  generalize bs (cmpl m)=D at *
  generalize (cmpl m).length=n' at *
  generalize bs m=M at *
  go_wp2_with fail
  refine(HCN.out _).mono ?_
  rintro e w6 ⟨rfl,rfl⟩
  go_wp2_with fail
  go_ret
  exact⟨rfl,HB5.out⟩
 have i1:¬(600:Int)<(n:Int)+((cmpl m).length:Int):=by omega
 rw[←HNQ.out] at hl
 have HIa:=kk (HIE.out (cmpl l))
 have HIb:=kk (HIE.out (cmpl m))
 have HIc:=kk (HIE.out (cmpl l++cmpl m))
 have hza:=(exT_size (cmpl l)).2
 have hzb:=(exT_size (cmpl m)).2
 have hzc:=(exT_size (cmpl l++cmpl m)).2
 rw[exT_body l (by omega)] at HIa hza
 rw[exT_body m (by omega)] at HIb hzb
 rw[exT_join l m hl] at HIc hzc
 rw[←bs_append (cmpl l) (cmpl m),HCQ.out] at HIc
 rw[HCQ.out] at HIa
 clear hl
 clear HIE
 have hea:E10 (unl ((linesO l).map ansL)):=unl_e10 _
 have heb:E10 (unl ((linesO m).map ansL)):=unl_e10 _
 have hec:E10 (unl ((linesO l).map ansL)++unl ((linesO m).map ansL)):=by rw[←unl_append];exact unl_e10 _
 obtain⟨P,hP⟩:∃P,unl ((linesO l).map ansL)=P:=⟨_,rfl⟩
 obtain⟨Q,hQ⟩:∃Q,unl ((linesO m).map ansL)=Q:=⟨_,rfl⟩
 rw[hP] at HIa HIc hza hzc hea hec
 rw[hQ] at HIb HIc hzb hzc heb hec
 clear hP hQ
 generalize (linesO l).length=k at *
 generalize (linesO m).length=k' at *
 have HLa:=kk (fun W=>lastLine_any (P) (tailT k) W hea (tailT_free _) (by have h:=hza;omega))
 have HCa:Hid (∀W:World,(Instr.slice 9 (.string (bs (P++(tailT k++[10])))) none (some (.int .i64 ((P).length:Int))) none).run Tryz.prog W=.ok (.string (bs (P))) W):=fun W=>by
  have h:=sl_head (P++(tailT k++[10])) (P).length (by simp) W
  rw[List.take_left] at h
  exact h
 have hxa:(bs (P++(tailT k++[10]))).size=(P).length+(bs (tailT k++[10])).size:=by rw[bs_size,bs_size,List.length_append]
 have hya:(bs (P++(tailT k++[10]))).size≤10000000:=by rw[bs_size];have h:=hza;omega
 have HLb:=kk (fun W=>lastLine_any (Q) (tailT k') W heb (tailT_free _) (by have h:=hzb;omega))
 have HCb:Hid (∀W:World,(Instr.slice 9 (.string (bs (Q++(tailT k'++[10])))) none (some (.int .i64 ((Q).length:Int))) none).run Tryz.prog W=.ok (.string (bs (Q))) W):=fun W=>by
  have h:=sl_head (Q++(tailT k'++[10])) (Q).length (by simp) W
  rw[List.take_left] at h
  exact h
 have hxb:(bs (Q++(tailT k'++[10]))).size=(Q).length+(bs (tailT k'++[10])).size:=by rw[bs_size,bs_size,List.length_append]
 have hyb:(bs (Q++(tailT k'++[10]))).size≤10000000:=by rw[bs_size];have h:=hzb;omega
 have HLc:=kk (fun W=>lastLine_any (P++Q) (tailT (k+k')) W hec (tailT_free _) (by have h:=hzc;omega))
 have HCc:Hid (∀W:World,(Instr.slice 9 (.string (bs (P++Q++(tailT (k+k')++[10])))) none (some (.int .i64 ((P++Q).length:Int))) none).run Tryz.prog W=.ok (.string (bs (P++Q))) W):=fun W=>by
  have h:=sl_head (P++Q++(tailT (k+k')++[10])) (P++Q).length (by simp) W
  rw[List.take_left] at h
  exact h
 have hxc:(bs (P++Q++(tailT (k+k')++[10]))).size=(P++Q).length+(bs (tailT (k+k')++[10])).size:=by rw[bs_size,bs_size,List.length_append]
 have hyc:(bs (P++Q++(tailT (k+k')++[10]))).size≤10000000:=by rw[bs_size];have h:=hzc;omega
 have hpl:(bs P).size≤10000000:=by rw[bs_size];rw[bs_size,List.length_append] at hya;omega
 have hql:(bs Q).size≤10000000:=by rw[bs_size];rw[bs_size,List.length_append] at hyb;omega
 rw[←bs_append P Q] at HCc
 clear hza hzb hzc hea heb hec
 generalize bs (P++(tailT k++[10]))=Xa at *
 generalize bs (tailT k++[10])=Za at *
 generalize bs (Q++(tailT k'++[10]))=Xb at *
 generalize bs (tailT k'++[10])=Zb at *
 generalize bs (P++Q++(tailT (k+k')++[10]))=Xc at *
 generalize bs (tailT (k+k')++[10])=Zc at *
 generalize (P++Q).length=pc at *
 generalize bs P=Ba at *
 generalize bs Q=Bb at *
 generalize P.length=pa at *
 generalize Q.length=pb at *
 generalize bs (cmpl m)=D at *
 generalize (cmpl m).length=n' at *
 generalize bs m=M at *
 go_wp2_with fail
 refine(HCN.out _).mono ?_
 rintro e w6 ⟨rfl,rfl⟩
 go_wp2_with fail
 refine(HIa.out _ HB5.out).mono ?_
 rintro e w6 ⟨rfl,hb6⟩
 have HB6:=kk (bel_sub HB5.out hb6);clear hb6 HB5
 go_wp2_with fail
 refine(HIb.out _ HB6.out).mono ?_
 rintro e w7 ⟨rfl,hb7⟩
 have HB7:=kk (bel_sub HB6.out hb7);clear hb7 HB6
 go_wp2_with fail
 refine(HIc.out _ HB7.out).mono ?_
 rintro e w8 ⟨rfl,hb8⟩
 have HB8:=kk (bel_sub HB7.out hb8);clear hb8 HB7
 have HCa':=HCa.out
 have HCb':=HCb.out
 have HCc':=HCc.out
 clear HCM HCN
 go_wp2_with fail
 refine(HLa.out _).mono ?_
 rintro e w9 ⟨rfl,rfl⟩
 go_wp2_with fail
 refine(HLb.out _).mono ?_
 rintro e w10 ⟨rfl,rfl⟩
 go_wp2_with fail
 refine(HLc.out _).mono ?_
 rintro e w11 ⟨rfl,rfl⟩
 go_wp2_with fail
 go_ret
 exact⟨ret_bool (by simp),HB8.out⟩
end
end Go.Proofs.YtcjebnffpbnljaaGreatDoor