/- Parts of the proof of : Cs2 Ir. -/
import Derived.Test.YtcjebnffpbnljaaGreatDoorQ24
set_option maxHeartbeats 20000000
set_option maxRecDepth 1000000
set_option linter.unusedSimpArgs false
set_option linter.unusedVariables false
namespace Go.Proofs.YtcjebnffpbnljaaGreatDoor
section
open Go.RowKit
attribute [local go_sem ↓] Go.wp_at_zero Go.wp_at_succ
theorem ls_hit:∀(k:Fin 4) (n:Fin 256),(((sLs.getD k.1 0).toNat:Int)==((UInt8.ofNat n.1).toNat:Int))=decide (Lib.indexByte sLs (UInt8.ofNat n.1)=(k.1:Int)):=by decide +kernel
theorem ls_at (k:Nat) (hk:k<4) (c:UInt8):(((sLs.getD k 0).toNat:Int)==(c.toNat:Int))=decide (Lib.indexByte sLs c=(k:Int)):=by
 have:=ls_hit ⟨k,by omega⟩ ⟨c.toNat,c.toNat_lt⟩
 rwa [UInt8.ofNat_toNat] at this
theorem ls_range:∀n:Fin 256,Lib.indexByte sLs (UInt8.ofNat n.1)=-1∨Lib.indexByte sLs (UInt8.ofNat n.1)=0∨Lib.indexByte sLs (UInt8.ofNat n.1)=1∨Lib.indexByte sLs (UInt8.ofNat n.1)=2∨Lib.indexByte sLs (UInt8.ofNat n.1)=3:=by decide +kernel
theorem ls_in (c:UInt8):Lib.indexByte sLs c=-1∨Lib.indexByte sLs c=0∨Lib.indexByte sLs c=1∨Lib.indexByte sLs c=2∨Lib.indexByte sLs c=3:=by
 have:=ls_range ⟨c.toNat,c.toNat_lt⟩
 rwa [UInt8.ofNat_toNat] at this
theorem l5Letter_any (c:UInt8) (w:World):Calls Tryz.prog 188 #[.int .u8 (c.toNat:Int)] w fun e w'=>e=.returned (.int .i64 (Lib.indexByte sLs c))∧w=w':=by
 have HLT:Hid (∀(k:Nat) (_:k<4) (W:World),(Instr.index 9 (.string ⟨#[115,112,100,102]⟩) (.int .i64 (k:Int))).run Tryz.prog W=.ok (.int .u8 ((sLs.getD k 0).toNat:Int)) W):=fun k hk W=>by
  have:=idx_strk sLs k (sLs.getD k 0) (by rw[List.getD_eq_getElem?_getD];have:k<sLs.length:=by show k<4;omega
                                          rw[List.getElem?_eq_getElem this];rfl) W
  exact this
 have HIA:=kk (fun k hk=>ls_at k hk c)
 have HIN:=kk (ls_in c)
 generalize Lib.indexByte sLs c=l at *
 obtain⟨C,hC⟩:∃C:Int,(c.toNat:Int)=C:=⟨_,rfl⟩
 rw[hC] at HIA ⊢
 clear hC
 go_enter Tryz.func188,Tryz.ntmps188
 go_wp2_with fail
 go_loop [3] (fun i=>∃k:Nat,k≤4∧i=.int .i64 (k:Int)∧Hid (∀j:Nat,j<k→l≠(j:Int))) (fun i=>4-(RowKit.intOf i).toNat)
 case atStart=>exact⟨0,by omega,rfl,fun j hj=>absurd hj (by omega)⟩
 case round =>
  obtain⟨k,hk,rfl,HN⟩:=hrel
  by_cases hlt:k<4
  ·have hlk:=fun W=>HLT.out k hlt W
   have hia:=HIA.out k hlt
   have d4:(k:Int)<4:=by omega
   generalize ((sLs.getD k 0).toNat:Int)=D at *
   by_cases hq:l=(k:Int)
   ·rw[decide_eq_true hq] at hia
    have HE:=kk hq;clear hq
    go_wp2_with fail
    go_ret
    exact⟨ret_int HE.out.symm,rfl⟩
   ·rw[decide_eq_false hq] at hia
    have HN2:Hid (∀j:Nat,j<k+1→l≠(j:Int)):=fun j hj=>by
     rcases Nat.lt_or_ge j k with h | h
     ·exact HN.out j h
     ·obtain rfl:j=k:=by omega
      exact hq
    clear hq
    go_wp2_with fail
    go_round
    case rel=>exact⟨k+1,by omega,by go_num,HN2.out⟩
    case measure=>simp[RowKit.intOf];omega
  ·obtain rfl:k=4:=by omega
   have HE:Hid (l=-1):=by
    have h0:=HN.out 0 (by omega);have h1:=HN.out 1 (by omega);have h2:=HN.out 2 (by omega);have h3:=HN.out 3 (by omega)
    have:=HIN.out
    unfold Hid;omega
   go_wp2_with fail
   go_ret
   exact⟨ret_int HE.out.symm,rfl⟩
theorem dgf_two (l:List UInt8) (h:l.length≤2):-1≤dgf l∧dgf l≤99:=by
 unfold dgf
 split
 ·rename_i hc
  match l,h with
  | [],_=>simp at hc
  | [a],_ =>
   have:=hc.2 a (by simp)
   simp[dval];omega
  | [a,b],_ =>
   have h1:=hc.2 a (by simp)
   have h2:=hc.2 b (by simp)
   simp[dval];omega
 ·omega
theorem dgf_dec:∀c:Fin 15,dgf (Lib.decDigits c.val)=(c.val:Int):=by decide +kernel
def shU (s:List UInt8):S3:=(((s.getD 0 0).toNat:Int)-48,Lib.indexByte sLs (s.getD 1 0),dgf (s.drop 2))
theorem shF_len {s:List UInt8} (h:s.length<3∨4<s.length):shF s=((0,0,0),false):=by
 cases hf:(shF s).2
 ·exact(shF_no hf).1
 ·obtain⟨hv,ht⟩:=shF_yes hf
  have:=(allSh_valid _ (allSh_mem hv)).2.1
  rw[ht] at this;omega
theorem shF_is {s:List UInt8} (h3:3≤s.length) (h4:s.length≤4):shF s=if shT (shU s)=s then(shU s,true) else((0,0,0),false):=by
 by_cases h:shT (shU s)=s
 ·rw[if_pos h]
  have hv:shvB (shU s)=true:=by
   cases hv:shvB (shU s) with
   | true=>rfl
   | false=>unfold shT at h;rw[hv] at h;simp at h;rw[h] at h3;simp at h3
  have:=shF_text hv
  rwa [h] at this
 ·rw[if_neg h]
  cases hf:(shF s).2
  ·exact(shF_no hf).1
  ·exfalso
   obtain⟨hv,ht⟩:=shF_yes hf
   generalize (shF s).1=x at hv ht
   have hA:=(allSh_valid x (allSh_mem hv)).2
   rw[ht] at hA
   obtain⟨_,a0,a1,a2,_⟩:=hA
   obtain⟨n,l,c,rfl,q1,q2,q3,q4,q5,q6⟩:=shv_nat hv
   simp only[Int.toNat_natCast] at a0 a1 a2
   apply h
   have e:shU s=((n:Int),(l:Int),(c:Int)):=by
    unfold shU
    rw[a2,dgf_dec ⟨c,by omega⟩,List.getD_eq_getElem?_getD,a0,List.getD_eq_getElem?_getD,a1]
    simp only[Option.getD_some]
    rw[idx_ls ⟨l,by omega⟩]
    rw[Prod.mk.injEq]
    refine⟨?_,rfl⟩
    have:(UInt8.ofNat (48+n)).toNat=48+n:=by
     rw[UInt8.toNat_ofNat'];omega
    omega
   rw[e];exact ht
theorem shU_sm (s:List UInt8) (h:s.length≤4):Sm (shU s):=by
 have h1:=dgf_two (s.drop 2) (by rw[List.length_drop];omega)
 have h2:=ls_in (s.getD 1 0)
 have h3:=(s.getD 0 0).toNat_lt
 unfold Sm shU
 simp only
 omega
theorem specShellFrom_all (s:List UInt8) (w:World) (hl:s.length≤1000000) :
 Calls Tryz.prog 124 #[.string (bs s)] w fun e w'=>e=.returned (shO (shF s))∧Below w.heap.size w w':=by
 have HB0:=kk (bel_alloc (Below.refl w.heap.size w) (.cells #[.int .i64 0,.int .i64 0,.int .i64 0] 86))
 have HX0:=kk (Blk.new w 86 #[.int .i64 0,.int .i64 0,.int .i64 0])
 have hsz:(bs s).size=s.length:=bs_size s
 by_cases hr:3≤s.length∧s.length≤4
 case neg =>
  rw[shF_len (by omega)]
  unfold shO
  simp only
  generalize bs s=X at *
  obtain⟨n,hn⟩:∃n,s.length=n:=⟨_,rfl⟩
  rw[hn] at hsz hr hl
  clear hn
  by_cases h3:n<3
  ·have d0:((n:Int)<3):=by omega
   go_enter Tryz.func124,Tryz.ntmps124
   go_wp2_with fail
   refine bodyPost_ret (results_ct3 rfl _ _ w.heap.size _ _ rfl HX0.out Tryz.underlying86 rfl (by kernel_rfl)) rfl ?_
   exact⟨rfl,HB0.out⟩
  ·have d0:¬((n:Int)<3):=by omega
   have d1:((4:Int)<(n:Int)):=by omega
   go_enter Tryz.func124,Tryz.ntmps124
   go_wp2_with fail
   refine bodyPost_ret (results_ct3 rfl _ _ w.heap.size _ _ rfl HX0.out Tryz.underlying86 rfl (by kernel_rfl)) rfl ?_
   exact⟨rfl,HB0.out⟩
 rw[shF_is hr.1 hr.2]
 have hsm:=shU_sm s hr.2
 have HSM:=kk hsm
 have HST:=kk (fun W=>specShellText_any (shU s) W hsm)
 have HEQ:=kk (bs_eq (shT (shU s)) s)
 have H0:s[0]?=some (s.getD 0 0):=by rw[List.getD_eq_getElem?_getD,List.getElem?_eq_getElem (by omega)];rfl
 have H1:s[1]?=some (s.getD 1 0):=by rw[List.getD_eq_getElem?_getD,List.getElem?_eq_getElem (by omega)];rfl
 have HI0:Hid (∀W:World,(Instr.index 9 (.string (bs s)) (.int .i64 0)).run Tryz.prog W=.ok (.int .u8 ((s.getD 0 0).toNat:Int)) W):=fun W=>idx_strk s 0 _ H0 W
 have HI1:Hid (∀W:World,(Instr.index 9 (.string (bs s)) (.int .i64 1)).run Tryz.prog W=.ok (.int .u8 ((s.getD 1 0).toNat:Int)) W):=fun W=>idx_strk s 1 _ H1 W
 have HS2:Hid (∀W:World,(Instr.slice 9 (.string (bs s)) (some (.int .i64 2)) none none).run Tryz.prog W=.ok (.string (bs (s.drop 2))) W):=fun W=>sl_tail s 2 (by omega) W
 have HL5:=kk (fun W=>l5Letter_any (s.getD 1 0) W)
 have HDG:=kk (fun W=>l1Digits_any (s.drop 2) W (by rw[List.length_drop];omega))
 have hu:shU s=(((s.getD 0 0).toNat:Int)-48,Lib.indexByte sLs (s.getD 1 0),dgf (s.drop 2)):=rfl
 have h0l:=(s.getD 0 0).toNat_lt
 rw[hu] at HST HEQ hsm ⊢
 unfold Sm at hsm
 simp only at hsm HST
 obtain⟨z0,hz0⟩:∃z:Int,((s.getD 0 0).toNat:Int)=z:=⟨_,rfl⟩
 rw[hz0] at HI0 HST HEQ hsm ⊢
 have hz01:0≤z0∧z0≤255:=by omega
 clear hz0 h0l hu H0 H1 HSM
 obtain⟨L,hL⟩:∃L,Lib.indexByte sLs (s.getD 1 0)=L:=⟨_,rfl⟩
 rw[hL] at HL5 HST HEQ hsm ⊢
 clear hL
 obtain⟨v,hv⟩:∃v,dgf (s.drop 2)=v:=⟨_,rfl⟩
 rw[hv] at HDG HST HEQ hsm ⊢
 clear hv
 obtain⟨q,hq⟩:∃q:Bool,decide (shT (z0-48,L,v)=s)=q:=⟨_,rfl⟩
 have HRE:Hid ((if shT (z0-48,L,v)=s then((z0-48,L,v),true) else(((0:Int),(0:Int),(0:Int)),false))=if q then((z0-48,L,v),true) else((0,0,0),false)):=by
  unfold Hid
  rw[←hq]
  by_cases h:shT (z0-48,L,v)=s
  ·rw[if_pos h,decide_eq_true h];rfl
  ·rw[if_neg h,decide_eq_false h];rfl
 rw[HRE.out]
 have HEQ2:=kk (HEQ.out.trans hq)
 clear hq HRE HEQ
 obtain⟨C1,hC1⟩:∃C:Int,((s.getD 1 0).toNat:Int)=C:=⟨_,rfl⟩
 rw[hC1] at HI1 HL5
 clear hC1
 generalize bs (shT (z0-48,L,v))=Y at *
 generalize bs (s.drop 2)=R at *
 generalize bs s=X at *
 obtain⟨n,hn⟩:∃n,s.length=n:=⟨_,rfl⟩
 rw[hn] at hsz hr hl
 clear hn
 have d0:¬((n:Int)<3):=by omega
 have d1:¬((4:Int)<(n:Int)):=by omega
 have u1:IntKind.i64.wrap z0=z0:=IntWalk.i64_in _ (by omega)
 have u2:IntKind.i64.wrap (z0-48)=z0-48:=IntWalk.i64_in _ (by omega)
 unfold shO
 go_enter Tryz.func124,Tryz.ntmps124
 go_wp2_with fail
 have hi0:=HI0.out
 have hi1:=HI1.out
 have hs2:=HS2.out
 refine Fr.region_free' [(86,4)] [(86,4,.tmp 24)] (fun _=>86) (fun _=>#[.int .i64 0,.int .i64 0,.int .i64 0]) (fun _=>#[.int .i64 (z0-48),.int .i64 L,.int .i64 v]) 31 (by kernel_rfl) rfl (by kernel_rfl) rfl rfl ?hxq ?hal ?h
 case hxq=>intro s hs e he;simp at hs;subst hs;simp at he;subst he;simp
 case hal=>intro x hx W;simp at hx;subst hx;simp[go_sem]
 case h =>
 apply Exists.intro
 refine⟨?hW,?hst,?hQ⟩
 case hW =>
  intro A θ hne
  simp only[List.filter_cons,List.filter_nil,Fr.isQ,Fr.alOf,Fr.stOf,Option.isNone_none,Option.isNone_some,Bool.and_self,Bool.and_true,Bool.and_false,Bool.false_eq_true,↓reduceIte]
  repeat (go_big_quiet_step ((first | (go_at_call 188;(with_reducible exact Fr.aftB_same _ (HL5.out _))) | (go_at_call 121;(exact Fr.aftB_same _ ((HDG.out _).mono fun _ _ h=>⟨h.1,h.2.symm⟩))))))
  exact wpQuiet_nil rfl
 case hst =>
  intro s hs W g hB
  simp at hs
  subst hs
  exact st_3 (by kernel_rfl) W g _ _ _ (.int .i64 (z0-48)) (.int .i64 L) (.int .i64 v) rfl rfl rfl hB
 case hQ =>
  intro A w' hb hals hap
  obtain⟨hA,hbl⟩:=hals (86,4) (by simp)
  simp only at hA hbl
  have HB3:=kk (bel_sub HB0.out hb)
  have HX3:=kk (HX0.out.sub hb)
  have HG3:=kk hbl
  have hgs:w.heap.size≠A 4:=fun e=>by have:=HX0.out.lt;omega
  obtain⟨y1,y2,y3,_,_,_⟩:=blk3 hbl
  clear hals hap hb hbl hi0 hi1 hs2
  simp only[Fr.putAls,Act.put,List.setIfInBounds_toArray,List.set_cons_succ,List.set_cons_zero]
  generalize A 4=g at *
  go_wp2_with fail
  refine(HST.out _).mono ?_
  rintro e w4 ⟨rfl,hb4⟩
  have HB4:=kk (bel_sub HB3.out hb4)
  have HX4:=kk (HX3.out.sub hb4)
  have HG4:=kk (HG3.out.sub hb4)
  clear hb4 y1 y2 y3
  obtain⟨y1,y2,y3,_,_,_⟩:=blk3 HG4.out
  obtain⟨x1,x2,x3,f1,f2,f3⟩:=blk3 HX4.out
  have hlt:=HX4.out.lt
  have hltg:=HG4.out.lt
  have dq:=HEQ2.out
  cases q
  ·have HBZ:=kk (bel_set (g:=w.heap.size) (i:=2) (u:=.int .i64 0) (bel_set2 (g:=w.heap.size) (x:=.int .i64 0) (y:=.int .i64 0) HB4.out (Nat.le_refl _)) (Nat.le_refl _))
   have HZ:=kk (((HX4.out.set 0 (.int .i64 0)).set 1 (.int .i64 0)).set 2 (.int .i64 0))
   go_wp2_with fail
   refine bodyPost_ret (results_ct3 rfl _ _ w.heap.size _ _ rfl HZ.out Tryz.underlying86 rfl (by kernel_rfl)) rfl ?_
   exact⟨rfl,HBZ.out⟩
  ·have HBZ:=kk (bel_set (g:=w.heap.size) (i:=2) (u:=.int .i64 v) (bel_set2 (g:=w.heap.size) (x:=.int .i64 (z0-48)) (y:=.int .i64 L) HB4.out (Nat.le_refl _)) (Nat.le_refl _))
   have HZ:=kk (((HX4.out.set 0 (.int .i64 (z0-48))).set 1 (.int .i64 L)).set 2 (.int .i64 v))
   go_wp2_with fail
   refine bodyPost_ret (results_ct3 rfl _ _ w.heap.size _ _ rfl HZ.out Tryz.underlying86 rfl (by kernel_rfl)) rfl ?_
   exact⟨rfl,HBZ.out⟩
end
section
open Go.RowKit
attribute [local go_sem ↓] Go.wp_at_zero Go.wp_at_succ
theorem ls_dec:∀k:Fin 4,Utf8.decode ⟨#[115,112,100,102]⟩ k.val=((sLs.getD k.val 0).toNat,1):=by decide +kernel
theorem ls_low:∀k:Fin 4,(sLs.getD k.val 0).toNat<128:=by decide +kernel
theorem ls_none:∀k:Fin 5,∀n:Fin 256,128≤n.val→Lib.indexByte (sLs.drop k.val) (UInt8.ofNat n.val)=-1:=by decide +kernel
theorem IndexRune_err (w:World) :
 Calls Tryz.prog 256 #[.string ⟨#[115,112,100,102]⟩,.int .i32 65533] w fun e w'=>e=.returned (.int .i64 (-1))∧Below w.heap.size w w':=by
 have HNX:Hid (∀(k:Nat),k<4→∀(ty:TypeId),(Instr.next (.pointer (some ⟨w.heap.size,0,none⟩)) true ty).run Tryz.prog (w.iter ⟨#[115,112,100,102]⟩ k)=.ok (.tuple #[.bool true,.int .i64 k,.int .i32 ((sLs.getD k 0).toNat:Int)]) (w.iter ⟨#[115,112,100,102]⟩ (k+1))):=fun k hk ty=>by
  have:=run_next_any (P:=Tryz.prog) w ⟨#[115,112,100,102]⟩ k ty hk
  rw[ls_dec ⟨k,hk⟩] at this
  exact this
 have HNE:Hid (∀(ty:TypeId),(Instr.next (.pointer (some ⟨w.heap.size,0,none⟩)) true ty).run Tryz.prog (w.iter ⟨#[115,112,100,102]⟩ 4)=.ok (.tuple #[.bool false]) (w.iter ⟨#[115,112,100,102]⟩ 4)):=fun ty=>run_next_end (P:=Tryz.prog) w ⟨#[115,112,100,102]⟩ 4 ty (by decide)
 have HLO:Hid (∀k,k<4→(((sLs.getD k 0).toNat:Int)==65533)=false):=fun k hk=>by
  have:=ls_low ⟨k,hk⟩
  simp only at this
  simp only[beq_eq_false_iff_ne];omega
 have HBE:Hid (∀k,Below w.heap.size w (w.iter ⟨#[115,112,100,102]⟩ k)):=fun k=>bel_alloc (Below.refl w.heap.size w) _
 generalize (⟨#[115,112,100,102]⟩:ByteArray)=X at *
 go_enter Tryz.func256,Tryz.ntmps256
 go_wp2_with fail
 go_loopw [5,6] (fun _ _ wr=>∃k:Nat,k≤4∧wr=w.iter X k) (fun _ _ wr=>4-wr.iterPos w.heap.size)
 case atStart=>exact⟨0,by omega,rfl⟩
 case round =>
  obtain⟨k,hk,rfl⟩:=hrel
  by_cases hlt:k<4
  ·have hnx:=fun ty=>HNX.out k hlt ty
   have hlo:=HLO.out k hlt
   generalize ((sLs.getD k 0).toNat:Int)=D at *
   go_wp2_with fail
   go_roundw
   case rel=>exact⟨k+1,by omega,rfl⟩
   case measure=>simp;omega
  ·obtain rfl:k=4:=by omega
   have hnx:=HNE.out
   go_wp2_with fail
   go_ret
   exact⟨rfl,HBE.out 4⟩
theorem IndexRune_hi (z:Int) (h0:128≤z) (h1:z≤1114111) (w:World) :
 Calls Tryz.prog 256 #[.string ⟨#[115,112,100,102]⟩,.int .i32 z] w fun e w'=>e=.returned (.int .i64 (-1))∧Below w.heap.size w w':=by
 by_cases hz:z=65533
 ·subst hz;exact IndexRune_err w
 have dz:(z==65533)=false:=by simp[hz]
 have d0:(0:Int)≤z:=by omega
 have d1:¬(z<128):=by omega
 clear hz
 have HVR:=kk (fun W=>Tryz.utf8_ValidRune z W)
 cases hv:Lib.validRune z
 ·rw[hv] at HVR;clear hv
  go_enter Tryz.func256,Tryz.ntmps256
  go_wp2_with fail
  refine(HVR.out _).mono ?_
  rintro e w1 ⟨rfl,rfl⟩
  go_wp2_with fail
  go_ret
  exact⟨rfl,Below.refl _ _⟩
 have hv2:Utf8.valid z=true:=by
  have:Utf8.valid z=Lib.validRune z:=by
   unfold Utf8.valid Lib.validRune
   rw[Bool.eq_iff_iff];simp;omega
  rw[this];exact hv
 rw[hv] at HVR;clear hv
 obtain⟨e1,e2,e3⟩:=encode_facts z hv2 h0
 obtain⟨m,hm⟩:∃m,(Utf8.encode z).size=m+1:=⟨(Utf8.encode z).size-1,by omega⟩
 have hlast:=e3 (by omega)
 have HIE:Hid (∀W:World,(Instr.index 9 (.string (Utf8.encode z)) (.int .i64 (m:Int))).run Tryz.prog W=.ok (.int .u8 (((Utf8.encode z)[(Utf8.encode z).size-1]'(by omega)).toNat:Int)) W):=fun W=>by
  rw[run_index_string (P:=Tryz.prog) W 9 (Utf8.encode z) .i64 (m:Int) (by kernel_rfl),dif_pos (by omega)]
  simp only[Int.toNat_natCast,hm,Nat.add_sub_cancel]
 have hd256:=((Utf8.encode z)[(Utf8.encode z).size-1]'(by omega)).toNat_lt
 obtain⟨D,hD⟩:∃D:Nat,((Utf8.encode z)[(Utf8.encode z).size-1]'(by omega)).toNat=D:=⟨_,rfl⟩
 simp only[hD] at HIE hlast hd256
 clear hD e3
 obtain⟨E,hE⟩:∃E,Utf8.encode z=E:=⟨_,rfl⟩
 have hcv:∀W:World,(convert 21 9 (.int .i32 z)).run Tryz.prog W=.ok (.string E) W:=fun W=>by
  rw[←hE];exact run_convert_int_string W _ _ _ _ (by kernel_rfl) (by kernel_rfl)
 rw[hE] at HIE hm e1 e2
 clear hE hv2
 have hms:m=1∨m=2∨m=3:=by omega
 have HII:Hid (∀W:World,(Instr.index 9 (.string ⟨#[115,112,100,102]⟩) (.int .i64 (m:Int))).run Tryz.prog W=.ok (.int .u8 ((sLs.getD m 0).toNat:Int)) W):=fun W =>
  idx_strk sLs m (sLs.getD m 0) (by rcases hms with rfl | rfl | rfl<;>rfl) W
 have HSL:Hid (∀W:World,(Instr.slice 9 (.string ⟨#[115,112,100,102]⟩) (some (.int .i64 ((m:Int)+1))) none none).run Tryz.prog W=.ok (.string (bs (sLs.drop (m+1)))) W):=fun W =>
  sl_tail sLs (m+1) (by show m+1≤4;omega) W
 have HIB:Hid (∀W:World,Calls Tryz.prog 160 #[.string (bs (sLs.drop (m+1))),.int .u8 (D:Int)] W fun e w'=>e=.returned (.int .i64 (-1))∧w'=W):=fun W=>by
  refine(Tryz.strings_IndexByte (bs (sLs.drop (m+1))) (D:Int) W).mono ?_
  rintro e w' ⟨rfl,rfl⟩
  refine⟨?_,rfl⟩
  rw[Int.toNat_natCast,bs_data]
  have:=ls_none ⟨m+1,by omega⟩ ⟨D,hd256⟩ hlast
  simp only at this
  rw[show D.toUInt8=UInt8.ofNat D from rfl,this]
 have hC:(sLs.getD m 0).toNat<128:=ls_low ⟨m,by omega⟩
 have hne:(((sLs.getD m 0).toNat:Int) != (D:Int))=true:=by simp only[bne_iff_ne,ne_eq];omega
 generalize ((sLs.getD m 0).toNat:Int)=C at *
 generalize bs (sLs.drop (m+1))=R at *
 generalize (D:Int)=DD at *
 have hXs:(⟨#[115,112,100,102]⟩:ByteArray).size=4:=rfl
 generalize (⟨#[115,112,100,102]⟩:ByteArray)=X at *
 have i4:(m:Int)<4:=by omega
 have u1:IntKind.i64.wrap (((m+1:Nat):Int)-1)=(m:Int):=by rw[show(((m+1:Nat):Int)-1)=(m:Int) by omega];exact IntWalk.i64_in _ (by omega)
 have u2:IntKind.i64.wrap ((m:Int)+1)=(m:Int)+1:=IntWalk.i64_in _ (by omega)
 clear hlast hd256 hC
 have hie:=HIE.out;have hii:=HII.out;have hsl:=HSL.out
 clear hms e1 e2
 go_enter Tryz.func256,Tryz.ntmps256
 go_wp2_with fail
 refine(HVR.out _).mono ?_
 rintro e w1 ⟨rfl,rfl⟩
 go_wp2_with fail
 go_step3
 go_wp2_with fail
 go_loopw [9,10,11,12] (fun v _ _ _ wr=>v=.int .i64 (m:Int)∧wr=w1) (fun _ _ _ _ _=>0)
 case atStart=>exact⟨rfl,rfl⟩
 case round =>
  obtain⟨rfl,rfl⟩:=hrel
  go_wp2_with fail
  go_step3
  go_wp2_with fail
  refine wp_region_after (by kernel_rfl) (by kernel_rfl) ?_
  repeat (go_big_quiet_step (fail))
  refine wpQuiet_nil ?_
  intro w9 hw'
  obtain⟨⟨w9',hb9⟩,hw''⟩:=hw'
  subst hw''
  go_wp2_with fail
  refine wp_region_after (by kernel_rfl) (by kernel_rfl) ?_
  repeat (go_big_quiet_step ((go_at_call 160;exact after_call _ ((HIB.out _).mono fun _ _ h=>⟨h.1,by rw[h.2];exact Below.refl _ _⟩))))
  refine wpQuiet_nil ?_
  intro w8 hw'
  obtain⟨⟨w8',hb8⟩,hw''⟩:=hw'
  subst hw''
  go_wp2_with fail
  rw[Exit.noGoto_ret]
  simp +zetaDelta only [Exit.inBlock,Exit.noGoto_ret,Exit.then]
  go_ret
  exact⟨rfl,bel_sub hb9 hb8⟩
theorem ShellFrom_all (s:List UInt8) (hs:s.length≤100000) (w:World) (he:Er w) :
 Calls Tryz.prog 216 #[.string (bs s)] w fun e w'=>e=.returned (shO (shF s))∧Below w.heap.size w w':=by
 by_cases ha:∀c∈s,c.toNat<128
 ·exact ShellFrom_ascii s ha (by omega) w he
 have hno:∀x,shT x≠s:=by
  intro x hx
  apply ha
  cases hv:shvB x
  ·have h0:s=[]:=by rw[←hx];unfold shT;rw[hv];rfl
   rw[h0];simp
  ·have hA:=(allSh_valid x (allSh_mem hv)).2.2.2.2.2.2
   rw[hx] at hA
   intro c hc
   exact of_decide_eq_true (List.all_eq_true.1 hA.2 c hc)
 have hf:shF s=((0,0,0),false):=by
  cases h:(shF s).2
  ·exact(shF_no h).1
  ·exact absurd (shF_yes h).2 (hno _)
 obtain⟨zs,hz,hzb,hzl⟩:=runes_gen (bs s) (bs s).size 0 []
 simp only[List.map_nil,List.nil_append] at hz
 rw[bs_size] at hzl
 rw[hf]
 refine(ShellFrom_core s zs (if zs.getD 1 0<128 then Lib.indexByte sLs (zs.getD 1 0).toNat.toUInt8 else -1) (fun _ _=>True) w hz hzb (by omega) ?_ ?_).mono ?_
 ·intro h3 W hb
  refine(Atoi_ex (runesBytes (zs.drop 2)) W (he.on hb) ?_).mono ?_
  ·have h4:=foldl_size_le (zs.drop 2) ByteArray.empty
   rw[List.length_drop] at h4
   have h5:(ByteArray.empty).size=0:=rfl
   unfold runesBytes
   omega
  ·rintro e w' ⟨⟨v,x,h1,h2,_⟩,h5⟩
   exact⟨⟨v,x,h1,h2,trivial⟩,h5⟩
 ·intro h3 W
  have hm:zs.getD 1 0∈zs:=by rw[List.getD_eq_getElem?_getD,List.getElem?_eq_getElem (by omega)];exact List.getElem_mem _
  have hb:=hzb _ hm
  by_cases hlt:zs.getD 1 0<128
  ·rw[if_pos hlt]
   refine(Tryz.strings_IndexRune_ascii ⟨#[115,112,100,102]⟩ (zs.getD 1 0) W hb.1 hlt).mono ?_
   rintro e w' ⟨rfl,rfl⟩
   exact⟨rfl,Below.refl _ _⟩
  ·rw[if_neg hlt]
   exact IndexRune_hi _ (by omega) hb.2 W
 ·rintro e w' ⟨h,hb⟩
  refine⟨?_,hb⟩
  rcases h with ⟨x,_,hx,_⟩ | ⟨rfl,_⟩
  ·exact absurd hx (hno x)
  ·rfl
end
end Go.Proofs.YtcjebnffpbnljaaGreatDoor
