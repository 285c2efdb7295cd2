/- Parts of the proof of : Ir Fad Lte. -/
import Derived.Test.YtjdfbnlaiiknpaaGreatDoorQ25
set_option maxHeartbeats 20000000
set_option maxRecDepth 1000000
set_option linter.unusedSimpArgs false
set_option linter.unusedVariables false
namespace Go.Proofs.YtjdfbnlaiiknpaaGreatDoor
section
open Go.RowKit
attribute [local go_sem ↓] Go.wp_at_zero Go.wp_at_succ
theorem ls_dec:∀k:Fin 4,Utf8.decode ⟨#[115,112,100,102]⟩ k.val=((sLs.getD k.val 0).toNat,1):=by decide +kernel
theorem ls_low:∀k:Fin 4,(sLs.getD k.val 0).toNat<128:=by decide +kernel
theorem ls_none:∀k:Fin 5,∀n:Fin 256,128≤n.val→Lib.indexByte (sLs.drop k.val) (UInt8.ofNat n.val)=-1:=by decide +kernel
theorem IndexRune_err (w:World) :
 Calls Tryz.prog 260 #[.string ⟨#[115,112,100,102]⟩,.int .i32 65533] w fun e w'=>e=.returned (.int .i64 (-1))∧Below w.heap.size w w':=by
 have HNX:Hid (∀(k:Nat),k<4→∀(ty:TypeId),(Instr.next (.pointer (some ⟨w.heap.size,0,none⟩)) true ty).run Tryz.prog (w.iter ⟨#[115,112,100,102]⟩ k)=.ok (.tuple #[.bool true,.int .i64 k,.int .i32 ((sLs.getD k 0).toNat:Int)]) (w.iter ⟨#[115,112,100,102]⟩ (k+1))):=fun k hk ty=>by
  have:=run_next_any (P:=Tryz.prog) w ⟨#[115,112,100,102]⟩ k ty hk
  rw [ls_dec ⟨k,hk⟩] at this
  exact this
 have HNE:Hid (∀(ty:TypeId),(Instr.next (.pointer (some ⟨w.heap.size,0,none⟩)) true ty).run Tryz.prog (w.iter ⟨#[115,112,100,102]⟩ 4)=.ok (.tuple #[.bool false]) (w.iter ⟨#[115,112,100,102]⟩ 4)):=fun ty=>run_next_end (P:=Tryz.prog) w ⟨#[115,112,100,102]⟩ 4 ty (by decide)
 have HLO:Hid (∀k,k<4→(((sLs.getD k 0).toNat:Int)==65533)=false):=fun k hk=>by
  have:=ls_low ⟨k,hk⟩
  simp only at this
  simp only [beq_eq_false_iff_ne];omega
 have HBE:Hid (∀k,Below w.heap.size w (w.iter ⟨#[115,112,100,102]⟩ k)):=fun k=>bel_alloc (Below.refl w.heap.size w) _
 generalize (⟨#[115,112,100,102]⟩:ByteArray)=X at *
 go_enter Tryz.func260,Tryz.ntmps260
 go_wp2_with fail
 go_loopw [5,6] (fun _ _ wr=>∃k:Nat,k≤4∧wr=w.iter X k) (fun _ _ wr=>4-wr.iterPos w.heap.size)
 case atStart=>exact ⟨0,by omega,rfl⟩
 case round =>
  obtain ⟨k,hk,rfl⟩:=hrel
  by_cases hlt:k<4
  ·have hnx:=fun ty=>HNX.out k hlt ty
   have hlo:=HLO.out k hlt
   generalize ((sLs.getD k 0).toNat:Int)=D at *
   go_wp2_with fail
   go_roundw
   case rel=>exact ⟨k+1,by omega,rfl⟩
   case measure=>simp;omega
  ·obtain rfl:k=4:=by omega
   have hnx:=HNE.out
   go_wp2_with fail
   go_ret
   exact ⟨rfl,HBE.out 4⟩
theorem IndexRune_hi (z:Int) (h0:128≤z) (h1:z≤1114111) (w:World) :
 Calls Tryz.prog 260 #[.string ⟨#[115,112,100,102]⟩,.int .i32 z] w fun e w'=>e=.returned (.int .i64 (-1))∧Below w.heap.size w w':=by
 by_cases hz:z=65533
 ·subst hz;exact IndexRune_err w
 have dz:(z==65533)=false:=by simp [hz]
 have d0:(0:Int)≤z:=by omega
 have d1:¬(z<128):=by omega
 clear hz
 have HVR:=Lib.hid (fun W=>Tryz.utf8_ValidRune z W)
 cases hv:Lib.validRune z
 ·rw [hv] at HVR;clear hv
  go_enter Tryz.func260,Tryz.ntmps260
  go_wp2_with fail
  refine (HVR.out _).mono ?_
  rintro e w1 ⟨rfl,rfl⟩
  go_wp2_with fail
  go_ret
  exact ⟨rfl,Below.refl _ _⟩
 have hv2:Utf8.valid z=true:=by
  have:Utf8.valid z=Lib.validRune z:=by
   unfold Utf8.valid Lib.validRune
   rw [Bool.eq_iff_iff];simp;omega
  rw [this];exact hv
 rw [hv] at HVR;clear hv
 obtain ⟨e1,e2,e3⟩:=encode_facts z hv2 h0
 obtain ⟨m,hm⟩:∃m,(Utf8.encode z).size=m+1:=⟨(Utf8.encode z).size-1,by omega⟩
 have hlast:=e3 (by omega)
 have HIE:Hid (∀W:World,(Instr.index 9 (.string (Utf8.encode z)) (.int .i64 (m:Int))).run Tryz.prog W=.ok (.int .u8 (((Utf8.encode z)[(Utf8.encode z).size-1]'(by omega)).toNat:Int)) W):=fun W=>by
  rw [run_index_string (P:=Tryz.prog) W 9 (Utf8.encode z) .i64 (m:Int) (by kernel_rfl),dif_pos (by omega)]
  simp only [Int.toNat_natCast,hm,Nat.add_sub_cancel]
 have hd256:=((Utf8.encode z)[(Utf8.encode z).size-1]'(by omega)).toNat_lt
 obtain ⟨D,hD⟩:∃D:Nat,((Utf8.encode z)[(Utf8.encode z).size-1]'(by omega)).toNat=D:=⟨_,rfl⟩
 simp only [hD] at HIE hlast hd256
 clear hD e3
 obtain ⟨E,hE⟩:∃E,Utf8.encode z=E:=⟨_,rfl⟩
 have hcv:∀W:World,(convert 21 9 (.int .i32 z)).run Tryz.prog W=.ok (.string E) W:=fun W=>by
  rw [←hE];exact run_convert_int_string W _ _ _ _ (by kernel_rfl) (by kernel_rfl)
 rw [hE] at HIE hm e1 e2
 clear hE hv2
 have hms:m=1∨m=2∨m=3:=by omega
 have HII:Hid (∀W:World,(Instr.index 9 (.string ⟨#[115,112,100,102]⟩) (.int .i64 (m:Int))).run Tryz.prog W=.ok (.int .u8 ((sLs.getD m 0).toNat:Int)) W):=fun W =>
  idx_strk sLs m (sLs.getD m 0) (by rcases hms with rfl | rfl | rfl <;> rfl) W
 have HSL:Hid (∀W:World,(Instr.slice 9 (.string ⟨#[115,112,100,102]⟩) (some (.int .i64 ((m:Int)+1))) none none).run Tryz.prog W=.ok (.string (bs (sLs.drop (m+1)))) W):=fun W =>
  sl_tail sLs (m+1) (by show m+1≤4;omega) W
 have HIB:Hid (∀W:World,Calls Tryz.prog 192 #[.string (bs (sLs.drop (m+1))),.int .u8 (D:Int)] W fun e w'=>e=.returned (.int .i64 (-1))∧w'=W):=fun W=>by
  refine (Tryz.strings_IndexByte (bs (sLs.drop (m+1))) (D:Int) W).mono ?_
  rintro e w' ⟨rfl,rfl⟩
  refine ⟨?_,rfl⟩
  rw [Int.toNat_natCast,bs_data]
  have:=ls_none ⟨m+1,by omega⟩ ⟨D,hd256⟩ hlast
  simp only at this
  rw [show D.toUInt8=UInt8.ofNat D from rfl,this]
 have hC:(sLs.getD m 0).toNat<128:=ls_low ⟨m,by omega⟩
 have hne:(((sLs.getD m 0).toNat:Int) != (D:Int))=true:=by simp only [bne_iff_ne,ne_eq];omega
 generalize ((sLs.getD m 0).toNat:Int)=C at *
 generalize bs (sLs.drop (m+1))=R at *
 generalize (D:Int)=DD at *
 have hXs:(⟨#[115,112,100,102]⟩:ByteArray).size=4:=rfl
 generalize (⟨#[115,112,100,102]⟩:ByteArray)=X at *
 have i4:(m:Int)<4:=by omega
 have u1:IntKind.i64.wrap (((m+1:Nat):Int)-1)=(m:Int):=by rw [show (((m+1:Nat):Int)-1)=(m:Int) by omega];exact IntWalk.i64_in _ (by omega)
 have u2:IntKind.i64.wrap ((m:Int)+1)=(m:Int)+1:=IntWalk.i64_in _ (by omega)
 clear hlast hd256 hC
 have hie:=HIE.out;have hii:=HII.out;have hsl:=HSL.out
 clear hms e1 e2
 go_enter Tryz.func260,Tryz.ntmps260
 go_wp2_with fail
 refine (HVR.out _).mono ?_
 rintro e w1 ⟨rfl,rfl⟩
 go_wp2_with fail
 go_step3
 go_wp2_with fail
 go_loopw [9,10,11,12] (fun v _ _ _ wr=>v=.int .i64 (m:Int)∧wr=w1) (fun _ _ _ _ _=>0)
 case atStart=>exact ⟨rfl,rfl⟩
 case round =>
  obtain ⟨rfl,rfl⟩:=hrel
  go_wp2_with fail
  go_step3
  go_wp2_with fail
  refine wp_region_after (by kernel_rfl) (by kernel_rfl) ?_
  repeat (go_big_quiet_step (fail))
  refine wpQuiet_nil ?_
  intro w9 hw'
  obtain ⟨⟨w9',hb9⟩,hw''⟩:=hw'
  subst hw''
  go_wp2_with fail
  refine wp_region_after (by kernel_rfl) (by kernel_rfl) ?_
  repeat (go_big_quiet_step ((go_at_call 192;exact after_call _ ((HIB.out _).mono fun _ _ h=>⟨h.1,by rw [h.2];exact Below.refl _ _⟩))))
  refine wpQuiet_nil ?_
  intro w8 hw'
  obtain ⟨⟨w8',hb8⟩,hw''⟩:=hw'
  subst hw''
  go_wp2_with fail
  rw [Exit.noGoto_ret]
  simp +zetaDelta only [Exit.inBlock,Exit.noGoto_ret,Exit.then]
  go_ret
  exact ⟨rfl,bel_sub hb9 hb8⟩
theorem ShellFrom_all (s:List UInt8) (hs:s.length≤100000) (w:World) (he:Er w) :
 Calls Tryz.prog 235 #[.string (bs s)] w fun e w'=>e=.returned (shO (shF s))∧Below w.heap.size w w':=by
 by_cases ha:∀c∈s,c.toNat<128
 ·exact ShellFrom_ascii s ha (by omega) w he
 have hno:∀x,shT x≠s:=by
  intro x hx
  apply ha
  cases hv:shvB x
  ·have h0:s=[]:=by rw [←hx];unfold shT;rw [hv];rfl
   rw [h0];simp
  ·have hA:=(allSh_valid x (allSh_mem hv)).2.2.2.2.2.2
   rw [hx] at hA
   intro c hc
   exact of_decide_eq_true (List.all_eq_true.1 hA.2 c hc)
 have hf:shF s=((0,0,0),false):=by
  cases h:(shF s).2
  ·exact (shF_no h).1
  ·exact absurd (shF_yes h).2 (hno _)
 obtain ⟨zs,hz,hzb,hzl⟩:=runes_gen (bs s) (bs s).size 0 []
 simp only [List.map_nil,List.nil_append] at hz
 rw [bs_size] at hzl
 rw [hf]
 refine (ShellFrom_core s zs (if zs.getD 1 0<128 then Lib.indexByte sLs (zs.getD 1 0).toNat.toUInt8 else -1) (fun _ _=>True) w hz hzb (by omega) ?_ ?_).mono ?_
 ·intro h3 W hb
  refine (Atoi_ex (runesBytes (zs.drop 2)) W (he.on hb) ?_).mono ?_
  ·have h4:=foldl_size_le (zs.drop 2) ByteArray.empty
   rw [List.length_drop] at h4
   have h5:(ByteArray.empty).size=0:=rfl
   unfold runesBytes
   omega
  ·rintro e w' ⟨⟨v,x,h1,h2,_⟩,h5⟩
   exact ⟨⟨v,x,h1,h2,trivial⟩,h5⟩
 ·intro h3 W
  have hm:zs.getD 1 0∈zs:=by rw [List.getD_eq_getElem?_getD,List.getElem?_eq_getElem (by omega)];exact List.getElem_mem _
  have hb:=hzb _ hm
  by_cases hlt:zs.getD 1 0<128
  ·rw [if_pos hlt]
   refine (Tryz.strings_IndexRune_ascii ⟨#[115,112,100,102]⟩ (zs.getD 1 0) W hb.1 hlt).mono ?_
   rintro e w' ⟨rfl,rfl⟩
   exact ⟨rfl,Below.refl _ _⟩
  ·rw [if_neg hlt]
   exact IndexRune_hi _ (by omega) hb.2 W
 ·rintro e w' ⟨h,hb⟩
  refine ⟨?_,hb⟩
  rcases h with ⟨x,_,hx,_⟩ | ⟨rfl,_⟩
  ·exact absurd hx (hno x)
  ·rfl
end
section
section
open Go.RowKit
attribute [local go_sem ↓] Go.wp_at_zero Go.wp_at_succ
def lvW:List UInt8:=[108,101,118,101,108,115]
end
section
open Go.RowKit
attribute [local go_sem ↓] Go.wp_at_zero Go.wp_at_succ
def rqFac (s:List UInt8):List UInt8 × Bool:=(ratT (facR (lvF s).1.1 (lvF s).1.2).1,(lvF s).2 && (facR (lvF s).1.1 (lvF s).1.2).2)
theorem reqFactor_any (s:List UInt8) (b:Nat) (w:World) (hs:s.length≤1000000) (hb:b<w.heap.size) (hA:w.cell? ⟨b,1,none⟩=some (.string (bs s))) (hE:Ers w) (ht:Tab w) :
 Calls Tryz.prog 89 #[.agg #[.slice (some ⟨b,1,none⟩) 1 1]] w fun e w'=>e=.returned (.tuple #[.string (bs (rqFac s).1),.bool (rqFac s).2])∧Below w.heap.size w w':=by
 have HLF:=Lib.hid (fun W=>LevelFrom_all s W hs)
 unfold rqFac
 simp only
 obtain ⟨r,hr⟩:∃r,lvF s=r:=⟨_,rfl⟩
 rw [hr] at HLF ⊢
 clear hr
 obtain ⟨⟨⟨p,q⟩,j⟩,ok⟩:=r
 unfold lvV at HLF
 simp only at HLF ⊢
 have HFF:=Lib.hid (fun W (hW:Ers W)=>FactorOf_any (p,q) j W hW)
 obtain ⟨f,hf⟩:∃f,facR (p,q) j=f:=⟨_,rfl⟩
 rw [hf] at HFF ⊢
 rw [okV_form] at HFF
 clear hf
 obtain ⟨⟨x,y⟩,fk⟩:=f
 simp only at HFF ⊢
 have HRT:=Lib.hid (fun W (hW:Tab W)=>implRatText_any x y W hW)
 have HA:=Lib.hid hA;clear hA
 have HE:=Lib.hid (fun W (hb:Below w.heap.size w W)=>hE.on hb);clear hE
 have HTb:=Lib.hid (fun W (hb:Below w.heap.size w W)=>ht.on hb);clear ht
 generalize bs s=X at *
 generalize bs (ratT (x,y))=Y at *
 have HB0:=Lib.hid (bel_alloc (Below.refl w.heap.size w) (.cells #[.slice (some ⟨b,1,none⟩) 1 1] 91))
 have HQ0:=Lib.hid (Blk.new w 91 #[.slice (some ⟨b,1,none⟩) 1 1])
 go_enter Tryz.func89,Tryz.ntmps89
 go_wp2_with fail
 refine (exactly_any _ 1 1 _).mono ?_
 rintro e w1 ⟨rfl,hb1⟩
 have HB1:=Lib.hid (bel_sub HB0.out hb1)
 have c0:w1.cell? ⟨w.heap.size,0,none⟩=some (.slice (some ⟨b,1,none⟩) 1 1):=(HQ0.out.sub hb1).cell 0
 have hA:=(HB1.out.cell (p:=⟨b,1,none⟩) hb).trans HA.out
 clear hb1 HB0 HQ0
 go_wp2_with fail
 refine (HLF.out _).mono ?_
 rintro e w2 ⟨rfl,hb2⟩
 have HB2:=Lib.hid (bel_alloc (bel_sub HB1.out hb2) (.cells #[.int .i64 p,.int .i64 q,.int .i64 j] 131))
 clear hb2 c0 hA HB1
 go_wp2_with fail
 refine (HFF.out _ (HE.out _ HB2.out)).mono ?_
 rintro e w3 ⟨rfl,hb3⟩
 have HB3:=Lib.hid (bel_alloc (bel_sub HB2.out hb3) (.cells #[.int .i64 x,.int .i64 y] 97))
 clear hb3 HB2
 go_wp2_with fail
 refine (HRT.out _ (HTb.out _ HB3.out)).mono ?_
 rintro e w4 ⟨rfl,hb4⟩
 have HB4:=Lib.hid (bel_sub HB3.out hb4)
 clear hb4 HB3
 cases ok
 ·go_wp2_with fail
  go_ret2
  exact ⟨rfl,HB4.out⟩
 ·go_wp2_with fail
  go_ret2
  exact ⟨rfl,HB4.out⟩
end
section
open Go.RowKit
attribute [local go_sem ↓] Go.wp_at_zero Go.wp_at_succ
theorem results_lev1 {P:Program} {fn:Func} {p:Tmp} {ty:TypeId} {cs:Array Value} (h:fn.results=#[.cell p ty]) (tmps:Array Value) (w:World) (g:Nat) (t:TypeId) (d:TypeDesc)
 (hp:tmps.getD p undef=.pointer (some ⟨g,0,none⟩)) (hg:Blk w g t cs)
 (hu:P.underlying ty=some d) (hd:(match d with | .struct _ | .array _ _=>true | _=>false)=true) (hi:(P.info? ty).map (·.size)=some cs.size) :
 (results fn tmps).run P w=.ok (.agg cs) w:=by
 have hp':tmps[p]?.getD undef=.pointer (some ⟨g,0,none⟩):=by simpa using hp
 simp [results,h,hp',asAddr,run_loadVar_row w g t ty cs (0,0) d hg hu hd hi]
end
section
open Go.RowKit
attribute [local go_sem ↓] Go.wp_at_zero Go.wp_at_succ
def LineOk (w:World) (line out:List UInt8):Prop:=∀(W:World) (b:Nat),Below w.heap.size w W→Blk W b 9 (wcs (spl 32 line)) →
 Calls Tryz.prog 25 #[.slice (some ⟨b,0,none⟩) (spl 32 line).length (spl 32 line).length] W fun e w'=>e=.returned (.string (bs out))∧Below W.heap.size W w'
theorem spl_line {l:List UInt8} (h:10∉l):spl 10 (l++[10])=[l]++[[]]:=by
 rw [spl_app h];rfl
theorem lines1 {x:List UInt8}:outP [x] 1++linesT++Lib.decDigits 1++[10]=x++[10,108,105,110,101,115,32,49,10]:=by
 have:Lib.decDigits 1=[49]:=by decide +kernel
 rw [this]
 simp [outP,linesT]
theorem exec1 (line out:List UInt8) (w:World) (ht:Tab w) (hm:Mx w) (hl:line.length≤599) (h10:10∉line) (ho:out.length≤10000) (h:LineOk w line out) :
 Calls Tryz.prog 9 #[.string (bs (line++[10]))] w fun e w'=>e=.returned (.string (bs (out++[10,108,105,110,101,115,32,49,10])))∧Below w.heap.size w w':=by
 have hgo:∀(x:List UInt8) (m:Nat),x.length≤m→∀k,([x].getD k []).length≤m:=fun x m h k=>by
  cases k with
  | zero=>exact h
  | succ k=>simp
 have hx:=Execute_any (line++[10]) 1 [line] [out] w ht hm (by simp;omega) (spl_line h10) rfl (by omega) (hgo _ _ (by omega)) (hgo _ _ ho) (fun k hk W b hW hbl=>by
  obtain rfl:k=0:=by omega
  simp only [List.getD_cons_zero] at hbl ⊢
  exact h W b hW hbl)
 refine hx.mono fun e w' ⟨he,hb⟩=>⟨?_,hb⟩
 rw [he]
 exact ret_str (congrArg bs lines1)
end
end
section
section
open Go.RowKit
attribute [local go_sem ↓] Go.wp_at_zero Go.wp_at_succ
def rqTe (s:List UInt8):List UInt8 × Bool:=(tsT (tcF (cfF s).1).1,(cfF s).2 && (tcF (cfF s).1).2)
theorem reqTerms_any (g n:Nat) (L:List (List UInt8)) (w:World) (hl:L.length=n) (h1:1≤n) (hn:n≤1000) (hj:(Lib.join L [32]).length≤900) (ha:∀c∈Lib.join L [32],c.toNat<128) (hg:g<w.heap.size)
 (hc:∀i,i<n→w.cell? ⟨g,1+i,none⟩=some (.string (bs (L.getD i [])))) (he:Er w) (hm:Mx w) (hd:Mi.Dbt w) :
 Calls Tryz.prog 86 #[.agg #[.slice (some ⟨g,1,none⟩) n n]] w fun e w'=>e=.returned (.tuple #[.string (bs (rqTe (Lib.join L [32])).1),.bool (rqTe (Lib.join L [32])).2])∧Below w.heap.size w w':=by
 have HB0:=Lib.hid (bel_alloc (Below.refl w.heap.size w) (.cells #[.slice (some ⟨g,1,none⟩) n n] 91))
 have HQ0:=Lib.hid (Blk.new w 91 #[.slice (some ⟨g,1,none⟩) n n])
 have c0:(w.alloc (.cells #[.slice (some ⟨g,1,none⟩) n n] 91)).cell? ⟨w.heap.size,0,none⟩=some (.slice (some ⟨g,1,none⟩) n n):=HQ0.out.cell 0
 have HCF:=Lib.hid (reqConfig_any g n L (w.alloc (.cells #[.slice (some ⟨g,1,none⟩) n n] 91)) hl h1 hn hj ha (Nat.lt_of_lt_of_le hg HB0.out.size) (fun i hi=>cell_sub (bel_alloc (Below.refl w.heap.size w) _) (hc i hi)) (he.on HB0.out) (hm.on HB0.out))
 have HDB:=Lib.hid (fun W (hB:Below w.heap.size w W)=>hd.on hB)
 have hcl:=cfF_len (Lib.join L [32])
 unfold rqTe
 generalize Lib.join L [32]=J at *
 obtain ⟨⟨ss,ok⟩,hr⟩:∃r,cfF J=r:=⟨_,rfl⟩
 rw [hr] at HCF hcl ⊢
 unfold CFPost at HCF
 simp only at HCF hcl ⊢
 obtain ⟨m,hm2⟩:∃m,ss.length=m:=⟨_,rfl⟩
 rw [hm2] at HCF hcl
 have HM:=Lib.hid hm2
 have HTF:=Lib.hid (fun A c W hn hr hd=>implTermsConfig_any A m c ss W hn HM.out hr hd)
 unfold TCPost at HTF
 have hlen:=tcF_len ss
 obtain ⟨⟨ts,fine⟩,hq⟩:∃q,tcF ss=q:=⟨_,rfl⟩
 rw [hq] at HTF hlen ⊢
 simp only at HTF hlen ⊢
 obtain ⟨k,hk⟩:∃k,ts.length=k:=⟨_,rfl⟩
 rw [hk] at HTF hlen
 have HK:=Lib.hid hk
 clear hr hl ha hg hc he hm hm2 hq hd hk
 go_enter Tryz.func86,Tryz.ntmps86
 go_wp2_with fail
 refine HCF.out.mono ?_
 rintro e w2 ⟨⟨A,c,rfl,hr2⟩,hb2⟩
 have HR2:=Lib.hid hr2
 have HB2:=Lib.hid (bel_sub HB0.out hb2)
 clear hb2 hr2 HB0 HQ0 HCF
 go_wp2_with fail
 refine (HTF.out A c w2 (by omega) HR2.out (HDB.out _ HB2.out)).mono ?_
 rintro e w3 ⟨⟨A3,c3,rfl,hr3⟩,hb3⟩
 have HR3:=Lib.hid hr3
 have HB3:=Lib.hid (bel_sub HB2.out hb3)
 clear hb3 hr3 HB2 HR2 HTF
 go_wp2_with fail
 refine (implTermsText_any A3 k c3 ts w3 (by omega) HK.out HR3.out).mono ?_
 rintro e w4 ⟨rfl,hb4⟩
 have HB4:=Lib.hid (bel_sub HB3.out hb4)
 clear hb4 HB3 HR3 HK
 obtain ⟨Y,hY⟩:∃Y,bs (tsT ts)=Y:=⟨_,rfl⟩
 rw [hY]
 have HY:=Lib.hid hY
 clear hY
 cases ok
 ·go_wp2_with fail
  go_ret2
  exact ⟨by rw [HY.out];rfl,HB4.out⟩
 ·go_wp2_with fail
  go_ret2
  exact ⟨by rw [HY.out];rfl,HB4.out⟩
def terW:List UInt8:=[116,101,114,109,115]
theorem ter_cmd:cmdOf terW=some 86:=by decide +kernel
theorem terLine (ss:List S3) (h:cvB ss=true) (hn:ss.length≤19) (hok:(tcF ss).2=true) (w:World) (he:Er w) (hm:Mx w) (hd:Mi.Dbt w) :
 LineOk w (terW++32 :: cfgT ss) (tsT (tcF ss).1):=by
 obtain ⟨f1,f2,f3,f4,f5,f6⟩:=cfg_facts h hn
 obtain ⟨_,hne⟩:=cv_all h
 have hs:spl 32 (terW++32 :: cfgT ss)=terW :: ss.map shT:=by rw [spl_app (by decide),f1]
 intro W b hW hbl
 rw [hs] at hbl ⊢
 have hl1:(terW :: ss.map shT).length=ss.length+1:=by simp
 have hpos:1≤ss.length:=List.length_pos_iff.2 hne
 rw [hl1]
 have hr:rqTe (cfgT ss)=(tsT (tcF ss).1,true):=by unfold rqTe;rw [f2,hok];rfl
 have:=answer_any b (ss.length+1) (terW :: ss.map shT) terW 86 (bs (tsT (tcF ss).1)) true W hl1 rfl (by decide) (by omega) hbl ter_cmd
  (enters_of Tryz.func86 (by kernel_rfl) rfl)
  (fun W' hW'=>by
   have hB:=hbl.sub hW'
   have:=reqTerms_any b ss.length (ss.map shT) W' (by simp) hpos (by omega) (by rw [←f6];omega) (by rw [←f6];exact f4) (Nat.lt_of_lt_of_le hbl.lt hW'.size) (fun i hi=>by
    rw [hB.cell,wcs,List.map_cons,List.getElem?_toArray,show 1+i=i+1 by omega,List.getElem?_cons_succ,List.getElem?_map,List.getD_eq_getElem?_getD]
    rw [List.getElem?_eq_getElem (by simpa using hi)];rfl) ((he.on hW).on hW') ((hm.on hW).on hW') ((hd.on hW).on hW')
   rw [←f6,hr] at this
   rw [if_neg (by omega),show ss.length+1-1=ss.length by omega]
   exact this)
 exact this
end
section
open Go.RowKit
attribute [local go_sem ↓] Go.wp_at_zero Go.wp_at_succ
theorem tsT_len {ts:List T2} (h:ts.length≤400) (hv:∀t∈ts,tvB t=true):(tsT ts).length≤1200:=by
 by_cases h0:ts.length=0
 ·rw [tsT_none h0];simp
 ·have hg:∀i,i<ts.length→tvB (ts.getD i (0,0))=true:=fun i hi=>by
   rw [List.getD_eq_getElem?_getD,List.getElem?_eq_getElem hi]
   exact hv _ (List.getElem_mem hi)
  rw [tsT_all h0 hg]
  have:=jn_le ts ts.length hg (Nat.le_refl _)
  omega
theorem tcF_cv {cs:List S3} (h:(tcF cs).2=true):cvB cs=true:=by
 unfold tcF at h
 split at h
 ·assumption
 ·cases h
theorem fnExecuteTerms_walk (A:Option Addr) (n0 c0:Nat) (w:World) (hn:n0≤maxLen) (hc:n0≤c0) (hb:Bytes w w.heap.size A n0) (ht:Tab w) (hm:Mx w) (he:Er w) (hd:Mi.Dbt w) :
 Calls Tryz.prog 3 #[.slice A n0 c0] w fun e w'=>e=.returned (.bool true)∧Below w.heap.size w w':=by
 unfold maxLen at hn
 have HE:=Lib.hid (fun W (hB:Below w.heap.size w W)=>And.intro (ht.on hB) (And.intro (hm.on hB) (And.intro (he.on hB) (hd.on hB))));clear ht hm he hd
 have HB:=Lib.hid hb;clear hb
 have hB0:=Below.refl w.heap.size w
 by_cases hbig:1048576<n0
 ·go_enter Tryz.func3,Tryz.ntmps3
  go_wp2_with fail
  go_ret
  exact ⟨rfl,hB0⟩
 clear hB0
 go_enter Tryz.func3,Tryz.ntmps3
 go_wp2_with fail
 refine (DrawTermsConfig_any A n0 c0 w (by omega) hc HB.out).mono ?_
 rintro e w1 ⟨A1,c1,ss,rfl,hs4,hsm,hr1,hb1⟩
 have HB1:=Lib.hid hb1
 have HR1:=Lib.hid hr1
 have HSM:=Lib.hid hsm
 clear hb1 hr1 hsm HB
 obtain ⟨m,hmm⟩:∃m,ss.length=m:=⟨_,rfl⟩
 rw [hmm] at hs4 HR1 ⊢
 have HM:=Lib.hid hmm;clear hmm
 have HI:=Lib.hid (fun W hr hd=>implTermsConfig_any A1 m c1 ss W (by omega) HM.out hr hd)
 have HS:=Lib.hid (fun W hr=>specTermsConfig_any A1 m c1 ss W (by omega) HM.out HSM.out hr)
 have HV:=Lib.hid (tcF_valid ss)
 have HL:=Lib.hid (tcF_len ss)
 have HNO:=Lib.hid (tcF_no (cs:=ss))
 have HCV:=Lib.hid (tcF_cv (cs:=ss))
 have HLN:=Lib.hid (fun W hcv hok he hm hd=>terLine ss hcv (by rw [HM.out];omega) hok W he hm hd)
 unfold TCPost at HI HS
 obtain ⟨⟨ts,fine⟩,hq⟩:∃q,tcF ss=q:=⟨_,rfl⟩
 rw [hq] at HI HS HV HL HNO HCV HLN
 simp only at HI HS HV HL HNO HCV HLN
 clear hq
 obtain ⟨k,hk⟩:∃k,ts.length=k:=⟨_,rfl⟩
 rw [hk] at HI HS HL
 have HK:=Lib.hid hk;clear hk
 have hk4:k≤400:=HL.out
 go_wp2_with fail
 refine (HI.out _ HR1.out (HE.out _ HB1.out).2.2.2).mono ?_
 rintro e w2 ⟨⟨A2,c2,rfl,hr2⟩,hb2⟩
 have HB2:=Lib.hid (bel_sub HB1.out hb2)
 replace HR1:=Lib.hid ((HR1.out.below hb2).more hb2.size)
 have HR2:=Lib.hid hr2
 clear hb2 hr2 HI HB1
 go_wp2_with fail
 refine (HS.out _ HR1.out).mono ?_
 rintro e w3 ⟨⟨A3,c3,rfl,hr3⟩,hb3⟩
 have HB3:=Lib.hid (bel_sub HB2.out hb3)
 replace HR1:=Lib.hid ((HR1.out.below hb3).more hb3.size)
 replace HR2:=Lib.hid ((HR2.out.below hb3).more hb3.size)
 have HR3:=Lib.hid hr3
 clear hb3 hr3 HS HB2
 cases fine
 ·go_wp2_with fail
  refine (sameTerms_any A2 A3 k c2 c3 ts w3 (by omega) HR2.out HR3.out).mono ?_
  rintro e w4 ⟨rfl,hb4⟩
  have HB4:=Lib.hid (bel_sub HB3.out hb4)
  replace HR2:=Lib.hid ((HR2.out.below hb4).more hb4.size)
  replace HR3:=Lib.hid ((HR3.out.below hb4).more hb4.size)
  clear hb4 HB3
  go_wp2_with fail
  refine (sameTerms_any A2 A3 k c2 c3 ts w4 (by omega) HR2.out HR3.out).mono ?_
  rintro e w5 ⟨rfl,hb5⟩
  have HB5:=Lib.hid (bel_sub HB4.out hb5)
  clear hb5 HB4
  go_wp2_with fail
  go_ret
  exact ⟨ret_bool (by simp),HB5.out⟩
 go_wp2_with fail
 refine (sameTerms_any A2 A3 k c2 c3 ts w3 (by omega) HR2.out HR3.out).mono ?_
 rintro e w4 ⟨rfl,hb4⟩
 have HB4:=Lib.hid (bel_sub HB3.out hb4)
 replace HR1:=Lib.hid ((HR1.out.below hb4).more hb4.size)
 replace HR2:=Lib.hid ((HR2.out.below hb4).more hb4.size)
 clear hb4 HB3 HR3
 go_wp2_with fail
 refine (ConfigText_any A1 m c1 ss w4 (by omega) HM.out HR1.out).mono ?_
 rintro e w5 ⟨rfl,hb5⟩
 have HB5:=Lib.hid (bel_sub HB4.out hb5)
 replace HR2:=Lib.hid ((HR2.out.below hb5).more hb5.size)
 clear hb5 HB4 HR1
 have hcv:=HCV.out (by trivial)
 obtain ⟨f1,f2,f3,f4,f5,f6⟩:=cfg_facts hcv (by rw [HM.out];omega)
 have HX:=Lib.hid (fun W (h:Tab W∧Mx W∧Er W∧Mi.Dbt W)=>exec1 (terW++32 :: cfgT ss) (tsT ts) W h.1 h.2.1 (by unfold terW;simp;omega) (by unfold terW;simp;exact f5) (by have:=tsT_len (by rw [HK.out];exact hk4) HV.out;omega) (HLN.out W hcv (by trivial) h.2.2.1 h.2.1 h.2.2.2))
 have hz1:(bs (cfgT ss)).size≤95:=by rw [bs_size];exact f3
 have hz2:(bs (tsT ts)).size≤1200:=by rw [bs_size];exact tsT_len (by rw [HK.out];exact hk4) HV.out
 have hs1:bs (terW++32 :: cfgT ss++[10])=(⟨#[116,101,114,109,115,32]⟩:ByteArray)++bs (cfgT ss)++⟨#[10]⟩:=by
  rw [show terW++32 :: cfgT ss++[10]=[116,101,114,109,115,32]++cfgT ss++[10] by unfold terW;simp,←bs_append,←bs_append];rfl
 have hs2:bs (tsT ts++[10,108,105,110,101,115,32,49,10])=bs (tsT ts)++(⟨#[10,108,105,110,101,115,32,49,10]⟩:ByteArray):=by
  rw [←bs_append];rfl
 rw [hs1,hs2] at HX
 have HTT:=Lib.hid (fun W hr=>implTermsText_any A2 k c2 ts W (by omega) HK.out hr)
 clear hs1 hs2 f1 f2 f3 f4 f5 f6 hcv HLN HNO HCV HV
 generalize bs (cfgT ss)=X at *
 generalize bs (tsT ts)=Y at *
 go_wp2_with fail
 refine (HX.out _ (HE.out _ HB5.out)).mono ?_
 rintro e w6 ⟨rfl,hb6⟩
 have HB6:=Lib.hid (bel_sub HB5.out hb6)
 replace HR2:=Lib.hid ((HR2.out.below hb6).more hb6.size)
 clear hb6 HB5
 go_wp2_with fail
 refine (HTT.out _ HR2.out).mono ?_
 rintro e w7 ⟨rfl,hb7⟩
 have HB7:=Lib.hid (bel_sub HB6.out hb7)
 clear hb7 HB6
 go_wp2_with fail
 go_ret
 exact ⟨ret_bool (by simp),HB7.out⟩
end
end
end Go.Proofs.YtjdfbnlaiiknpaaGreatDoor
