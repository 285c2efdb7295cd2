/- Parts of the proof of : Lf Lg DoorKitE DoorKitT. -/
import Derived.Test.YtjdfbnlaiiknpaaGreatDoorQ42
set_option maxHeartbeats 20000000
set_option maxRecDepth 1000000
set_option linter.unusedSimpArgs false
set_option linter.unusedVariables false
namespace Go.Proofs.YtjdfbnlaiiknpaaGreatDoor
section
section
open Go.RowKit Go.Lib
attribute [local go_sem ↓] Go.wp_at_zero Go.wp_at_succ
def totL (L:List (List UInt8)):Nat:=(L.map fun x=>x.length+1).sum
theorem totL_cons (x:List UInt8) (L:List (List UInt8)):totL (x :: L)=x.length+1+totL L:=by simp [totL]
theorem spl_tot (c:UInt8):∀l:List UInt8,totL (spl c l)=l.length+1
 | []=>rfl
 | y :: r=>by
  have ih:=spl_tot c r
  unfold spl
  split
  ·rw [totL_cons,ih];simp;omega
  ·split
   ·rename_i h;rw [h] at ih;simp [totL] at ih
   ·rename_i p ps h
    rw [h,totL_cons] at ih
    rw [totL_cons]
    simp only [List.length_cons] at ih ⊢
    omega
theorem join_tot:∀L:List (List UInt8),(Lib.join L [32]).length≤totL L
 | []=>by simp [Lib.join_nil]
 | x :: r=>by
  rw [Lib.join_cons,List.length_append,totL_cons]
  have h:(Lib.joinTail [32] r).length≤totL r:=by
   induction r with
   | nil=>simp [Lib.joinTail]
   | cons y r ih =>
    have e:Lib.joinTail [32] (y :: r)=32 :: y++Lib.joinTail [32] r:=rfl
    rw [e,List.length_append,totL_cons]
    simp only [List.length_cons]
    omega
  omega
theorem totL_drop (L:List (List UInt8)):totL (L.drop 1)≤totL L:=by
 cases L with
 | nil=>simp
 | cons x r=>rw [totL_cons];simp only [List.drop_succ_cons,List.drop_zero];omega
theorem line_words (x:List UInt8) (h:x.length≤600):1≤(spl 32 x).length∧(spl 32 x).length≤1000∧(∀k,((spl 32 x).getD k []).length≤1000)∧(Lib.join ((spl 32 x).drop 1) [32]).length≤900:=by
 obtain ⟨m,hm⟩:=spl_pos 32 x
 have h1:=spl_len 32 x
 have h2:=spl_tot 32 x
 have h3:=join_tot ((spl 32 x).drop 1)
 have h4:=totL_drop (spl 32 x)
 refine ⟨by omega,by omega,fun k=>?_,by omega⟩
 rw [List.getD_eq_getElem?_getD]
 rcases hk:(spl 32 x)[k]? with _ | y
 ·simp
 ·have:=(spl_sub 32 x y (List.mem_of_getElem? hk)).1
  simp;omega
theorem tsT_len2 {ts:List T2} (h:ts.length≤400):(tsT ts).length≤1200:=by
 by_cases h0:ts.all tvB=true
 ·exact tsT_len h (fun t ht=>List.all_eq_true.1 h0 t ht)
 ·unfold tsT
  split
  ·simp
  ·first | (rw [if_neg h0];simp) | simp
theorem fin_len {r:List UInt8 × Bool} (h:r.1.length≤10000):(finT r).length≤10000:=by
 unfold finT;split
 ·exact h
 ·simp
theorem ansW_len (ws:List (List UInt8)):(ansW ws).length≤10000:=by
 have hw:whatL.length≤10000:=by decide
 unfold ansW
 split
 ·split
  ·refine fin_len ?_
   unfold rqGr
   split
   ·rename_i h
    have h0:=okG_at h
    unfold okG at h0
    simp only [Bool.and_eq_true,decide_eq_true_eq] at h0
    have:=(cfg_facts h0.2 h0.1.2.2).2.2.1
    simp only;omega
   ·simp
  ·exact hw
 split
 ·split
  ·refine fin_len ?_
   unfold rqTe
   have:=tsT_len2 (tcF_len (cfF (Lib.join (ws.drop 1) [32])).1)
   simp only;omega
  ·exact hw
 split
 ·split
  ·refine fin_len ?_
   unfold rqHu
   have:=l1T_lenM (hdC_mem (cfF (Lib.join (ws.drop 1) [32])).1)
   simp only;omega
  ·exact hw
 split
 ·split
  ·refine fin_len ?_
   unfold rqLe
   have hv:=tmF_tv (ws.getD 1 [])
   have h1:=(lv_len hv).2
   have h2:=join_le (m:=11) (L:=(lvJs (tmF (ws.getD 1 [])).1).map (l1T (tmF (ws.getD 1 [])).1)) (by
    intro x hx
    obtain ⟨j,_,rfl⟩:=List.mem_map.1 hx
    exact l1T_len hv j)
   rw [List.length_map] at h2
   unfold lvT
   simp only;omega
  ·exact hw
 split
 ·split
  ·refine fin_len ?_
   unfold rqFac
   have:=ratT_len (facR (lvF (ws.getD 1 [])).1.1 (lvF (ws.getD 1 [])).1.2).1
   simp only;omega
  ·exact hw
 split
 ·split
  ·refine fin_len ?_
   unfold rqCl
   have:=rootT_len (clR (numOf (ws.getD 1 [])) (numOf (ws.getD 2 [])) (numOf (ws.getD 3 [])) (numOf (ws.getD 4 [])) (numOf (ws.getD 5 []))).1
   simp only;omega
  ·exact hw
 split
 ·split
  ·refine fin_len ?_
   unfold rqSx
   have:=rootT_len (sxJ (numOf (ws.getD 1 [])) (numOf (ws.getD 2 [])) (numOf (ws.getD 3 [])) (numOf (ws.getD 4 [])) (numOf (ws.getD 5 [])) (numOf (ws.getD 6 []))).1
   simp only;omega
  ·exact hw
 split
 ·split
  ·refine fin_len ?_
   unfold rqSpl
   have:=splT_len (lvF (ws.getD 1 [])).1.1 (lvF (ws.getD 2 [])).1.1 (lvF (ws.getD 1 [])).1.2 (lvF (ws.getD 2 [])).1.2
   simp only;omega
  ·exact hw
 ·exact hw
def ansL (x:List UInt8):List UInt8:=ansW (spl 32 x)
def linesO (l:List UInt8):List (List UInt8):=(spl 10 l).dropLast
def exT (l:List UInt8):List UInt8:=if l.length≤600 then outT ((linesO l).map ansL) (linesO l).length else [116,111,111,32,108,111,110,103,10]
theorem spl_last (l:List UInt8):∃z,spl 10 l=linesO l++[z]:=by
 obtain ⟨m,hm⟩:=spl_pos 10 l
 have hne:spl 10 l≠[]:=by intro h;rw [h] at hm;simp at hm
 exact ⟨(spl 10 l).getLast hne,by unfold linesO;exact (List.dropLast_concat_getLast hne).symm⟩
theorem outP_ext (a b:List (List UInt8)):∀k,(∀i,i<k→a.getD i []=b.getD i [])→outP a k=outP b k:=by
 intro k
 induction k with
 | zero=>intro _;rfl
 | succ k ih =>
  intro h
  simp only [outP]
  rw [ih (fun i hi=>h i (by omega)),h k (by omega)]
theorem outP_snoc (P:List (List UInt8)) (x:List UInt8):outP ((P++[x]).map ansL) (P.length+1)=outP (P.map ansL) P.length++(ansL x++[10]):=by
 simp only [outP]
 have h1:outP ((P++[x]).map ansL) P.length=outP (P.map ansL) P.length:=outP_ext _ _ _ fun i hi=>by
  rw [List.map_append,List.getD_eq_getElem?_getD,List.getElem?_append_left (by rw [List.length_map];exact hi),List.getD_eq_getElem?_getD]
 have h2:((P++[x]).map ansL).getD P.length []=ansL x:=by
  rw [List.map_append,List.getD_eq_getElem?_getD,List.getElem?_append_right (by rw [List.length_map];exact Nat.le_refl _),List.length_map,Nat.sub_self];rfl
 rw [h1,h2]
theorem ansL_at (P:List (List UInt8)) (k:Nat):((P.map ansL).getD k []).length≤10000:=by
 rw [List.getD_eq_getElem?_getD,List.getElem?_map]
 rcases h:P[k]? with _ | x
 ·simp
 ·exact ansW_len _
theorem lnOk_of (x:List UInt8) (hx:x.length≤600) (A:Option Addr) (w:World) (hr:Reads w w.heap.size 1 A (spl 32 x).length (scells (spl 32 x))) :
 ∃b0 off,A=some ⟨b0,off,none⟩∧LnOk (some ⟨b0,off,none⟩) b0 off (spl 32 x).length (spl 32 x) w:=by
 obtain ⟨h1,h2,h3,h4⟩:=line_words x hx
 obtain ⟨b0,off,e,hb,_⟩:=hr.str rfl (show 0<(spl 32 x).length by omega)
 subst e
 refine ⟨b0,off,rfl,⟨rfl,h1,h2,h3,h4,hr,rfl,fun k hk=>?_⟩⟩
 obtain ⟨b',off',e',_,hc⟩:=hr.str rfl hk
 injection e' with e'
 injection e' with e1 e2
 subst e1;subst e2
 exact hc
theorem specExecute_any (l:List UInt8) (w:World) :
 Calls Tryz.prog 12 #[.string (bs l)] w fun e w'=>e=.returned (.string (bs (exT l)))∧Below w.heap.size w w':=by
 have hsz:(bs l).size=l.length:=bs_size l
 have HB0:=Lib.hid (Below.refl w.heap.size w)
 by_cases hl:l.length≤600
 case neg =>
  have he:exT l=[116,111,111,32,108,111,110,103,10]:=by unfold exT;rw [if_neg hl]
  rw [he,show bs [116,111,111,32,108,111,110,103,10]=⟨#[116,111,111,32,108,111,110,103,10]⟩ from rfl]
  clear he
  generalize bs l=X at *
  obtain ⟨n,hn⟩:∃n,l.length=n:=⟨_,rfl⟩
  rw [hn] at hsz hl
  clear hn
  have d0:(600:Int)<(n:Int):=by omega
  go_enter Tryz.func12,Tryz.ntmps12
  go_wp2_with fail
  go_ret
  exact ⟨rfl,HB0.out⟩
 obtain ⟨z,hz⟩:=spl_last l
 have he:exT l=outT ((linesO l).map ansL) (linesO l).length:=by unfold exT;rw [if_pos hl]
 rw [he]
 clear he
 have HSP:=Lib.hid hz
 have HIX:=Lib.hid (idx_strk l)
 have HSL:Hid (∀(f k:Nat),f≤k→k≤l.length→∀W,(Instr.slice 9 (.string (bs l)) (some (.int .i64 (f:Int))) (some (.int .i64 (k:Int))) none).run Tryz.prog W=.ok (.string (bs ((l.take k).drop f))) W):=fun f k hf hk W=>by
  rw [run_slice_string_if (h:=Tryz.underlying9),if_pos ⟨by omega,by rw [bs_size];omega⟩,if_pos ⟨by omega,by omega⟩,Int.toNat_natCast,Int.toNat_natCast,bs_extract,List.drop_take]
 obtain ⟨L,hL⟩:∃L,bs l=L:=⟨_,rfl⟩
 rw [hL] at hsz HIX HSL ⊢
 clear hL hz
 obtain ⟨n,hn⟩:∃n,l.length=n:=⟨_,rfl⟩
 rw [hn] at hsz HSL hl
 have HN:=Lib.hid hn;clear hn
 have d0:¬((600:Int)<(n:Int)):=by omega
 go_enter Tryz.func12,Tryz.ntmps12
 go_wp2_with fail
 go_loopw [3,4,5,6] (fun v mv fr i wr=>∃(k f m:Nat) (P:List (List UInt8)),k≤n∧f≤k∧m≤k∧i=.int .i64 (k:Int)∧fr=.int .i64 (f:Int)∧mv=.int .i64 (m:Int)∧v=.string (bs (outP (P.map ansL) m))∧Hid (P.length=m)∧Hid (spl 10 (l.take k)=P++[(l.take k).drop f])∧Hid (Below w.heap.size w wr)) (fun _ _ _ i _=>n-(RowKit.intOf i).toNat)
 case atStart=>exact ⟨0,0,0,[],Nat.zero_le _,Nat.le_refl _,Nat.le_refl _,rfl,rfl,rfl,rfl,rfl,rfl,HB0.out⟩
 case round =>
  clear HB0
  obtain ⟨k,f,m,P,hk,hf,hmk,rfl,rfl,rfl,rfl,HP,HS,HB⟩:=hrel
  have hop:=outP_len (P.map ansL) (ansL_at P) m
  rw [←bs_size] at hop
  by_cases hlt:k<n
  ·obtain ⟨y,hy⟩:∃y,l[k]?=some y:=⟨l[k]'(by have:=HN.out;omega),List.getElem?_eq_getElem _⟩
   have hidx:=HIX.out k y hy
   have htk:l.take (k+1)=l.take k++[y]:=by rw [List.take_add_one,hy];rfl
   have htl:(l.take k).length=k:=by rw [List.length_take,HN.out];omega
   by_cases hy10:y=10
   ·subst hy10
    have e1:(((10:UInt8).toNat:Int)==10)=true:=rfl
    generalize (((10:UInt8).toNat:Nat):Int)=xi at *
    have hsl:=HSL.out f k hf (by omega)
    have HS2:Hid (spl 10 (l.take (k+1))=(P++[(l.take k).drop f])++[(l.take (k+1)).drop (k+1)]):=by
     have hd:(l.take (k+1)).drop (k+1)=[]:=List.drop_eq_nil_of_le (by rw [List.length_take];omega)
     unfold Hid
     rw [hd,htk,spl_hit,HS.out]
    have HP2:Hid ((P++[(l.take k).drop f]).length=m+1):=by unfold Hid;rw [List.length_append,HP.out];rfl
    have hq6:((l.take k).drop f).length≤600:=by rw [List.length_drop,htl];omega
    have hs2:=outP_snoc P ((l.take k).drop f)
    rw [HP.out] at hs2
    have HO2:Hid (bs (outP ((P++[(l.take k).drop f]).map ansL) (m+1))=bs (outP (P.map ansL) m)++bs (ansL ((l.take k).drop f))++⟨#[10]⟩):=by
     unfold Hid
     rw [hs2,←List.append_assoc,←bs_append,←bs_append];rfl
    have ha1:=ansW_len (spl 32 ((l.take k).drop f))
    have ha:(bs (ansL ((l.take k).drop f))).size≤10000:=by rw [bs_size];exact ha1
    have HW1:=Lib.hid (fun W=>l11Words_any ((l.take k).drop f) W (by omega))
    have HW2:=Lib.hid (fun A W hr=>lnOk_of ((l.take k).drop f) hq6 A W hr)
    have HL1:=Lib.hid (fun b0 off c W h=>l51Line_any b0 off (spl 32 ((l.take k).drop f)).length c (spl 32 ((l.take k).drop f)) W h)
    have haa:ansL ((l.take k).drop f)=ansW (spl 32 ((l.take k).drop f)):=rfl
    clear htk htl hs2 hq6 ha1
    generalize P++[(l.take k).drop f]=P2 at *
    generalize (l.take k).drop f=Q at *
    rw [←haa] at HL1
    clear haa
    generalize bs (ansL Q)=Y at *
    generalize bs Q=S at *
    generalize (spl 32 Q).length=mm at *
    generalize spl 32 Q=ws at *
    obtain ⟨O,hO⟩:∃O,bs (outP (P.map ansL) m)=O:=⟨_,rfl⟩
    rw [hO] at hop HO2 ⊢
    clear hO
    have qa1:¬(9223372036854775807<O.size+Y.size):=by omega
    have qa2:¬(9223372036854775807<O.size+Y.size+1):=by omega
    go_wp2_with fail
    refine (HW1.out _).mono ?_
    rintro e w3 ⟨⟨A3,c3,rfl,_,hr3⟩,hb3⟩
    have HB3:=Lib.hid (bel_sub HB.out hb3)
    obtain ⟨b0,off,rfl,hln⟩:=HW2.out A3 w3 hr3
    have HLN:=Lib.hid hln
    clear hb3 hr3 hln HW1 HW2
    go_wp2_with fail
    refine (HL1.out b0 off c3 w3 HLN.out).mono ?_
    rintro e w4 ⟨rfl,hb4⟩
    have HB4:=Lib.hid (bel_sub HB3.out hb4)
    clear hb4 HLN HL1
    go_wp2_with fail
    go_roundw
    case rel=>exact ⟨k+1,k+1,m+1,P2,by omega,by omega,by omega,by go_num,by go_num,by go_num,by rw [HO2.out],HP2.out,HS2.out,HB4.out⟩
    case measure=>simp [RowKit.intOf];omega
   ·have e1:((y.toNat:Int)==10)=false:=u8_ne hy10
    have HS2:Hid (spl 10 (l.take (k+1))=P++[(l.take (k+1)).drop f]):=by
     unfold Hid
     rw [htk,spl_miss hy10 _ _ _ HS.out,List.drop_append_of_le_length (by omega)]
    clear htk htl
    generalize ((y.toNat:Nat):Int)=xi at *
    go_wp2_with fail
    go_roundw
    case rel=>exact ⟨k+1,f,m,P,by omega,by omega,by omega,by go_num,rfl,rfl,rfl,HP.out,HS2.out,HB.out⟩
    case measure=>simp [RowKit.intOf];omega
  ·obtain rfl:k=n:=by omega
   have htk:l.take k=l:=List.take_of_length_le (by rw [HN.out];exact Nat.le_refl _)
   rw [htk] at HS
   have hPl:P=linesO l∧True:=by
    have h1:=HS.out
    rw [HSP.out] at h1
    have h2:=List.append_inj_left' h1 rfl
    exact ⟨h2.symm,trivial⟩
   obtain ⟨rfl,_⟩:=hPl
   have hml:(linesO l).length=m:=HP.out
   have HD6:=Lib.hid (fun W=>l6Dec_any m (by omega) W)
   have hdd:(decDigits m).length≤7:=dig_len7 (by omega)
   rw [←bs_size] at hdd
   have HOT:Hid (bs (outT ((linesO l).map ansL) (linesO l).length)=bs (outP ((linesO l).map ansL) m)++⟨#[108,105,110,101,115,32]⟩++bs (decDigits m)++⟨#[10]⟩):=by
    unfold Hid outT
    rw [hml,←bs_append,←bs_append,←bs_append];rfl
   clear htk HSP HIX HSL hml
   generalize bs (outP ((linesO l).map ansL) m)=O at *
   generalize bs (decDigits m)=DD at *
   go_wp2_with fail
   refine (HD6.out _).mono ?_
   rintro e w3 ⟨rfl,hb3⟩
   have HB3:=Lib.hid (bel_sub HB.out hb3);clear hb3
   go_wp2_with fail
   go_ret
   exact ⟨ret_str (by rw [HOT.out]),HB3.out⟩
theorem Execute_last (l z:List UInt8) (n:Nat) (lines outs:List (List UInt8)) (w:World) (ht:Tab w) (hm:Mx w) (hlen:l.length≤600) (hspl:spl 10 l=lines++[z]) (hn:lines.length=n) (hn6:n≤600) (hll:∀k,(lines.getD k []).length≤600)
 (hol:∀k,(outs.getD k []).length≤10000)
 (HA:∀k,k<n→∀(W:World) (b:Nat),Below w.heap.size w W→Blk W b 9 (wcs (spl 32 (lines.getD k []))) →
  Calls Tryz.prog 25 #[.slice (some ⟨b,0,none⟩) (spl 32 (lines.getD k [])).length (spl 32 (lines.getD k [])).length] W fun e w'=>e=.returned (.string (bs (outs.getD k [])))∧Below W.heap.size W w') :
 Calls Tryz.prog 9 #[.string (bs l)] w fun e w'=>e=.returned (.string (bs (outT outs n)))∧Below w.heap.size w w':=by
 have HSP:=Lib.hid (split_any l 10 w hm (by omega))
 rw [hspl] at HSP
 have hll1:(lines++[z]).length=n+1:=by rw [List.length_append,hn];rfl
 rw [hll1] at HSP
 have HM:=Lib.hid (fun W (hB:Below w.heap.size w W)=>hm.on hB)
 have HTab:=Lib.hid (fun W (hB:Below w.heap.size w W)=>ht.on hB)
 have HANS:=Lib.hid HA
 have HLL:=Lib.hid hll;have HOL:=Lib.hid hol
 have HOP:=Lib.hid (outP_len outs hol)
 have hsz:(bs l).size≤600:=by rw [bs_size];exact hlen
 obtain ⟨LV,hLV⟩:∃LV:Array Value,((lines++[z]).map fun x=>Value.string (bs x)).toArray=LV:=⟨_,rfl⟩
 rw [hLV] at HSP
 have HLV:Hid (∀k,k<n→LV[k]?=some (.string (bs (lines.getD k [])))):=fun k hk=>by
  rw [←hLV]
  have:k<lines.length:=by omega
  simp [List.getD,this,List.getElem?_append_left]
 have hal:Below w.heap.size w (w.alloc (.cells LV 9)):=(Below.refl _ _).alloc (Nat.le_refl _) _
 have HAL:=Lib.hid hal
 have HBL:=Lib.hid (Blk.new w 9 LV)
 clear hspl hll1 ht hm HA hll hol hLV hal hn hlen
 obtain ⟨L,hL⟩:∃L,bs l=L:=⟨_,rfl⟩
 rw [hL] at hsz HSP ⊢
 clear hL
 have hsl:=head_slice w.heap.size n (by omega)
 have hsl':=Lib.hid hsl;clear hsl
 go_enter Tryz.func9,Tryz.ntmps9
 go_wp2_with fail
 refine HSP.out.mono ?_
 rintro e w1 ⟨rfl,rfl⟩
 have hs1:=hsl'.out (w.alloc (.cells LV 9))
 have HBD:=Lib.hid (HAL.out.alloc HAL.out.size (.cells #[.pointer none,.slice none 0 0] 49))
 have HU0:=Lib.hid (builder_new (w:=w.alloc (.cells LV 9)) (B:=w.heap.size+1) (by simp))
 rw [World.size_alloc] at HU0
 have HBL0:=Lib.hid (HBL.out.alloc (.cells #[.pointer none,.slice none 0 0] 49))
 have hz0:w.heap.size+1≤((w.alloc (.cells LV 9)).alloc (.cells #[.pointer none,.slice none 0 0] 49)).heap.size:=by simp
 have HZ0:=Lib.hid hz0;clear hz0
 go_wp2_with fail
 obtain ⟨D,hD⟩:∃D,w.heap.size+1=D:=⟨_,rfl⟩
 rw [hD] at HU0 HZ0 ⊢
 have HD:=Lib.hid hD;clear hD
 go_loopw [19] (fun i wr=>∃k:Nat,k≤n∧i=.int .i64 k∧Hid (Below w.heap.size w wr)∧Hid (Blk wr w.heap.size 9 LV)∧Hid (Lib.IsBuilderF 49 5 D D (Lib.byteCells (outP outs k)) wr)∧Hid (D≤wr.heap.size)) (fun i _=>n-(RowKit.intOf i).toNat)
 case atStart=>exact ⟨0,Nat.zero_le _,rfl,HBD.out,HBL0.out,HU0.out,HZ0.out⟩
 case round =>
  clear HBD HBL0 HU0 HZ0 hs1
  obtain ⟨k,hk,rfl,HB,HBK,HU,HZ⟩:=hrel
  by_cases hlt:k<n
  ·have c0:wr.cell? ⟨w.heap.size,k,none⟩=some (.string (bs (lines.getD k []))):=(HBK.out.cell k).trans (HLV.out k hlt)
   have i1:(k:Int)<(n:Int):=by omega
   have i0:(0:Int)≤(k:Int):=by omega
   have h60:=HLL.out k
   have h10:=HOL.out k
   have hop:=HOP.out k
   have HSW:=Lib.hid (split_any (lines.getD k []) 32 wr (HM.out wr HB.out) (by omega))
   have HBW:=Lib.hid (Blk.new wr 9 (wcs (spl 32 (lines.getD k []))))
   have HB1:=Lib.hid (HB.out.alloc HB.out.size (.cells (wcs (spl 32 (lines.getD k []))) 9))
   have HBK1:=Lib.hid (HBK.out.alloc (.cells (wcs (spl 32 (lines.getD k []))) 9))
   have HU1:=Lib.hid (builder_below HU.out ((Below.refl _ wr).alloc (Nat.le_refl _) (.cells (wcs (spl 32 (lines.getD k []))) 9)))
   have HAN:=Lib.hid (HANS.out k hlt (wr.alloc (.cells (wcs (spl 32 (lines.getD k []))) 9)) wr.heap.size HB1.out HBW.out)
   have HOS:Hid (outP outs (k+1)=outP outs k++(outs.getD k []++[10])):=rfl
   have HSJ:Hid (bs (outs.getD k [])++⟨#[10]⟩=bs (outs.getD k []++[10])):=bs_append _ [10]
   have hz4:(outs.getD k []++[10]).length≤10001:=by rw [List.length_append];simpa using h10
   have hos:(bs (outs.getD k [])).size≤10000:=by rw [bs_size];exact h10
   obtain ⟨q,hq⟩:∃q,outs.getD k []++[10]=q:=⟨_,rfl⟩
   rw [hq] at HOS HSJ hz4
   clear hq h10 HBW
   change Hid (Calls Tryz.prog 23 _ wr fun e w'=>e=.returned (.slice (some ⟨wr.heap.size,0,none⟩) (spl 32 (lines.getD k [])).length (spl 32 (lines.getD k [])).length)∧w'=wr.alloc (.cells (wcs (spl 32 (lines.getD k []))) 9)) at HSW
   generalize (spl 32 (lines.getD k [])).length=m at *
   generalize wcs (spl 32 (lines.getD k []))=WV at *
   generalize bs (lines.getD k [])=LK at *
   generalize bs (outs.getD k [])=OK at *
   go_wp2_with fail
   refine HSW.out.mono ?_
   rintro e w2 ⟨rfl,rfl⟩
   go_wp2_with fail
   refine HAN.out.mono ?_
   rintro e w3 ⟨rfl,hb3⟩
   have HB3:=Lib.hid (HB1.out.trans (hb3.mono HB1.out.size))
   have HBK3:=Lib.hid (HBK1.out.sub hb3)
   have HU3:=Lib.hid (builder_below HU1.out hb3)
   have HZ3:Hid (D≤w3.heap.size):=Nat.le_trans HZ.out (Nat.le_trans (by simp) hb3.size)
   clear hb3 HAN HSW
   go_wp2_with fail
   rw [HSJ.out]
   refine (writeString_any D D (outP outs k) q w3 HU3.out (by omega) HZ3.out).mono ?_
   rintro e w4 ⟨rfl,hu4,hb4⟩
   have HB4:=Lib.hid (HB3.out.trans (hb4.mono (by have:=HD.out;omega)))
   have HBK4:=Lib.hid (HBK3.out.below hb4 (by have:=HD.out;omega))
   have HU4:Hid (Lib.IsBuilderF 49 5 D D (Lib.byteCells (outP outs (k+1))) w4):=by unfold Hid;rw [HOS.out];exact hu4
   have HZ4:=Lib.hid (Nat.le_trans HZ3.out hb4.size)
   clear hu4 hb4
   go_wp2_with fail
   go_roundw
   case rel=>exact ⟨k+1,by omega,by go_num,HB4.out,HBK4.out,HU4.out,HZ4.out⟩
   case measure=>(simp [RowKit.intOf] <;> omega)
  ·obtain rfl:k=n:=by omega
   have hop:=HOP.out k
   rw [←bs_size] at hop
   have hdd:(decDigits k).length≤7:=dig_len7 (by omega)
   rw [←bs_size] at hdd
   have HOT:Hid (bs (outT outs k)=bs (outP outs k)++⟨#[108,105,110,101,115,32]⟩++bs (decDigits k)++⟨#[10]⟩):=by
    unfold Hid outT
    rw [←bs_append,←bs_append,←bs_append];rfl
   go_wp2_with fail
   refine (Tryz.Builder_String_any_f D D _ wr HU.out HZ.out).mono ?_
   rintro e w3 ⟨rfl,_,hb3⟩
   have HB3:=Lib.hid (HB.out.trans (hb3.mono (by have:=HD.out;omega)));clear hb3
   have HIT:=Lib.hid (itoa_any k (by omega) w3 (HTab.out _ HB3.out))
   obtain ⟨S,hS⟩:∃S,bs (outP outs k)=S:=⟨_,rfl⟩
   obtain ⟨DD,hDD⟩:∃DD,bs (decDigits k)=DD:=⟨_,rfl⟩
   rw [show ({ data:=(outP outs k).toArray }:ByteArray)=S from hS]
   rw [hS] at hop HOT
   rw [hDD] at hdd HOT HIT
   have HS:=Lib.hid hS;clear hS hDD
   have hop2:S.size≤6000600:=by omega
   clear hop
   go_wp2_with fail
   refine HIT.out.mono ?_
   rintro e w4 ⟨rfl,hb4⟩
   have HB4:=Lib.hid (HB3.out.trans (hb4.mono HB3.out.size));clear hb4
   go_wp2_with fail
   go_ret
   exact ⟨ret_str HOT.out.symm,HB4.out⟩
theorem implExecute_all (l:List UInt8) (w:World) (ht:Tab w) (hx:Mx w) (he:Er w) (hE:Ers w) (hd:Mi.Dbt w) :
 Calls Tryz.prog 9 #[.string (bs l)] w fun e w'=>e=.returned (.string (bs (exT l)))∧Below w.heap.size w w':=by
 by_cases hl:l.length≤600
 case neg =>
  have hsz:(bs l).size=l.length:=bs_size l
  have HB0:=Lib.hid (Below.refl w.heap.size w)
  have he:exT l=[116,111,111,32,108,111,110,103,10]:=by unfold exT;rw [if_neg hl]
  rw [he,show bs [116,111,111,32,108,111,110,103,10]=⟨#[116,111,111,32,108,111,110,103,10]⟩ from rfl]
  clear he ht hx hE hd
  generalize bs l=X at *
  obtain ⟨n,hn⟩:∃n,l.length=n:=⟨_,rfl⟩
  rw [hn] at hsz hl
  clear hn
  have d0:(600:Int)<(n:Int):=by omega
  go_enter Tryz.func9,Tryz.ntmps9
  go_wp2_with fail
  go_ret
  exact ⟨rfl,HB0.out⟩
 obtain ⟨z,hz⟩:=spl_last l
 have hee:exT l=outT ((linesO l).map ansL) (linesO l).length:=by unfold exT;rw [if_pos hl]
 rw [hee]
 have hll:∀k,((linesO l).getD k []).length≤600:=fun k=>by
  rw [List.getD_eq_getElem?_getD]
  rcases h:(linesO l)[k]? with _ | x
  ·simp
  ·have hm:x∈spl 10 l:=by rw [hz];exact List.mem_append_left _ (List.mem_of_getElem? h)
   have:=(spl_sub 10 l x hm).1
   simp;omega
 have hnl:(linesO l).length≤600:=by
  have h1:=spl_len 10 l
  rw [hz,List.length_append] at h1
  simp only [List.length_cons,List.length_nil] at h1
  omega
 refine Execute_last l z (linesO l).length (linesO l) ((linesO l).map ansL) w ht hx hl hz rfl hnl hll (ansL_at _) ?_
 intro k hk W b hW hb
 have hg:((linesO l).map ansL).getD k []=ansW (spl 32 ((linesO l).getD k [])):=by
  rw [List.getD_eq_getElem?_getD,List.getElem?_map,List.getD_eq_getElem?_getD,List.getElem?_eq_getElem hk];rfl
 rw [hg]
 obtain ⟨h1,h2,h3,h4⟩:=line_words _ (hll k)
 exact answer_all b _ (spl 32 ((linesO l).getD k [])) W ⟨rfl,h1,h2,h3,h4,ht.on hW,hx.on hW,he.on hW,hE.on hW,hd.on hW⟩ hb
end
end
section
section
open Go.RowKit
attribute [local go_sem ↓] Go.wp_at_zero Go.wp_at_succ
theorem fnExactExecute_walk (s:ByteArray) (w:World) (hs:s.size≤maxLen) (ht:Tab w) (hm:Mx w) (hE:Ers w) (he:Er w) (hd:Mi.Dbt w) :
 Calls Tryz.prog 4 #[.string s] w fun e w'=>e=.returned (.bool true)∧Below w.heap.size w w':=by
 have hb:bs s.data.toList=s:=rfl
 have HSE:=Lib.hid (fun W=>specExecute_any s.data.toList W)
 have HIE:=Lib.hid (fun W (hW:Below w.heap.size w W)=>implExecute_all s.data.toList W (ht.on hW) (hm.on hW) (he.on hW) (hE.on hW) (hd.on hW))
 rw [hb] at HSE HIE
 have HB0:=Lib.hid (Below.refl w.heap.size w)
 clear ht hm hE he hd hb
 unfold maxLen at hs
 generalize bs (exT s.data.toList)=Y at *
 by_cases hl:s.size≤1048576
 case neg =>
  have d0:(1048576:Int)<(s.size:Int):=by omega
  go_enter Tryz.func4,Tryz.ntmps4
  go_wp2_with fail
  go_ret
  exact ⟨rfl,HB0.out⟩
 have d0:¬((1048576:Int)<(s.size:Int)):=by omega
 go_enter Tryz.func4,Tryz.ntmps4
 go_wp2_with fail
 refine (HSE.out _).mono ?_
 rintro e w1 ⟨rfl,hb1⟩
 have HB1:=Lib.hid (bel_sub HB0.out hb1);clear hb1
 go_wp2_with fail
 refine (HIE.out _ HB1.out).mono ?_
 rintro e w2 ⟨rfl,hb2⟩
 have HB2:=Lib.hid (bel_sub HB1.out hb2);clear hb2
 go_wp2_with fail
 go_ret
 exact ⟨rfl,HB2.out⟩
end
end
section
open Go.ChangeShapes Go.WideShapes Go.ChangeAt Go.RowKit
theorem sent_of_trod {P:Program} {W:World} {g:Nat} {t:TypeId} {n nm:String} {cs:Array Value} {fuel:Nat} {d:DataW Unit} {p:List MemPlace} {ms:Array (String × TypeId)} {D:DataW Unit}
 (hg:P.globalNamed n=some g) (hv:W.var? P n=some cs) (hi:P.underlying t=some (.interface ms)) (hD:D=.iface nm d) (h:DataW.trod (fun _=>()) P W 0 (fun _=>true) false fuel t cs.toList=some (D,p)) :
 ∃te pe,W.cell? ⟨g,0,none⟩=some (.iface te pe):=by
 subst hD
 obtain ⟨_,u,v,e,_,_⟩:=iface_of_trod hi h
 have:=World.var?_cell hg hv 0
 obtain ⟨l⟩:=cs
 simp only at e
 subst e
 exact ⟨u,v,by simpa using this⟩
theorem ers_of_laid9 {W:World} (h:laidMetH Tryz.prog laid9 W):Ers W:=by
 rw [MakeChecks.laidMetH_plain _ _ _ (by kernel_rfl)] at h
 obtain ⟨ps,⟨g0,t0,cs0,f0,p0,q0,hg0,ht0,hv0,hd0,⟨g1,t1,cs1,f1,p1,q1,hg1,ht1,hv1,hd1,⟨g2,t2,cs2,f2,p2,q2,hg2,ht2,hv2,hd2,⟨g3,t3,cs3,f3,p3,q3,hg3,ht3,hv3,hd3,⟨g4,t4,cs4,f4,p4,q4,hg4,ht4,hv4,hd4,⟨g5,t5,cs5,f5,p5,q5,hg5,ht5,hv5,hd5,⟨g6,t6,cs6,f6,p6,q6,hg6,ht6,hv6,hd6,⟨g7,t7,cs7,f7,p7,q7,hg7,ht7,hv7,hd7,_,_⟩,_⟩,_⟩,_⟩,_⟩,_⟩,_⟩,_⟩,_,_⟩:=h
 obtain rfl := Option.some.inj ((show Tryz.prog.globalNamed "loop.example/atomicspectra/impl.errLevel" = some 6 by kernel_rfl).symm.trans hg6)
 obtain rfl:=Option.some.inj ((show (Tryz.prog.globals[6]?).map (·.type)=some 51 by kernel_rfl).symm.trans ht6)
 obtain rfl := Option.some.inj ((show Tryz.prog.globalNamed "loop.example/atomicspectra/impl.errAtRest" = some 7 by kernel_rfl).symm.trans hg7)
 obtain rfl:=Option.some.inj ((show (Tryz.prog.globals[7]?).map (·.type)=some 51 by kernel_rfl).symm.trans ht7)
 exact ⟨sent_of_trod hg6 hv6 Tryz.underlying51 rfl hd6,sent_of_trod hg7 hv7 Tryz.underlying51 rfl hd7⟩
end
section
open Go.ChangeShapes Go.WideShapes Go.ChangeAt Go.RowKit
def tab64:List Int:=Lib.deBruijn64tab.map fun (k:Nat)=>(k:Int)
theorem gDb : Tryz.prog.globalNamed "math/bits.deBruijn64tab" = some 3 := by kernel_rfl
theorem tDb:(Tryz.prog.globals[3]?).map (·.type)=some 216:=by kernel_rfl
theorem dDb:(Rows.laid_math_bits_deBruijn64tab:DataW Unit)=Lib.tabData .u8 tab64:=by kernel_rfl
theorem dbt_of_laid9 {W:World} (h:laidMetH Tryz.prog laid9 W):Mi.Dbt W:=by
 rw [MakeChecks.laidMetH_plain _ _ _ (by kernel_rfl)] at h
 obtain ⟨ps,⟨g0,t0,cs0,f0,p0,q0,hg0,ht0,hv0,hd0,⟨g1,t1,cs1,f1,p1,q1,hg1,ht1,hv1,hd1,_,_⟩,_⟩,_,_⟩:=h
 obtain rfl:=Option.some.inj (gDb.symm.trans hg1)
 obtain rfl:=Option.some.inj (tDb.symm.trans ht1)
 rw [dDb] at hd1
 have e:=Lib.cells_of_tab Tryz.underlying216 Tryz.underlying5 (by kernel_rfl) (by kernel_rfl) hd1
 have hT : Lib.TabIs Tryz.prog W "math/bits.deBruijn64tab" .u8 tab64 := by
  unfold Lib.TabIs
  rw [hv1,←e]
 intro k hk
 have hl:tab64.length=64:=by decide
 have:=hT.cell gDb k (by rw [hl];exact hk)
 rw [this]
 have hk2:k<Lib.deBruijn64tab.length:=by
  have:Lib.deBruijn64tab.length=64:=by decide
  omega
 simp [tab64,List.getD,hk2]
end
end Go.Proofs.YtjdfbnlaiiknpaaGreatDoor
