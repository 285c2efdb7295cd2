/- Parts of the proof of : Ss. -/
import Derived.Test.YtammfhheibaeaaaGreatDoorQ25
set_option maxHeartbeats 20000000
set_option maxRecDepth 1000000
set_option linter.unusedSimpArgs false
set_option linter.unusedVariables false
namespace Go.Proofs.YtammfhheibaeaaaGreatDoor
section
open Go.RowKit Go.Lib
attribute [local go_sem ↓] Go.wp_at_zero Go.wp_at_succ
noncomputable def nlf (l:List UInt8):List T3:=((spl 10 l).dropLast).map ndf
theorem nlf_scT {ns:List T3} (h:svB ns=true):nlf (scT ns)=ns:=by
 have hall:=(svB_iff.1 h).2.2
 unfold nlf
 rw [spl_scT h,List.dropLast_concat,List.map_map]
 apply List.ext_getElem
 ·simp
 ·intro k h1 h2
  rw [List.getElem_map,List.getElem_range]
  show ndf (ndT (gN ns k).1 (gN ns k).2.1 (gN ns k).2.2)=_
  rw [ndf_nd (okN_iff.1 (hall k h2)).1]
  show gN ns k=_
  unfold gN;rw [List.getElem?_eq_getElem h2];rfl
def SsPost (l:List UInt8) (w:World) (en:Ending) (w':World):Prop :=
 (((l≠[]∧scT (nlf l)=l)∧∃(A:Option Addr) (c:Nat),en=.returned (.tuple #[.slice A (nlf l).length c,.bool true])∧(nlf l).length≤c∧Reads w' w'.heap.size 3 A (nlf l).length (ncells (nlf l)))
  ∨ (¬(l≠[]∧scT (nlf l)=l)∧∃N,en=.returned (.tuple #[.slice (some ⟨N,0,none⟩) 0 0,.bool false])))∧Below w.heap.size w w'
theorem specSchemeFrom_all (l:List UInt8) (w:World) (hlen:l.length≤1048576) :
 Calls Tryz.prog 5 #[.string (bs l)] w (SsPost l w):=by
 have HSZ:=Lib.hid (bs_size l)
 have HIX:=Lib.hid (idx_strk l)
 have HSL:Hid (∀(f k:Nat),f≤k→k≤l.length→∀W,(Instr.slice 9 (.string (bs l)) (some (.int .i64 (f:Int))) (some (.int .i64 (k:Int))) none).run Tryz.prog W=.ok (.string (bs ((l.take k).drop f))) W):=fun f k hf hk W=>by
  rw [run_slice_string_if (h:=Tryz.underlying9),if_pos ⟨by omega,by rw [bs_size];omega⟩,if_pos ⟨by omega,by omega⟩,Int.toNat_natCast,Int.toNat_natCast,bs_extract,List.drop_take]
 have HO1:=Lib.hid (own_empty w 34 3)
 have HB1:=Lib.hid ((Below.refl w.heap.size w).alloc (Nat.le_refl _) (.cells #[] 34))
 obtain ⟨L,hL⟩:∃L,bs l=L:=⟨_,rfl⟩
 rw [hL] at HSZ HIX HSL ⊢
 have hLs:L.toList=l:=by rw [←hL];exact ByteArray.toList_mk _
 have HLS:=Lib.hid hLs;clear hL hLs
 obtain ⟨n,hn⟩:∃n,l.length=n:=⟨_,rfl⟩
 rw [hn] at hlen HSL HSZ
 have hsz:L.size=n:=HSZ.out
 have HN:=Lib.hid hn;clear hn HSZ
 go_enter Tryz.func5,Tryz.ntmps5
 go_wp2_with fail
 go_loopw [4,5,6] (fun v fr i wr=>∃(k f m:Nat) (A:Option Addr) (c:Nat) (P:List (List UInt8)),k≤n∧f≤k∧m≤k∧i=.int .i64 k∧fr=.int .i64 f∧v=.slice A m c∧m≤c∧Hid (P.length=m)∧Hid (spl 10 (l.take k)=P++[(l.take k).drop f])∧Hid (wr.ownsRow w.heap.size 34 3 (.slice A m c) m (ncells (P.map ndf)))∧Hid (Below w.heap.size w wr)) (fun _ _ i _=>n+1-(RowKit.intOf i).toNat)
 case atStart=>exact ⟨0,0,0,_,_,[],Nat.zero_le _,Nat.le_refl _,Nat.le_refl _,rfl,rfl,rfl,Nat.le_refl _,rfl,rfl,HO1.out,HB1.out⟩
 case round =>
  clear HO1 HB1
  obtain ⟨k,f,m,A,c,P,hk,hf,hmk,rfl,rfl,rfl,hmc,HP,HS,HW,HB⟩:=hrel
  by_cases hlt:k<n
  ·obtain ⟨y,hy⟩:∃y,l[k]?=some y:=⟨l[k]'(by have:=HN.out;omega),List.getElem?_eq_getElem _⟩
   have hidx:=HIX.out k y hy
   have i1:(k:Int)<(n:Int):=by omega
   have htk:l.take (k+1)=l.take k++[y]:=by rw [List.take_add_one,hy];rfl
   have htl:(l.take k).length=k:=by rw [List.length_take,HN.out];omega
   by_cases hy10:y=10
   ·subst hy10
    have e1:(((10:UInt8).toNat:Int)==10)=true:=rfl
    generalize (((10:UInt8).toNat:Nat):Int)=xi at *
    have hsl:=HSL.out f k hf hk
    have HS2:Hid (spl 10 (l.take (k+1))=(P++[(l.take k).drop f])++[(l.take (k+1)).drop (k+1)]):=by
     have hd:(l.take (k+1)).drop (k+1)=[]:=List.drop_eq_nil_of_le (by rw [List.length_take];omega)
     unfold Hid
     rw [hd,htk,spl_hit,HS.out]
    have HP2:Hid ((P++[(l.take k).drop f]).length=m+1):=by unfold Hid;rw [List.length_append,HP.out];rfl
    have HC:=Lib.hid (fun W=>l41Node_any ((l.take k).drop f) W (by rw [List.length_drop,htl];omega))
    clear htk htl
    have HSC:Hid (ncells ((P++[(l.take k).drop f]).map ndf)=ncells (P.map ndf)++[.int .i64 (ndf ((l.take k).drop f)).1,.int .i64 (ndf ((l.take k).drop f)).2.1,.bool (ndf ((l.take k).drop f)).2.2]):=by unfold Hid;rw [List.map_append];exact ncells_snoc _ _
    generalize P++[(l.take k).drop f]=P2 at *
    generalize (ndf ((l.take k).drop f)).1=E at *
    generalize (ndf ((l.take k).drop f)).2.1=J at *
    generalize (ndf ((l.take k).drop f)).2.2=O at *
    generalize bs ((l.take k).drop f)=S at *
    go_wp2_with fail
    refine (HC.out _).mono ?_
    rintro en w2 ⟨rfl,hb2⟩
    have HW2:=Lib.hid (own_below HW.out hb2)
    have HB2:=Lib.hid (HB.out.trans (hb2.mono HB.out.size))
    clear hb2 HW HB HC
    have hbs:=HB2.out.size
    go_wp2_with (at_builtin;refine wpList_app1b _ rfl (.tmp 18) (.tmp 24) _ rfl w.heap.size 34 3 24 elNode A c m _ rfl (HW2.out.alloc _) w2.heap.size #[.int .i64 E,.int .i64 J,.bool O] rfl (Blk.new w2 _ _) rfl ?h1 (by omega) (by omega) (by simp;omega) ?_)
    case h1=>simp [Value.oneCell']
    intro A' c' w6 hown6 hc6 hb6
    have HW6:Hid (w6.ownsRow w.heap.size 34 3 (.slice A' (m+1) c') (m+1) (ncells (P2.map ndf))):=by unfold Hid;rw [HSC.out];exact hown6
    have HB6:=Lib.hid ((HB2.out.alloc HB2.out.size (.cells #[.int .i64 E,.int .i64 J,.bool O] 34)).trans hb6)
    clear hown6 hb6
    go_wp2_with fail
    go_roundw
    case rel=>exact ⟨k+1,k+1,m+1,A',c',P2,by omega,by omega,by omega,by go_num,by go_num,rfl,hc6,HP2.out,HS2.out,HW6.out,HB6.out⟩
    case measure=>simp [RowKit.intOf];omega
   ·have e1:((y.toNat:Int)==10)=false:=u8_ne hy10
    have HS2:Hid (spl 10 (l.take (k+1))=P++[(l.take (k+1)).drop f]):=by
     unfold Hid
     rw [htk,spl_miss hy10 _ _ _ HS.out,List.drop_append_of_le_length (by omega)]
    clear htk htl
    generalize ((y.toNat:Nat):Int)=xi at *
    go_wp2_with fail
    go_roundw
    case rel=>exact ⟨k+1,f,m,A,c,P,by omega,by omega,by omega,by go_num,rfl,rfl,hmc,HP.out,HS2.out,HW.out,HB.out⟩
    case measure=>simp [RowKit.intOf];omega
  ·obtain rfl:k=n:=by omega
   have htk:l.take k=l:=List.take_of_length_le (by rw [HN.out];exact Nat.le_refl _)
   rw [htk] at HS
   have HNL:Hid (nlf l=P.map ndf):=by unfold Hid nlf;rw [HS.out,List.dropLast_concat]
   clear htk
   rw [←HNL.out] at HW
   have HML:Hid ((nlf l).length=m):=by unfold Hid;rw [HNL.out,List.length_map];exact HP.out
   have HR:=Lib.hid (own_reads HW.out)
   have HC:=Lib.hid (specSchemeText_any A m c (nlf l) wr (by omega) HML.out HR.out)
   have hem:L.toList.isEmpty=l.isEmpty:=by rw [HLS.out]
   obtain ⟨T,hT⟩:∃T,bs (scT (nlf l))=T:=⟨_,rfl⟩
   have hTs:T.toList=scT (nlf l):=by rw [←hT];exact ByteArray.toList_mk _
   have HEQ:Hid ((T.toList==L.toList)=decide (scT (nlf l)=l)):=by unfold Hid;rw [hTs,HLS.out,Bool.eq_iff_iff];simp
   rw [hT] at HC
   clear hT hTs
   cases hl:l.isEmpty
   ·rw [hl] at hem
    have HNE:Hid (l≠[]):=fun h=>by rw [h] at hl;cases hl
    by_cases hsc:scT (nlf l)=l
    ·have heq:(T.toList==L.toList)=true:=HEQ.out.trans (decide_eq_true hsc)
     have HGD:Hid (l≠[]∧scT (nlf l)=l):=⟨HNE.out,hsc⟩
     clear hsc hl
     go_wp2_with fail
     refine HC.out.mono ?_
     rintro en w7 ⟨rfl,hb7⟩
     have HB7:=Lib.hid (HB.out.trans (hb7.mono HB.out.size))
     have HR7:=Lib.hid ((HR.out.below hb7).more hb7.size);clear hb7
     go_wp2_with fail
     go_ret2
     refine ⟨.inl ⟨HGD.out,A,c,?_,?_,?_⟩,HB7.out⟩
     ·rw [HML.out];rfl
     ·rw [HML.out];exact hmc
     ·rw [HML.out];exact HR7.out
    ·have heq:(T.toList==L.toList)=false:=HEQ.out.trans (decide_eq_false hsc)
     have HGD:Hid (¬(l≠[]∧scT (nlf l)=l)):=fun h=>hsc h.2
     clear hsc hl
     go_wp2_with fail
     refine HC.out.mono ?_
     rintro en w7 ⟨rfl,hb7⟩
     have HB7:=Lib.hid (HB.out.trans (hb7.mono HB.out.size));clear hb7
     go_wp2_with fail
     go_ret2
     exact ⟨.inr ⟨HGD.out,_,rfl⟩,HB7.out.alloc HB7.out.size _⟩
   ·rw [hl] at hem
    have HGD:Hid (¬(l≠[]∧scT (nlf l)=l)):=fun h=>h.1 (List.isEmpty_iff.1 hl)
    clear hl
    go_wp2_with fail
    go_ret2
    exact ⟨.inr ⟨HGD.out,_,rfl⟩,HB.out.alloc HB.out.size _⟩
end
end Go.Proofs.YtammfhheibaeaaaGreatDoor
