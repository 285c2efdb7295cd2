/- Parts of the proof of : Ps. -/
import Derived.Test.YtammfhheibaeaaaGreatDoorQ13
import Derived.Test.YtammfhheibaeaaaGreatDoorQ15
set_option maxHeartbeats 20000000
set_option maxRecDepth 1000000
set_option linter.unusedSimpArgs false
set_option linter.unusedVariables false
namespace Go.Proofs.YtammfhheibaeaaaGreatDoor
section
open Go.RowKit Go.Lib
attribute [local go_sem ↓] Go.wp_at_zero Go.wp_at_succ
def ndk (ns:List T3) (k:Nat):List UInt8:=ndT (gN ns k).1 (gN ns k).2.1 (gN ns k).2.2
theorem spl_sc (ns:List T3) (r:List UInt8) (k:Nat):spl 10 (scP ns k++r)=(List.range k).map (ndk ns)++spl 10 r:=by
 induction k generalizing r with
 | zero=>rfl
 | succ k ih =>
  have:scP ns (k+1)++r=scP ns k++(ndk ns k++10 :: r):=by simp [scP,ndk]
  rw [this,ih,show spl 10 (ndk ns k++10 :: r)=ndk ns k :: spl 10 r from spl_app (ndT_no10 _ _ _),List.range_succ,List.map_append,List.append_assoc];rfl
theorem spl_scT {ns:List T3} (h:svB ns=true):spl 10 (scT ns)=(List.range ns.length).map (ndk ns)++[[]]:=by
 unfold scT
 rw [if_pos h,show scP ns ns.length=scP ns ns.length++[] by simp,spl_sc];rfl
theorem scT_pos {ns:List T3} (h:svB ns=true):scT ns≠[]:=by
 intro e
 have:=spl_scT h
 rw [e,show spl 10 []=[[]] from rfl] at this
 have h1:=congrArg List.length this
 have h2:=(svB_iff.1 h).1.1
 simp only [List.length_append,List.length_map,List.length_range,List.length_cons,List.length_nil] at h1
 omega
theorem scT_len12 {ns:List T3} (h:svB ns=true):(scT ns).length≤240:=by
 unfold scT
 rw [if_pos h]
 have:=scP_len ns ns.length
 have h2:=(svB_iff.1 h).1.2
 omega
theorem own_base {w:World} {b b':Nat} {e:TypeId} {size n:Nat} {v:Value} {xs:List Value} (h:w.ownsRow b e size v n xs) (hb:b'≤b):w.ownsRow b' e size v n xs:=by
 refine ⟨h.1,h.2.imp id fun ⟨g,cap,cur,h1,h2,r⟩=>⟨g,cap,cur,h1,Nat.le_trans hb h2,r⟩⟩
theorem parseScheme_any (ns:List T3) (w:World) (ht:Tab w) (hm:Mx w) (h:svB ns=true) :
 Calls Tryz.prog 16 #[.string (bs (scT ns))] w fun en w'=>(∃(A:Option Addr) (c:Nat),en=.returned (.tuple #[.slice A ns.length c,.nilIface])∧ns.length≤c∧Reads w' w'.heap.size 3 A ns.length (ncells ns)∧w'.ownsRow w.heap.size 34 3 (.slice A ns.length c) ns.length (ncells ns))∧Below w.heap.size w w':=by
 have hsv:=svB_iff.1 h
 obtain ⟨⟨hn1,hn12⟩,_,hall⟩:=hsv
 have hlen:=scT_len12 h
 have HSP:=Lib.hid (split_any (scT ns) 10 w hm (by omega))
 rw [spl_scT h] at HSP
 obtain ⟨LV,hLV⟩:∃LV,(((List.range ns.length).map (ndk ns)++[[]]).map fun x=>Value.string (bs x)).toArray=LV:=⟨_,rfl⟩
 have hq:((List.range ns.length).map (ndk ns)++[[]]).length=ns.length+1:=by simp
 rw [hLV,hq] at HSP
 have HLV:Hid (∀k,k<ns.length→LV[k]?=some (.string (bs (ndk ns k)))):=fun k hk=>by
  rw [←hLV];simp [hk,List.getElem?_append]
 clear hLV hq
 have HPN:=Lib.hid (fun (k:Nat) (hk:k<ns.length) W (hW:Below w.heap.size w W)=>parseNode_any (gN ns k).1 (gN ns k).2.1 (gN ns k).2.2 W (ht.on hW) (hm.on hW) (okN_iff.1 (hall k hk)).1)
 have HST:=Lib.hid (fun (A:Option Addr) (c:Nat) W (hW:Below w.heap.size w W) hr=>implSchemeText_any A ns.length c ns W (by omega) rfl hr (ht.on hW))
 have hne:(bs (scT ns)).toList.isEmpty=false:=by
  rw [show (bs (scT ns)).toList=scT ns from ByteArray.toList_mk _]
  cases hh:scT ns with
  | nil=>exact absurd hh (scT_pos h)
  | cons a r=>rfl
 have HTK:=Lib.hid (fun (k:Nat) (hk:k<ns.length)=>gN_take ns hk)
 have HNL:Hid (ns.take ns.length=ns):=List.take_length
 clear ht hm h hlen hall
 obtain ⟨n,hn⟩:∃n,ns.length=n:=⟨_,rfl⟩
 rw [hn] at HSP HLV HPN HST HTK HNL hn1 hn12 ⊢
 clear hn
 generalize bs (scT ns)=L at *
 have heq:(L.toList != L.toList)=false:=by simp
 go_enter Tryz.func16,Tryz.ntmps16
 go_wp2_with fail
 refine HSP.out.mono ?_
 rintro en w1 ⟨rfl,rfl⟩
 have HL1:=Lib.hid (Blk.new w 9 LV)
 have HB1:=Lib.hid ((Below.refl w.heap.size w).alloc (Nat.le_refl _) (.cells LV 9))
 have i1:((n+1:Nat):Int)-1=(n:Int):=by omega
 have HO1:Hid ((w.alloc (.cells LV 9)).ownsRow (w.heap.size+1) 34 3 (.slice none 0 0) 0 (ncells (ns.take 0))):=⟨by simp [ncells],.inl ⟨rfl,rfl⟩⟩
 go_wp2_with fail
 go_loopw [5,18] (fun v i wr=>∃(k:Nat) (A:Option Addr) (c:Nat),k≤n∧i=.int .i64 k∧v=.slice A k c∧k≤c∧Hid (wr.ownsRow (w.heap.size+1) 34 3 (.slice A k c) k (ncells (ns.take k)))∧Hid (Blk wr w.heap.size 9 LV)∧Hid (Below w.heap.size w wr)) (fun _ i _=>n+1-(RowKit.intOf i).toNat)
 case atStart=>exact ⟨0,_,_,Nat.zero_le _,rfl,rfl,Nat.le_refl _,HO1.out,HL1.out,HB1.out⟩
 case round =>
  clear HL1 HB1 HO1
  obtain ⟨k,A,c,hk,rfl,rfl,hkc,HW,HL,HB⟩:=hrel
  have hlt:=HL.out.lt
  by_cases hkn:k<n
  ·have i2:(k:Int)<(n:Int):=by omega
   have i3:(0:Int)≤(k:Int):=by omega
   have i4:(k:Int)<12:=by omega
   have i5:(k:Int)<((n+1:Nat):Int):=by omega
   have c0:wr.cell? ⟨w.heap.size,k,none⟩=some (.string (bs (ndT (gN ns k).1 (gN ns k).2.1 (gN ns k).2.2))):=(HL.out.cell k).trans (HLV.out k hkn)
   have HC:=Lib.hid (HPN.out k hkn wr HB.out)
   have HNC:Hid (ncells (ns.take (k+1))=ncells (ns.take k)++#[.int .i64 (gN ns k).1,.int .i64 (gN ns k).2.1,.bool (gN ns k).2.2].toList):=by
    unfold Hid;rw [HTK.out k hkn,ncells_snoc]
   clear HPN
   generalize bs (ndT (gN ns k).1 (gN ns k).2.1 (gN ns k).2.2)=K at *
   generalize (gN ns k).1=e at *
   generalize (gN ns k).2.1=j at *
   generalize (gN ns k).2.2=o at *
   go_wp2_with fail
   refine HC.out.mono ?_
   rintro en w5 ⟨rfl,hb5⟩
   have HL5:=Lib.hid (HL.out.sub hb5)
   have HW5:=Lib.hid (own_below HW.out hb5)
   have HB5:=Lib.hid (HB.out.trans (hb5.mono HB.out.size))
   clear hb5 HL HW HB HC c0
   have hlt5:=HL5.out.lt
   have HBK:=Lib.hid (Blk.new (w5.alloc (.cells #[.int .i64 e,.int .i64 j,.bool o] 34)) 34 #[.int .i64 e,.int .i64 j,.bool o])
   rw [World.size_alloc] at HBK
   go_wp2_with (at_builtin;refine wpList_app1 _ rfl (.tmp 38) (.tmp 40) _ rfl (w.heap.size+1) 34 3 24 elNode A c k _ rfl ((HW5.out.alloc _).alloc _) (w5.heap.size+1) #[.int .i64 e,.int .i64 j,.bool o] rfl HBK.out rfl ?h1 (by omega) (by omega) (by simp;omega) ?_)
   case h1=>simp [Value.oneCell']
   intro A' c' w6 hown6 hc6 hb6
   rw [←HNC.out] at hown6
   have HW6:=Lib.hid hown6;clear hown6
   have HL6:=Lib.hid (((HL5.out.alloc (.cells #[.int .i64 e,.int .i64 j,.bool o] 34)).alloc (.cells #[.int .i64 e,.int .i64 j,.bool o] 34)).below hb6 (by omega))
   have HB6:=Lib.hid (((HB5.out.alloc HB5.out.size (.cells #[.int .i64 e,.int .i64 j,.bool o] 34)).alloc (by have:=HB5.out.size;simp;omega) (.cells #[.int .i64 e,.int .i64 j,.bool o] 34)).trans (hb6.mono (by omega)))
   clear hb6
   go_wp2_with fail
   go_roundw
   case rel=>exact ⟨k+1,A',c',by omega,by go_num,rfl,hc6,HW6.out,HL6.out,HB6.out⟩
   case measure=>simp [RowKit.intOf];omega
  ·obtain rfl:k=n:=by omega
   rw [HNL.out] at HW
   have HR:=Lib.hid (own_reads HW.out)
   have HC:=Lib.hid (HST.out A c wr HB.out HR.out)
   go_wp2_with fail
   refine HC.out.mono ?_
   rintro en w7 ⟨rfl,hb7⟩
   have HB7:=Lib.hid (HB.out.trans (hb7.mono HB.out.size))
   have HR7:=Lib.hid ((HR.out.below hb7).more hb7.size)
   have HW7:=Lib.hid (own_base (own_below HW.out hb7) (Nat.le_succ _))
   clear HC hb7
   go_wp2_with fail
   go_ret2
   exact ⟨⟨A,c,rfl,hkc,HR7.out,HW7.out⟩,HB7.out⟩
end
end Go.Proofs.YtammfhheibaeaaaGreatDoor
