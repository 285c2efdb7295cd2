/- Parts of the proof of : Pc. -/
import Derived.Test.YtammfhheibaeaaaGreatDoorQ19
import Derived.Test.YtammfhheibaeaaaGreatDoorQ16
set_option maxHeartbeats 20000000
set_option maxRecDepth 1000000
set_option linter.unusedSimpArgs false
set_option linter.unusedVariables false
namespace Go.Proofs.YtammfhheibaeaaaGreatDoor
section
open Go.RowKit Go.Lib
attribute [local go_sem ↓] Go.wp_at_zero Go.wp_at_succ
def BadT (l:List UInt8):Prop:=∀ns:List T3,svB ns=true→scT ns≠l
theorem spl_pos (c:UInt8) (l:List UInt8):∃m,(spl c l).length=m+1:=by
 cases h:(spl c l).length with
 | zero =>
  exfalso
  cases l with
  | nil=>simp [spl] at h
  | cons x r =>
   unfold spl at h
   split at h
   ·simp at h
   ·split at h <;> simp at h
 | succ m=>exact ⟨m,rfl⟩
theorem spl_cnt (c:UInt8) (l:List UInt8):(spl c l).length≤l.length+1:=by
 induction l with
 | nil=>simp [spl]
 | cons x r ih =>
  unfold spl
  split
  ·simp;omega
  ·split
   ·simp
   ·rename_i h;rw [h] at ih;simp at ih ⊢;omega
def PsBad (w:World) (en:Ending) (w':World):Prop :=
 (∃N,en=.returned (.tuple #[.slice none 0 0,.iface 40 (.pointer (some ⟨N,0,none⟩))]))∧Below w.heap.size w w'
theorem parseScheme_bad (l:List UInt8) (w:World) (ht:Tab w) (hm:Mx w) (he:Er w) (hlen:l.length≤1048576) (hbad:BadT l) :
 Calls Tryz.prog 16 #[.string (bs l)] w (PsBad w):=by
 have HSP:=Lib.hid (split_any l 10 w hm (by omega))
 obtain ⟨LV,hLV⟩:∃LV,((spl 10 l).map fun x=>Value.string (bs x)).toArray=LV:=⟨_,rfl⟩
 obtain ⟨n,hn⟩:=spl_pos 10 l
 have hnl:n≤1048576:=by have:=spl_cnt 10 l;omega
 rw [hLV,hn] at HSP
 have HLV:Hid (∀k,k<n→∃d:List UInt8,LV[k]?=some (.string (bs d))∧d.length≤1048576):=fun k hk=>by
  have hk':k<(spl 10 l).length:=by omega
  refine ⟨(spl 10 l)[k],?_,Nat.le_trans (spl_piece 10 l _ (List.getElem_mem hk')) hlen⟩
  rw [←hLV];simp [hk']
 clear hLV hn
 have HPN:=Lib.hid (fun (d:List UInt8) (hd:d.length≤1048576) W (hW:Below w.heap.size w W)=>parseNode_ex d W (ht.on hW) (hm.on hW) (he.on hW) hd)
 have HST:=Lib.hid (fun (A:Option Addr) (k c:Nat) ns (hk:k≤12) (hns:ns.length=k) W (hW:Below w.heap.size w W) hr=>implSchemeText_any A k c ns W (by omega) hns hr (ht.on hW))
 have HNE:=Lib.hid (fun ns (h:scT ns=l)=>show l=[] by
  by_cases hv:svB ns=true
  ·exact absurd h (hbad ns hv)
  ·rw [←h];unfold scT;rw [if_neg hv])
 clear ht hm he hlen hbad
 obtain ⟨L,hL⟩:∃L,bs l=L:=⟨_,rfl⟩
 rw [hL] at HSP ⊢
 have HL:=Lib.hid hL;clear hL
 go_enter Tryz.func16,Tryz.ntmps16
 go_wp2_with fail
 refine HSP.out.mono ?_
 rintro en w1 ⟨rfl,rfl⟩
 have HL1:=Lib.hid (Blk.new w 9 LV)
 have HB1:=Lib.hid ((Below.refl w.heap.size w).alloc (Nat.le_refl _) (.cells LV 9))
 have i1:((n+1:Nat):Int)-1=(n:Int):=by omega
 have HO1:Hid ((w.alloc (.cells LV 9)).ownsRow (w.heap.size+1) 34 3 (.slice none 0 0) 0 (ncells ([]:List T3))):=⟨by simp [ncells],.inl ⟨rfl,rfl⟩⟩
 go_wp2_with fail
 go_loopw [5,18] (fun v i wr=>∃(k:Nat) (A:Option Addr) (c:Nat) (ns:List T3),k≤n∧k≤12∧i=.int .i64 k∧v=.slice A k c∧k≤c∧Hid (ns.length=k)∧Hid (wr.ownsRow (w.heap.size+1) 34 3 (.slice A k c) k (ncells ns))∧Hid (Blk wr w.heap.size 9 LV)∧Hid (Below w.heap.size w wr)) (fun _ i _=>n+1-(RowKit.intOf i).toNat)
 case atStart=>exact ⟨0,_,_,[],Nat.zero_le _,Nat.zero_le _,rfl,rfl,Nat.le_refl _,rfl,HO1.out,HL1.out,HB1.out⟩
 case round =>
  clear HL1 HB1 HO1
  obtain ⟨k,A,c,ns,hk,hk12,rfl,rfl,hkc,HNS,HW,HL2,HB⟩:=hrel
  have hlt:=HL2.out.lt
  by_cases hkn:k<n
  ·have i2:(k:Int)<(n:Int):=by omega
   have i3:(0:Int)≤(k:Int):=by omega
   have i5:(k:Int)<((n+1:Nat):Int):=by omega
   obtain ⟨d,hd,hdl⟩:=HLV.out k hkn
   have c0:wr.cell? ⟨w.heap.size,k,none⟩=some (.string (bs d)):=(HL2.out.cell k).trans hd
   have HC:=Lib.hid (HPN.out d hdl wr HB.out)
   clear hd hdl
   generalize bs d=K at *
   go_wp2_with fail
   refine HC.out.mono ?_
   rintro en w5 ⟨⟨e,j,o,b,rfl⟩,hb5⟩
   have HL5:=Lib.hid (HL2.out.sub hb5)
   have HW5:=Lib.hid (own_below HW.out hb5)
   have HB5:=Lib.hid (HB.out.trans (hb5.mono HB.out.size))
   clear hb5 HL2 HW HB HC c0
   have hlt5:=HL5.out.lt
   cases b
   ·go_wp2_with fail
    go_ret2
    exact ⟨⟨_,rfl⟩,(HB5.out.alloc HB5.out.size _).alloc (by have:=HB5.out.size;simp;omega) _⟩
   ·by_cases hk2:k<12
    ·have i4:(k:Int)<12:=by omega
     have HBK:=Lib.hid (Blk.new (w5.alloc (.cells #[.int .i64 e,.int .i64 j,.bool o] 34)) 34 #[.int .i64 e,.int .i64 j,.bool o])
     rw [World.size_alloc] at HBK
     go_wp2_with (at_builtin;refine wpList_app1 _ rfl (.tmp 38) (.tmp 40) _ rfl (w.heap.size+1) 34 3 24 elNode A c k _ rfl ((HW5.out.alloc _).alloc _) (w5.heap.size+1) #[.int .i64 e,.int .i64 j,.bool o] rfl HBK.out rfl ?h1 (by omega) (by omega) (by simp;omega) ?_)
     case h1=>simp [Value.oneCell']
     intro A' c' w6 hown6 hc6 hb6
     have HW6:Hid (w6.ownsRow (w.heap.size+1) 34 3 (.slice A' (k+1) c') (k+1) (ncells (ns++[(e,j,o)]))):=by unfold Hid;rw [ncells_snoc];exact hown6
     clear hown6
     have HL6:=Lib.hid (((HL5.out.alloc (.cells #[.int .i64 e,.int .i64 j,.bool o] 34)).alloc (.cells #[.int .i64 e,.int .i64 j,.bool o] 34)).below hb6 (by omega))
     have HB6:=Lib.hid (((HB5.out.alloc HB5.out.size (.cells #[.int .i64 e,.int .i64 j,.bool o] 34)).alloc (by have:=HB5.out.size;simp;omega) (.cells #[.int .i64 e,.int .i64 j,.bool o] 34)).trans (hb6.mono (by omega)))
     clear hb6
     go_wp2_with fail
     go_roundw
     case rel=>exact ⟨k+1,A',c',ns++[(e,j,o)],by omega,by omega,by go_num,rfl,hc6,by have:=HNS.out;simp [Hid,this],HW6.out,HL6.out,HB6.out⟩
     case measure=>simp [RowKit.intOf];omega
    ·have i4:(12:Int)≤(k:Int):=by omega
     go_wp2_with fail
     go_ret2
     exact ⟨⟨_,rfl⟩,(HB5.out.alloc HB5.out.size _).alloc (by have:=HB5.out.size;simp;omega) _⟩
  ·obtain rfl:k=n:=by omega
   have HR:=Lib.hid (own_reads HW.out)
   have HC:=Lib.hid (HST.out A k c ns hk12 HNS.out wr HB.out HR.out)
   go_wp2_with fail
   refine HC.out.mono ?_
   rintro en w7 ⟨rfl,hb7⟩
   have HB7:=Lib.hid (HB.out.trans (hb7.mono HB.out.size))
   clear HC hb7
   have hLs:(bs l).toList=l:=ByteArray.toList_mk _
   rw [HL.out] at hLs
   obtain ⟨T,hT⟩:∃T,bs (scT ns)=T:=⟨_,rfl⟩
   have hTs:T.toList=scT ns:=by rw [←hT];exact ByteArray.toList_mk _
   rw [hT]
   cases heq:(T.toList==L.toList)
   ·clear hLs hTs hT
    go_wp2_with fail
    go_ret2
    exact ⟨⟨_,rfl⟩,HB7.out.alloc HB7.out.size _⟩
   ·have hll:L.toList.isEmpty=true:=by
     rw [hLs]
     have h1:T.toList=L.toList:=by simpa using heq
     rw [HNE.out ns (by rw [←hTs,h1,hLs])];rfl
    clear hLs hTs hT
    go_wp2_with fail
    go_ret2
    exact ⟨⟨_,rfl⟩,HB7.out.alloc HB7.out.size _⟩
end
end Go.Proofs.YtammfhheibaeaaaGreatDoor
