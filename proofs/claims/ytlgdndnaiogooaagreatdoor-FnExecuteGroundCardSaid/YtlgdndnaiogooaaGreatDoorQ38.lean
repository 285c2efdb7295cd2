/- Parts of the proof of : Gra. -/
import Derived.Test.YtlgdndnaiogooaaGreatDoorQ36
import Derived.Test.YtlgdndnaiogooaaGreatDoorQ37
import Derived.Lib.OwnBridge
import Derived.DeepKeys4
set_option maxHeartbeats 20000000
set_option maxRecDepth 1000000
set_option linter.unusedSimpArgs false
set_option linter.unusedVariables false
namespace Go.Proofs.YtlgdndnaiogooaaGreatDoor
section
section
open Go.RowKit
attribute [local go_sem ↓] Go.wp_at_zero Go.wp_at_succ
theorem elShell:ElemOk Tryz.prog 36 87 3 24:=elemOk Tryz.underlying36 (z:=.agg #[.int .i64 0,.int .i64 0,.int .i64 0]) (by kernel_rfl) rfl (by omega)
def foOne (k j:Nat):List S3:=if (k:Int)-j<j+1∧(k:Int)-j≤3 then [((j:Int)+1,(k:Int)-j,4*((k:Int)-j)+2)] else []
def foRow (k m:Nat):List S3:=(List.range m).flatMap (foOne k)
def foL (k:Nat):List S3:=(List.range k).flatMap fun i=>foRow i (min (i+1) 7)
theorem foRow_zero (k:Nat):foRow k 0=[]:=rfl
theorem foRow_succ (k m:Nat):foRow k (m+1)=foRow k m++foOne k m:=by simp [foRow,List.range_succ]
theorem foL_succ (k:Nat):foL (k+1)=foL k++foRow k (min (k+1) 7):=by simp [foL,List.range_succ]
theorem foRow_len (k:Nat):∀m,(foRow k m).length≤m
 | 0=>by simp [foRow]
 | m+1=>by
  have:=foRow_len k m
  rw [foRow_succ,List.length_append]
  have:(foOne k m).length≤1:=by unfold foOne;split <;> simp
  omega
theorem foL_len:∀k,(foL k).length≤7*k
 | 0=>by simp [foL]
 | k+1=>by
  have:=foL_len k
  have:=foRow_len k (min (k+1) 7)
  rw [foL_succ,List.length_append]
  omega
def foAll:List S3:=[(1,0,2),(2,0,2),(2,1,6),(3,0,2),(3,1,6),(4,0,2),(3,2,10),(4,1,6),(5,0,2),(4,2,10),(5,1,6),(6,0,2),(4,3,14),(5,2,10),(6,1,6),(7,0,2),(5,3,14),(6,2,10),(7,1,6)]
theorem foL_eight:foL 8=foAll:=by decide +kernel
def FOPost (w:World) (e:Ending) (w':World):Prop:=(∃A c,e=.returned (.slice A 19 c)∧w'.ownsRow w.heap.size 87 3 (.slice A 19 c) 19 (scellsS foAll))∧Below w.heap.size w w'
theorem fillingOrder_any (w:World):Calls Tryz.prog 47 #[] w (FOPost w):=by
 obtain ⟨cs,hcs,hmk⟩:=run_mk0 elShell 19 (by omega) (by omega)
 have HO:=Lib.hid (World.ownsRow_made (base:=w.heap.size) (e:=87) (size:=3) w cs 19 (Nat.le_refl _) (by unfold maxLen;omega) hcs)
 have HB0:=Lib.hid (bel_alloc (Below.refl w.heap.size w) (.cells cs 87))
 have hmk2:∀w:World,(Instr.makeSlice 36 (.int .i64 0) (.int .i64 19)).run Tryz.prog w=.ok (.slice (some ⟨w.heap.size,0,none⟩) 0 19) (w.alloc (.cells cs 87)):=hmk
 clear hcs hmk
 go_enter Tryz.func47,Tryz.ntmps47
 go_wp2_with fail
 go_loopw [1,2,3,4] (fun v i _ _ wr=>∃(k:Nat) (A:Option Addr) (c:Nat),k≤8∧i=.int .i64 ((k:Int)+1)∧v=.slice A (foL k).length c∧Hid (wr.ownsRow w.heap.size 87 3 (.slice A (foL k).length c) (foL k).length (scellsS (foL k)))∧Hid (Below w.heap.size w wr)) (fun _ i _ _ _=>9-(RowKit.intOf i).toNat)
 case atStart=>exact ⟨0,_,_,Nat.zero_le _,rfl,rfl,HO.out,HB0.out⟩
 case round =>
  clear HO HB0 hmk2
  obtain ⟨k,A,c,hk,rfl,rfl,HO,HB⟩:=hrel
  by_cases hlt:k<8
  ·have hkl:=foL_len k
   have d0:decide ((k:Int)+1≤8)=true:=decide_eq_true (by omega)
   have hs1:=HB.out.size
   go_wp2_with fail
   go_loopw [1,3,4] (fun v i _ wx=>∃(m:Nat) (A:Option Addr) (c:Nat),m≤min (k+1) 7∧i=.int .i64 ((m:Int)+1)∧v=.slice A (foL k++foRow k m).length c∧Hid (wx.ownsRow w.heap.size 87 3 (.slice A (foL k++foRow k m).length c) (foL k++foRow k m).length (scellsS (foL k++foRow k m)))∧Hid (Below w.heap.size w wx)) (fun _ i _ _=>8-(RowKit.intOf i).toNat)
   case atStart=>exact ⟨0,A,c,Nat.zero_le _,rfl,by rw [foRow_zero,List.append_nil],by rw [foRow_zero,List.append_nil];exact HO.out,HB.out⟩
   case round =>
    clear HO HB hs1
    obtain ⟨m,A',c',hm,rfl,rfl,HO,HB⟩:=hrel
    have hsw:=HB.out.size
    by_cases hlm:m<min (k+1) 7
    ·have u1:IntKind.i64.wrap ((k:Int)+1-((m:Int)+1))=(k:Int)-m:=by rw [IntWalk.i64_in _ (by omega)];omega
     have hrl:=foRow_len k m
     have hlen:(foL k++foRow k m).length≤1000:=by rw [List.length_append];omega
     have hs1:=foRow_succ k m
     by_cases h1:(k:Int)-m<m+1
     case neg =>
      have hq:foOne k m=[]:=by unfold foOne;rw [if_neg (fun h=>h1 h.1)]
      rw [hq,List.append_nil] at hs1
      have HS:=Lib.hid hs1
      clear hs1 hq
      go_wp2_with fail
      go_roundw
      case rel=>exact ⟨m+1,A',c',by omega,by go_num,by rw [HS.out],by rw [HS.out];exact HO.out,HB.out⟩
      case measure=>simp [RowKit.intOf];omega
     by_cases h2:(k:Int)-m≤3
     case neg =>
      omega
     have hq:foOne k m=[((m:Int)+1,(k:Int)-m,4*((k:Int)-m)+2)]:=by unfold foOne;rw [if_pos ⟨h1,h2⟩]
     have hq2:capB ((k:Int)-m)=4*((k:Int)-m)+2:=by unfold capB;rw [if_pos (by omega)]
     rw [hq] at hs1
     have HS:=Lib.hid hs1
     have HC:=Lib.hid hq2
     clear hs1 hq hq2
     obtain ⟨len,hln⟩:∃len,(foL k++foRow k m).length=len:=⟨_,rfl⟩
     have HLN:=Lib.hid hln
     rw [hln] at HO hlen ⊢
     clear hln
     go_wp2_with fail
     refine (ShellCapacity_any ((k:Int)-m) wr).mono ?_
     rintro e w1 ⟨rfl,rfl⟩
     rw [HC.out]
     go_wp2_with (at_builtin;refine wpList_app1b _ rfl (.tmp 26) (.tmp 32) _ rfl w.heap.size 87 3 24 elShell A' c' len (scellsS (foL k++foRow k m)) rfl (HO.out.alloc _) wr.heap.size #[.int .i64 ((m:Int)+1),.int .i64 ((k:Int)-m),.int .i64 (4*((k:Int)-m)+2)] rfl (Blk.new wr _ _) rfl ?h1 (by omega) (by omega) (by simp;omega) ?_)
     case h1=>simp [Value.oneCell']
     intro A'' c'' w3 hown3 hc3 hb3
     have HW3:=Lib.hid hown3;clear hown3
     have HB3:=Lib.hid ((bel_alloc HB.out _).trans hb3);clear hb3
     go_wp2_with fail
     go_roundw
     case rel=>exact ⟨m+1,A'',c'',by omega,by go_num,by rw [HS.out,←List.append_assoc,List.length_append,HLN.out];rfl,by rw [HS.out,←List.append_assoc,List.length_append,HLN.out,scellsS_snoc];exact HW3.out,HB3.out⟩
     case measure=>simp [RowKit.intOf];omega
    ·have hme:m=min (k+1) 7:=by omega
     have hfl:=foL_succ k
     rw [←hme] at hfl
     have HF:=Lib.hid hfl
     have hmm:¬((m:Int)+1≤min ((k:Int)+1) 7):=by omega
     clear hfl hlm hme
     go_wp2_with fail
     go_roundw
     case rel=>exact ⟨k+1,A',c',by omega,by go_num,by rw [HF.out],by rw [HF.out];exact HO.out,HB.out⟩
     case measure=>simp [RowKit.intOf];omega
  ·have hke:k=8:=by omega
   subst hke
   have hfl:=foL_eight
   rw [hfl] at HO ⊢
   go_wp2_with fail
   go_ret
   exact ⟨⟨A,c,rfl,HO.out⟩,HB.out⟩
end
section
open Go.RowKit Go.Sort
attribute [local go_sem ↓] Go.wp_at_zero Go.wp_at_succ
theorem ltS (x y:S3):ltOf cfS x y=lessS x y:=cfS_less x y
theorem swoS:SWO (ltOf cfS) where
 irrefl x:=by rw [ltS];simp [lessS]
 trans x y z h1 h2:=by rw [ltS] at *;unfold lessS at *;simp only [decide_eq_true_eq] at *;omega
 ntrans x y z h1 h2:=by rw [ltS] at *;unfold lessS at *;simp only [decide_eq_false_iff_not] at *;omega
theorem holdsS {w:World} {g:Nat} {e:TypeId} {cur:Array Value} {ls:List S3} (hb:Blk w g e cur) (hf:Filled cur (scellsS ls)):HoldsK encS 3 w g 0 ls.toArray:=by
 intro j hj
 rw [size_flatK] at hj
 simp only [List.size_toArray] at hj
 rw [get_flatK _ _ _ _ (by simpa using hj),Nat.zero_add]
 refine ⟨?_,hb.frozen j⟩
 rw [hb.cell]
 have hjn:j / 3<ls.length:=by omega
 obtain ⟨c1,c2,c3⟩:=scellsS_at ls (j / 3) hjn
 have hg:ls.toArray[j / 3]! = gS ls (j / 3):=by simp [gS,hjn]
 rw [hg]
 have h3:j % 3=0∨j % 3=1∨j % 3=2:=by omega
 rcases h3 with h | h | h
 ·have e:j=j / 3*3:=by omega
  rw [←e] at c1
  rw [hf _ _ c1,h];rfl
 ·have e:j=j / 3*3+1:=by omega
  rw [←e] at c2
  rw [hf _ _ c2,h];rfl
 ·have e:j=j / 3*3+2:=by omega
  rw [←e] at c3
  rw [hf _ _ c3,h];rfl
theorem readsS {w:World} {g:Nat} {d:Array S3} (h:HoldsK encS 3 w g 0 d) (hg:g<w.heap.size):Reads w w.heap.size 3 (some ⟨g,0,none⟩) d.size (scellsS d.toList):=by
 refine ⟨by rw [scellsS_len];simp,fun _=>⟨g,0,rfl,hg,fun j u hu=>?_⟩⟩
 have hj:j<d.size*3:=by
  rcases Nat.lt_or_ge j (d.size*3) with h | h
  ·exact h
  ·rw [List.getElem?_eq_none (by rw [scellsS_len];simpa using h)] at hu;cases hu
 have hjn:j / 3<d.toList.length:=by simp;omega
 obtain ⟨c1,c2,c3⟩:=scellsS_at d.toList (j / 3) hjn
 have hgl:d[j / 3]! = gS d.toList (j / 3):=by
  have:j / 3<d.size:=by simpa using hjn
  simp [gS,this]
 have h3:j % 3=0∨j % 3=1∨j % 3=2:=by omega
 rcases h3 with h' | h' | h'
 ·have e:j=j / 3*3:=by omega
  have k:=(h.cell (i:=j / 3) (c:=0) (by omega) (by omega)).1
  rw [hgl] at k
  rw [←e,hu] at c1
  rw [show 0+j=0+j / 3*3+0 by omega,k,c1];rfl
 ·have e:j=j / 3*3+1:=by omega
  have k:=(h.cell (i:=j / 3) (c:=1) (by omega) (by omega)).1
  rw [hgl] at k
  rw [←e,hu] at c2
  rw [show 0+j=0+j / 3*3+1 by omega,k,c2];rfl
 ·have e:j=j / 3*3+2:=by omega
  have k:=(h.cell (i:=j / 3) (c:=2) (by omega) (by omega)).1
  rw [hgl] at k
  rw [←e,hu] at c3
  rw [show 0+j=0+j / 3*3+2 by omega,k,c3];rfl
theorem permS {d d':Array S3} (h:PermIn 0 d.size d d'):d'.size=d.size∧d'.toList.Perm d.toList:=by
 obtain ⟨h1,_,h2⟩:=h
 refine ⟨h1,?_⟩
 have e1:d'.extract 0 d.size=d':=by rw [←h1];simp
 have e2:d.extract 0 d.size=d:=by simp
 rwa [e1,e2] at h2
theorem sorted_one:∀{l r:List S3},l.Perm r→l.Pairwise (fun a b=>lessS b a=false)→r.Pairwise (fun a b=>lessS a b=true)→l=r
 | [],r,hp,_,_=>(List.nil_perm.1 hp).symm
 | x :: l,[],hp,_,_=>by have:=hp.length_eq;simp at this
 | x :: l,y :: r,hp,h1,h2=>by
  rw [List.pairwise_cons] at h1 h2
  have e:x=y:=by
   rcases List.mem_cons.1 (hp.mem_iff.1 (List.mem_cons_self (a:=x) (l:=l))) with e | hx
   ·exact e
   ·rcases List.mem_cons.1 (hp.mem_iff.2 (List.mem_cons_self (a:=y) (l:=r))) with e | hy
    ·exact e.symm
    ·have a1:=h2.1 x hx
     have a2:=h1.1 y hy
     rw [a1] at a2;cases a2
  subst e
  rw [sorted_one (List.Perm.cons_inv hp) h1.2 h2.2]
theorem pair_of_sorted (d:Array S3) (h:SortedIn (ltOf cfS) 0 d.size d):d.toList.Pairwise (fun a b=>lessS b a=false):=by
 rw [List.pairwise_iff_getElem]
 intro i j hi hj hij
 have:=h i j (Nat.zero_le _) hij (by simpa using hj)
 rw [ltS] at this
 have e1:d[i]! = d.toList[i]:=by simp at hi;simp [hi]
 have e2:d[j]! = d.toList[j]:=by simp at hj;simp [hj]
 rw [e1,e2] at this
 exact this
theorem sortShells_any (B g n c:Nat) (ls r:List S3) (w:World) (hl:ls.length=n) (hn:n≤1000) (hg:g<w.heap.size) (hB:B≤g) (hH:HoldsK encS 3 w g 0 ls.toArray) (hp0:ls.Perm r) (hr0:r.Pairwise (fun a b=>lessS a b=true)) :
 Calls Tryz.prog 95 #[.slice (some ⟨g,0,none⟩) n c,.func (.func 96) #[] #[]] w fun e w'=>e=.returned (.tuple #[])∧g<w'.heap.size∧Reads w' w'.heap.size 3 (some ⟨g,0,none⟩) n (scellsS r)∧Below B w w':=by
 have eg:∀args w,(callFunc 96 args).run Tryz.prog w=.ok (.enter 96 args) w:=enters_of Tryz.func96 (by kernel_rfl) rfl
 have hsz:ls.toArray.size=n:=by simpa using hl
 have hcon:=AnyQ.slices_SortFunc Tryz.sortShells 3 Tryz.isAgg87 Tryz.sizeOf87 encS (fun _=>rfl) (fun x v hv=>by simp [encS] at hv;rcases hv with rfl | rfl | rfl <;> rfl) cfS swoS 96 #[] g 0 c ls.toArray w eg (cmpLaysS g 0 _ w) hH hg (by omega)
 rw [hsz] at hcon
 refine hcon.mono ?_
 rintro e w' ⟨rfl,d',m,os,hp,hso,rfl⟩
 rw [←hsz] at hp
 obtain ⟨h1,h2⟩:=permS hp
 have hd:d'.size=n:=h1.trans hsz
 have hH':=holdsK_sortWorldK encS 3 w g 0 m ls.toArray d' os hg hH h1
 have hlt:=lt_sortWorldK encS 3 w g 0 m d' os hg
 have hr:=readsS hH' hlt
 rw [hd] at hr
 have he:d'.toList=r:=sorted_one ((by simpa using h2:d'.toList.Perm ls).trans hp0) (pair_of_sorted d' (by rw [hd];exact hso)) hr0
 rw [he] at hr
 refine ⟨rfl,hlt,hr,?_⟩
 unfold sortWorldK
 have hp1:Below B w (putRowK encS 3 (Sort.ahead w m) g 0 d'):=Lib.below_putRow (Below.refl B w) hB
 have hb2:Below (putRowK encS 3 (Sort.ahead w m) g 0 d').heap.size (putRowK encS 3 (Sort.ahead w m) g 0 d') (grow ((putRowK encS 3 (Sort.ahead w m) g 0 d').drewN 0) os):=grow_below ⟨0,os,rfl⟩
 exact hp1.trans (hb2.mono (Nat.le_trans (Nat.le_trans hB (Nat.le_of_lt hg)) hp1.size))
end
section
open Go.RowKit Go.Sort Go.MapKept Go.ChangeMaps
attribute [local go_sem ↓] Go.wp_at_zero Go.wp_at_succ
theorem wideKey:(match Tryz.prog.underlying 89 with | some (.array _ _) | some (.struct _)=>true | _=>false)=true:=by kernel_rfl
theorem laidOutK:laidOutB Tryz.prog=true:=by kernel_rfl
theorem lawKey:WideMaps.KeyLaw Tryz.prog 89:=deep_law_laid laidOutK (m:=2) (by omega) (of_decide_eq_true (by kernel_rfl)) (by kernel_rfl) wideKey
def keyS (s:S3):Value:=.agg #[.int .i64 s.1,.int .i64 s.2.1]
theorem key_someS:∀n l:Fin 8,(keyOf Tryz.prog 89 (keyS (n.val,l.val,0))).isSome=true:=by decide +kernel
def kin (s:S3):Bool:=decide (0≤s.1∧s.1≤7∧0≤s.2.1∧s.2.1≤7)
theorem key_atS {s:S3} (h:kin s=true):∃kl,keyOf Tryz.prog 89 (keyS s)=some kl:=by
 have h:=of_decide_eq_true h
 have:=key_someS ⟨s.1.toNat,by omega⟩ ⟨s.2.1.toNat,by omega⟩
 simp only [keyS] at this
 rw [Int.toNat_of_nonneg h.1,Int.toNat_of_nonneg h.2.2.1] at this
 exact Option.isSome_iff_exists.1 this
def entE (i:Nat) (s:S3):MapEntry:={ key:=keyS s,val:=.int .i64 s.2.2,born:=i }
def ents (ss:List S3):List MapEntry:=ss.zipIdx.map fun p=>entE p.2 p.1
theorem ents_snoc (ss:List S3) (s:S3):ents (ss++[s])=ents ss++[entE ss.length s]:=by simp [ents,List.zipIdx_append]
theorem ents_at (ss:List S3) (i:Nat):(ents ss)[i]?=ss[i]?.map (entE i):=by
 simp only [ents,List.getElem?_map,List.getElem?_zipIdx,Nat.zero_add,Option.map_map];rfl
theorem ents_mem {ss:List S3} {e:MapEntry} (h:e∈ents ss):∃i s,ss[i]?=some s∧e=entE i s:=by
 obtain ⟨i,hi⟩:=List.mem_iff_getElem?.1 h
 rw [ents_at] at hi
 cases hs:ss[i]? with
 | none=>rw [hs] at hi;cases hi
 | some s=>rw [hs] at hi;injection hi with hi;exact ⟨i,s,hs,hi.symm⟩
theorem ents_born (ss:List S3):(ents ss).map (·.born)=List.range ss.length:=by
 apply List.ext_getElem?
 intro i
 rw [List.getElem?_map,ents_at]
 rcases Nat.lt_or_ge i ss.length with h | h
 ·rw [List.getElem?_eq_getElem h,List.getElem?_range h];rfl
 ·rw [List.getElem?_eq_none h,List.getElem?_eq_none (by simpa using h)];rfl
def MapS (w:World) (b:Nat) (ss:List S3):Prop:=w.heap[b]?=some (.map (ents ss).toArray ss.length)
theorem MapS.lt {w:World} {b:Nat} {ss:List S3} (h:MapS w b ss):b<w.heap.size:=(Array.getElem?_eq_some_iff.1 h).1
theorem MapS.below {w w':World} {b:Nat} {ss:List S3} (h:MapS w b ss) (hb:Below w.heap.size w w'):MapS w' b ss:=(hb.block b h.lt).trans h
theorem MapS.made (w:World):MapS (w.alloc (.map #[] 0)) w.heap.size []:=heap_alloc_new w _
theorem MapS.put {w:World} {b:Nat} {ss:List S3} {s:S3} (h:MapS w b ss) (hk:∀x∈ss,kin x=true) (hs:kin s=true) (hd:∀x∈ss,¬(x.1=s.1∧x.2.1=s.2.1)) :
 ∃w',(Instr.mapUpdate 84 (.map (some b)) (.agg #[.int .i64 s.1,.int .i64 s.2.1]) (.int .i64 s.2.2)).run Tryz.prog w=.ok () w'∧MapS w' b (ss++[s])∧w'.heap.size=w.heap.size∧w.grownBy w' (some b)∧∀B,B≤b→Below B w w':=by
 obtain ⟨kl,hkl⟩:=key_atS hs
 refine ⟨setBlock w b (.map ((ents ss).toArray.push (entE ss.length s)) (ss.length+1)),?_,?_,by simp [setBlock],⟨rfl,rfl,rfl,by simp [setBlock],fun i _ hi=>(heap_set h).2 i (fun e=>hi (by rw [e]))⟩,?_⟩
 ·rcases lawKey.find w hkl (ents ss) (fun e he=>by obtain ⟨i,x,hx,rfl⟩:=ents_mem he;exact key_atS (hk x (List.mem_of_getElem? hx))) with ⟨h1,_⟩ | ⟨j,e,_,h2,h3⟩
  ·have h1':(Instr.findKey 89 (.agg #[.int .i64 s.1,.int .i64 s.2.1]) (ents ss).toArray.toList).run Tryz.prog w=.ok none w:=h1
   have hc:(Instr.checkKey false 10000 89 (.agg #[.int .i64 s.1,.int .i64 s.2.1])).run Tryz.prog w=.ok () w:=lawKey.check w false hkl
   simp [Instr.mapUpdate,run_underlying Tryz.underlying84,MapKept.run_getObj_map h,hc,h1',MapKept.run_setObj_map _ h,Result.andThen,setBlock,entE,keyS]
  ·exfalso
   obtain ⟨i,x,hx,rfl⟩:=ents_mem (List.mem_of_getElem? h2)
   simp only [entE,keyS,Value.agg.injEq,Array.mk.injEq,List.cons.injEq,Value.int.injEq,true_and,and_true] at h3
   exact hd x (List.mem_of_getElem? hx) h3
 ·show (w.heap.setIfInBounds b _)[b]?=_
  rw [(heap_set h).1,ents_snoc]
  simp
 ·intro B hB
  exact ⟨rfl,rfl,rfl,by simp [setBlock],fun i hi=>(heap_set h).2 i (by omega)⟩
def IterS (w:World) (b r:Nat) (n:Nat) (seen:Array Nat):Prop:=∃c0,n≤c0∧w.heap[r]?=some (.mapIter (some b) n seen c0)
theorem range_run (w:World) (b:Nat) (ss:List S3) (h:MapS w b ss) :
 ∃w',(Instr.range 84 (.map (some b))).run Tryz.prog w=.ok (.pointer (some ⟨w.heap.size,0,none⟩)) w'∧IterS w' b w.heap.size ss.length #[]∧Below w.heap.size w w'∧w'.heap.size=w.heap.size+1 :=
 ⟨_,run_range_map w _ _ _ b _ _ Tryz.underlying84 h,⟨_,Nat.le_refl _,heap_alloc_new w _⟩,(Below.refl _ _).alloc (Nat.le_refl _) _,by simp⟩
theorem next_run (w:World) (b r:Nat) (ss:List S3) (seen:Array Nat) (h:MapS w b ss) (hi:IterS w b r ss.length seen) (hne:r≠b) :
 ((∀i,i<ss.length→i∈seen)∧∀ty,(Instr.next (.pointer (some ⟨r,0,none⟩)) false ty).run Tryz.prog w=.ok (.tuple #[.bool false]) w) ∨
 ∃(i:Nat) (s:S3),ss[i]?=some s∧i∉seen∧∃w',(∀ty,(Instr.next (.pointer (some ⟨r,0,none⟩)) false ty).run Tryz.prog w=.ok (.tuple #[.bool true,.agg #[.int .i64 s.1,.int .i64 s.2.1],.int .i64 s.2.2]) w') ∧
  (Instr.entry (.pointer (some ⟨r,0,none⟩))).run Tryz.prog w'=.ok (.tuple #[.agg #[.int .i64 s.1,.int .i64 s.2.1],.int .i64 s.2.2]) w'∧MapS w' b ss∧IterS w' b r ss.length (seen.push i)∧w'.heap.size=w.heap.size ∧
  (∀g,g≠r→w'.heap[g]?=w.heap[g]?)∧∀B,B≤r→Below B w w':=by
 obtain ⟨c0,hc,hr⟩:=hi
 have hold:∀x∈(ents ss).toArray.toList,x.born<ss.length:=by
  intro x hx
  obtain ⟨i,s,hs,rfl⟩:=ents_mem (by simpa using hx)
  rcases Nat.lt_or_ge i ss.length with h | h
  ·exact h
  ·rw [List.getElem?_eq_none h] at hs;cases hs
 have hN:=fun ty=>run_next_at (P:=Tryz.prog) w ty r b ss.length c0 seen (ents ss).toArray ss.length hr h hold hc
 by_cases h0:(leftOf (ents ss).toArray seen).size=0
 ·left
  refine ⟨fun i hi=>?_,fun ty=>?_⟩
  ·have:=all_seen _ seen h0 (entE i ss[i]) (by
    have:(ents ss)[i]?=some (entE i ss[i]):=by rw [ents_at,List.getElem?_eq_getElem hi];rfl
    simpa using List.mem_of_getElem? this)
   simpa [entE] using this
  ·rcases hN ty with ⟨_,h1⟩ | ⟨e,he,_⟩
   ·exact h1
   ·rw [Array.size_eq_zero_iff.1 h0] at he;simp at he
 ·right
  -- the step's outcome does not depend on the type that the operation bears
  rcases hN 0 with ⟨h1,_⟩ | ⟨e,he,w1,hw1,hrun⟩
  ·exact absurd h1 h0
  obtain ⟨hem,hes⟩:=mem_left he
  obtain ⟨i,s,hs,rfl⟩:=ents_mem (by simpa using hem)
  have hr1:w1.heap[r]?=some (.mapIter (some b) ss.length seen c0):=by rcases hw1 with rfl | rfl <;> exact hr
  have hb1:w1.heap[b]?=some (.map (ents ss).toArray ss.length):=by rcases hw1 with rfl | rfl <;> exact h
  have hset:=heap_set (o':=.mapIter (some b) ss.length (seen.push i) ss.length) hr1
  have hsz1:w1.heap.size=w.heap.size:=by rcases hw1 with rfl | rfl <;> rfl
  have hg1:∀g:Nat,w1.heap[g]?=w.heap[g]?:=fun g=>by rcases hw1 with rfl | rfl <;> rfl
  have hmap:MapS (setBlock w1 r (.mapIter (some b) ss.length (seen.push i) ss.length)) b ss:=(hset.2 b (fun e=>hne e.symm)).trans hb1
  refine ⟨i,s,hs,by simpa [entE] using hes,setBlock w1 r (.mapIter (some b) ss.length (seen.push i) ss.length),fun ty=>hrun,?_,hmap,⟨ss.length,Nat.le_refl _,hset.1⟩,by simp [setBlock,hsz1],fun g hg=>(hset.2 g hg).trans (hg1 g),fun B hB=>?_⟩
  ·exact run_entry_at _ r b ss.length seen (ents ss).toArray ss.length (entE i s) hset.1 hmap hem (by
    show ((ents ss).map (·.born)).Nodup
    rw [ents_born];exact List.nodup_range)
  ·rcases hw1 with rfl | rfl <;> exact ⟨rfl,rfl,rfl,by simp [setBlock],fun i hi=>hset.2 i (by omega)⟩
end
section
open Go.RowKit Go.Sort Go.MapKept Go.ChangeMaps
attribute [local go_sem ↓] Go.wp_at_zero Go.wp_at_succ
theorem seen_perm {l:List Nat} {n:Nat} (hd:l.Nodup) (h1:∀i∈l,i<n) (h2:∀i,i<n→i∈l):l.Perm (List.range n):=by
 exact (List.perm_ext_iff_of_nodup hd List.nodup_range).2 fun a=>⟨fun h=>List.mem_range.2 (h1 a h),fun h=>h2 a (List.mem_range.1 h)⟩
def slS:Value→Nat | .slice _ n _=>n | _=>0
theorem nodup_len {l:List Nat} (hd:l.Nodup) {n:Nat} (h:∀a∈l,a<n):l.length≤n:=by
 have h1:(l++(List.range n).filter (fun a=>decide (a∉l))).Perm (List.range n):=by
  refine (List.perm_ext_iff_of_nodup ?_ List.nodup_range).2 fun a=>?_
  ·exact List.nodup_append.2 ⟨hd,List.nodup_range.filter _,fun a ha b hb e=>by subst e;simp [ha] at hb⟩
  ·simp only [List.mem_append,List.mem_filter,List.mem_range,decide_eq_true_eq]
   constructor
   ·rintro (h1 | h1);exact h a h1;exact h1.1
   ·intro h1;by_cases h2:a∈l;exact .inl h2;exact .inr ⟨h1,h2⟩
 have:=h1.length_eq
 rw [List.length_append,List.length_range] at this
 omega
theorem map_range_gS (es:List S3):(List.range es.length).map (gS es)=es:=by
 apply List.ext_getElem?
 intro i
 rw [List.getElem?_map]
 rcases Nat.lt_or_ge i es.length with h | h
 ·rw [List.getElem?_range h,List.getElem?_eq_getElem h];simp [gS,h]
 ·rw [List.getElem?_eq_none (by simpa using h),List.getElem?_eq_none h];rfl
theorem configOf_any (b n:Nat) (es r:List S3) (w:World) (hM:MapS w b es) (hz:∀x∈es,x.2.2≠0) (hl:es.length=n) (h0:0<n) (hn:n≤1000) (hp:es.Perm r) (hr:r.Pairwise (fun a b=>lessS a b=true)) :
 Calls Tryz.prog 48 #[.map (some b)] w fun e w'=>(∃A c,e=.returned (.slice A n c)∧Reads w' w'.heap.size 3 A n (scellsS r))∧Below w.heap.size w w':=by
 have hblt:=hM.lt
 obtain ⟨w1,hrg,hI,hB1,hsz⟩:=range_run w b es hM
 have HI1:=Lib.hid hI
 have HB1:=Lib.hid hB1
 have HM1:=Lib.hid (hM.below hB1)
 have HZ:=Lib.hid hz;have HL:=Lib.hid hl;have HP:=Lib.hid hp;have HR:=Lib.hid hr
 clear hM hI hB1 hz hl hp hr
 go_enter Tryz.func48,Tryz.ntmps48
 go_wp2_with fail
 clear hrg
 go_loopw [3,4,5] (fun v _ _ wr=>∃(cs:List S3) (seen:Array Nat) (A:Option Addr) (c:Nat),v=.slice A cs.length c∧cs.length≤n∧Hid (wr.ownsRow (w.heap.size+1) 87 3 (.slice A cs.length c) cs.length (scellsS cs))∧Hid (MapS wr b es)∧Hid (IterS wr b w.heap.size es.length seen)∧Hid (cs=seen.toList.map (gS es))∧Hid (seen.toList.Nodup)∧Hid (∀i∈seen.toList,i<es.length)∧Hid (Below w.heap.size w wr)∧Hid (w.heap.size+1≤wr.heap.size)) (fun v _ _ _=>n-slS v)
 case atStart=>exact ⟨[],#[],none,0,rfl,Nat.zero_le _,World.ownsRow_nil _ _ _ _,HM1.out,HI1.out,rfl,List.nodup_nil,fun i hi=>by simp at hi,HB1.out,by rw [hsz];exact Nat.le_refl _⟩
 case round =>
  clear HI1 HB1 HM1 hsz
  obtain ⟨cs,seen,A,c,rfl,hcn,HO,HM,HI,HC,HD,HLT,HB,HS⟩:=hrel
  have hsw:=HS.out
  rcases next_run wr b w.heap.size es seen HM.out HI.out (by omega) with ⟨hall,hnx⟩ | ⟨i,s,hs,his,w5,hnx,hen,hM5,hI5,hsz5,hg5,hb5⟩
  ·have hsp:=seen_perm HD.out HLT.out (fun i hi=>by simpa using hall i hi)
   have hcp:cs.Perm es:=by
    have:=hsp.map (gS es)
    rwa [map_range_gS,←HC.out] at this
   have hcl:cs.length=n:=by rw [hcp.length_eq,HL.out]
   obtain ⟨g,cur,rfl,hgb,hblk,hfil⟩:=own_blk2 HO.out (by omega)
   have HSORT:=Lib.hid (sortShells_any w.heap.size g n c cs r wr hcl hn hblk.lt (by omega) (holdsS hblk hfil) (hcp.trans HP.out) HR.out)
   rw [hcl]
   clear hcp hsp hall hblk hfil
   go_wp2_with fail
   refine HSORT.out.mono ?_
   rintro e w6 ⟨rfl,hg6,hr6,hb6⟩
   have HR6:=Lib.hid hr6
   have HB6:=Lib.hid (HB.out.trans hb6)
   clear hr6 hb6
   go_wp2_with fail
   go_ret
   exact ⟨⟨_,c,rfl,HR6.out⟩,HB6.out⟩
  ·have hil:i<es.length:=by
    rcases Nat.lt_or_ge i es.length with h | h
    ·exact h
    ·rw [List.getElem?_eq_none h] at hs;cases hs
   have hgs:gS es i=s:=by simp [gS,hs]
   have hsz0:s.2.2≠0:=HZ.out s (List.mem_of_getElem? hs)
   have hcl:(cs++[s]).length≤n:=by
    have hpl:(seen.toList++[i]).length≤es.length:=by
     have hnd:(seen.toList++[i]).Nodup:=List.nodup_append.2 ⟨HD.out,by simp,fun a ha b hb=>by simp at hb;subst hb;intro e;subst e;exact his (by simpa using ha)⟩
     have:=nodup_len hnd (n:=es.length) (fun a ha=>by rcases List.mem_append.1 ha with h | h;exact HLT.out a h;simp at h;subst h;exact hil)
     exact this
    rw [HC.out,HL.out] at *
    simpa using hpl
   have HO5:Hid (w5.ownsRow (w.heap.size+1) 87 3 (.slice A cs.length c) cs.length (scellsS cs)):=own_gb (R:=w.heap.size) HO.out ⟨(hb5 0 (Nat.zero_le _)).os,(hb5 0 (Nat.zero_le _)).tape,(hb5 0 (Nat.zero_le _)).output,(hb5 0 (Nat.zero_le _)).size,fun k _ hk=>hg5 k (fun e=>hk (by rw [e]))⟩ (Nat.lt_succ_self _)
   have HB5:=Lib.hid (HB.out.trans (hb5 w.heap.size (Nat.le_refl _)))
   have HM5:=Lib.hid hM5;have HI5:=Lib.hid hI5
   obtain ⟨s1,s2,s3⟩:=s
   simp only at hnx hen hsz0
   have e1:(s3 != 0)=true:=by simpa using hsz0
   obtain ⟨len,hln⟩:∃len,cs.length=len:=⟨_,rfl⟩
   have HLN:=Lib.hid hln
   rw [hln] at HO5 hcn ⊢
   clear hM5 hI5 hb5 hg5 HO HM HI HB hln
   have hs5:w.heap.size+1≤w5.heap.size:=by rw [hsz5];exact hsw
   have hblk:=Blk.new (w5.alloc (.cells #[.int .i64 s1,.int .i64 s2] 89)) 87 #[.int .i64 s1,.int .i64 s2,.int .i64 s3]
   rw [World.size_alloc,hsz5] at hblk
   have HBLK:=Lib.hid hblk;clear hblk
   go_wp2_with (at_builtin;refine wpList_app1b _ rfl (.tmp 15) (.tmp 22) _ rfl (w.heap.size+1) 87 3 24 elShell A c len (scellsS cs) rfl ((HO5.out.alloc _).alloc _) (wr.heap.size+1) #[.int .i64 s1,.int .i64 s2,.int .i64 s3] rfl HBLK.out rfl ?h1 (by omega) (by omega) (by simp;omega) ?_)
   case h1=>simp [Value.oneCell']
   intro A'' c'' w7 hown7 hc7 hb7
   have hg7:∀g,g<w.heap.size+1→w7.heap[g]?=w5.heap[g]?:=fun g hg=>by
    rw [hb7.block g hg]
    show (((w5.heap.push _).push _):Array Obj)[g]?=_
    rw [Array.getElem?_push_lt (by simp;omega),←Array.getElem?_eq_getElem,Array.getElem?_push_lt (by omega),←Array.getElem?_eq_getElem]
   have HM7:Hid (MapS w7 b es):=(hg7 b (by omega)).trans HM5.out
   have HI7:Hid (IterS w7 b w.heap.size es.length (seen.push i)):=by obtain ⟨c0,h1,h2⟩:=HI5.out;exact ⟨c0,h1,(hg7 _ (by omega)).trans h2⟩
   have HB7:Hid (Below w.heap.size w w7):=(bel_alloc (bel_alloc HB5.out _) _).trans (hb7.mono (Nat.le_succ _))
   have hs7:w.heap.size+1≤w7.heap.size:=by have:=hb7.size;simp at this;omega
   have HO7:=Lib.hid hown7
   clear hown7 hb7 hg7 HO5 HM5 HI5 HB5 HBLK
   go_wp2_with fail
   go_roundw
   case rel =>
    refine ⟨cs++[(s1,s2,s3)],seen.push i,A'',c'',by rw [List.length_append,HLN.out];rfl,hcl,?_,HM7.out,HI7.out,?_,?_,?_,HB7.out,hs7⟩
    ·rw [List.length_append,HLN.out,scellsS_snoc];exact HO7.out
    ·unfold Hid;rw [HC.out];simp [hgs]
    ·unfold Hid
     rw [Array.toList_push]
     exact List.nodup_append.2 ⟨HD.out,by simp,fun a ha b hb=>by simp at hb;subst hb;intro e;subst e;exact his (by simpa using ha)⟩
    ·intro a ha
     rw [Array.toList_push] at ha
     rcases List.mem_append.1 ha with h | h
     ·exact HLT.out a h
     ·simp at h;subst h;exact hil
   case measure =>
    have:len+1≤n:=by rw [List.length_append,HLN.out] at hcl;exact hcl
    simp [slS];omega
end
section
open Go.RowKit Go.Sort Go.MapKept Go.ChangeMaps
attribute [local go_sem ↓] Go.wp_at_zero Go.wp_at_succ
def stStep (st:Int × List S3) (s:S3):Int × List S3:=if 0<min st.1 s.2.2 then (st.1-min st.1 s.2.2,st.2++[(s.1,s.2.1,min st.1 s.2.2)]) else st
def stK (z:Int):Nat→Int × List S3
 | 0=>(z,[])
 | k+1=>stStep (stK z k) (gS foAll k)
def puStep (s:S3) (st:Bool × List S3) (x:S3):Bool × List S3:=if (!st.1 && lessS s x)=true then (true,st.2++[s]++[x]) else (st.1,st.2++[x])
def puK (s:S3) (cs:List S3):Nat→Bool × List S3
 | 0=>(false,[])
 | k+1=>puStep s (puK s cs k) (gS cs k)
def putS (cs:List S3) (s:S3):List S3:=if (puK s cs cs.length).1=true then (puK s cs cs.length).2 else (puK s cs cs.length).2++[s]
theorem puK_len (s:S3) (cs:List S3):∀k,(puK s cs k).2.length=k+(if (puK s cs k).1=true then 1 else 0)
 | 0=>rfl
 | k+1=>by
  have:=puK_len s cs k
  show (puStep s (puK s cs k) (gS cs k)).2.length=k+1+(if (puStep s (puK s cs k) (gS cs k)).1=true then 1 else 0)
  unfold puStep
  by_cases h:(!(puK s cs k).1 && lessS s (gS cs k))=true
  ·rw [if_pos h]
   simp only [Bool.and_eq_true,Bool.not_eq_true'] at h
   rw [h.1] at this
   simp only [List.length_append,List.length_singleton,if_true]
   simp at this;omega
  ·rw [if_neg h]
   simp only [List.length_append,List.length_singleton]
   omega
theorem putS_len (cs:List S3) (s:S3):(putS cs s).length=cs.length+1:=by
 have:=puK_len s cs cs.length
 unfold putS
 by_cases h:(puK s cs cs.length).1=true
 ·rw [if_pos h];rw [if_pos h] at this;exact this
 ·rw [if_neg h];rw [if_neg h] at this;simp;omega
def spStep (st:Int × List S3) (s:S3):Int × List S3:=if 0<st.1 then (st.1-min s.2.2 st.1,putS st.2 (s.1,s.2.1,min s.2.2 st.1)) else st
def spK (z:Int):Nat→Int × List S3
 | 0=>(z,[])
 | k+1=>spStep (spK z k) (gS foAll k)
def grL (z:Int):List S3:=(spK z 19).2
def okZ (z:Int) (k:Nat):Bool :=
 decide (0≤(stK z k).1∧(stK z k).1≤118) && (stK z k).2.all (fun x=>kin x && !(x.1==(gS foAll k).1 && x.2.1==(gS foAll k).2.1)) && kin (gS foAll k) && decide (1≤(gS foAll k).2.2∧(gS foAll k).2.2≤14)
theorem okZ_all:((List.range 118).all fun z=>(List.range 19).all fun k=>okZ ((z:Int)+1) k)=true:=by decide +kernel
theorem okZ_at {z:Int} (h:1≤z∧z≤118) {k:Nat} (hk:k<19):okZ z k=true:=by
 have:=List.all_eq_true.1 okZ_all (z-1).toNat (List.mem_range.2 (by omega))
 have:=List.all_eq_true.1 this k (List.mem_range.2 hk)
 rwa [show (((z-1).toNat:Nat):Int)+1=z by omega] at this
def okG (z:Int):Bool:=decide ((stK z 19).2.Perm (grL z)) && decide ((grL z).Pairwise fun a b=>lessS a b=true) && (stK z 19).2.all (fun x=>decide (x.2.2≠0)) && decide (0<(grL z).length∧(grL z).length≤19) && cvB (grL z)
theorem okG_all:((List.range 118).all fun z=>okG ((z:Int)+1))=true:=by decide +kernel
theorem okG_at {z:Int} (h:1≤z∧z≤118):okG z=true:=by
 have:=List.all_eq_true.1 okG_all (z-1).toNat (List.mem_range.2 (by omega))
 rwa [show (((z-1).toNat:Nat):Int)+1=z by omega] at this
def GrPost (z:Int) (w:World) (e:Ending) (w':World):Prop:=(∃A c,e=.returned (.tuple #[.slice A (grL z).length c,.bool true])∧Reads w' w'.heap.size 3 A (grL z).length (scellsS (grL z)))∧Below w.heap.size w w'
theorem implGround_no (z:Int) (w:World) (h:¬(1≤z∧z≤118)):Calls Tryz.prog 16 #[.int .i64 z] w fun e w'=>e=.returned (.tuple #[.slice none 0 0,.bool false])∧Below w.heap.size w w':=by
 have HB:=Lib.hid (Below.refl w.heap.size w)
 by_cases h1:1≤z
 ·have d2:118<z:=by omega
  clear h
  go_enter Tryz.func16,Tryz.ntmps16
  go_wp2_with fail
  go_ret2
  exact ⟨rfl,HB.out⟩
 ·clear h
  go_enter Tryz.func16,Tryz.ntmps16
  go_wp2_with fail
  go_ret2
  exact ⟨rfl,HB.out⟩
theorem implGround_any (z:Int) (w:World) (h1:1≤z) (h2:z≤118):Calls Tryz.prog 16 #[.int .i64 z] w (GrPost z w):=by
 have HOK:Hid (∀k,k<19→okZ z k=true):=fun k hk=>okZ_at ⟨h1,h2⟩ hk
 have hg:=okG_at ⟨h1,h2⟩
 unfold okG at hg
 simp only [Bool.and_eq_true,decide_eq_true_eq,List.all_eq_true] at hg
 obtain ⟨⟨⟨⟨g1,g2⟩,g3⟩,g4⟩,_⟩:=hg
 have HG:=Lib.hid (And.intro g1 (And.intro g2 g3))
 have HM0:=Lib.hid (MapS.made w)
 have HB0:=Lib.hid (bel_alloc (Below.refl w.heap.size w) (.map #[] 0))
 have HZ0:Hid (stK z 0=(z,[])):=rfl
 have hglen:=g1.length_eq
 unfold GrPost
 obtain ⟨m,hm⟩:∃m,(grL z).length=m:=⟨_,rfl⟩
 rw [hm] at g4 hglen ⊢
 have HGL:=Lib.hid hglen
 clear g1 g2 g3 hglen hm
 have hmm:=@run_makeMap Tryz.prog
 go_enter Tryz.func16,Tryz.ntmps16
 go_wp2_with fail
 refine (fillingOrder_any _).mono ?_
 rintro e w2 ⟨⟨A,c,rfl,ho2⟩,hb2⟩
 have HO2:=Lib.hid ho2
 rw [World.size_alloc] at HO2
 have HM2:=Lib.hid (HM0.out.below hb2)
 have HB2:=Lib.hid (bel_sub HB0.out hb2)
 clear ho2 hb2 HM0 HB0
 go_wp2_with fail
 go_loopw [0,6,7,17] (fun v _ _ i wr=>∃k:Nat,k≤19∧i=.int .i64 k∧v=.int .i64 (stK z k).1∧Hid (MapS wr w.heap.size (stK z k).2)∧Hid (wr.ownsRow (w.heap.size+1) 87 3 (.slice A 19 c) 19 (scellsS foAll))∧Hid (Below w.heap.size w wr)) (fun _ _ _ i _=>19-(RowKit.intOf i).toNat)
 case atStart=>exact ⟨0,by omega,rfl,rfl,HM2.out,HO2.out,HB2.out⟩
 case round =>
  clear HM2 HO2 HB2
  obtain ⟨k,hk,rfl,rfl,HM,HO,HB⟩:=hrel
  have hsw:=HO.out
  by_cases hlt:k<19
  ·have hok:=HOK.out k hlt
   unfold okZ at hok
   simp only [Bool.and_eq_true,decide_eq_true_eq,List.all_eq_true,Bool.not_eq_true'] at hok
   obtain ⟨⟨⟨⟨o1,o3⟩,o2⟩,o4⟩,o5,o6⟩:=hok
   have HST:Hid (stK z (k+1)=stStep (stK z k) (gS foAll k)):=rfl
   obtain ⟨b,off,rfl,hb,hc⟩:=(own_reads HO.out).shl hlt
   obtain ⟨r1,r2,r3⟩:=hc k hlt
   clear hc hsw
   obtain ⟨s,hs⟩:∃s,gS foAll k=s:=⟨_,rfl⟩
   rw [hs] at o2 o4 o5 o6 r1 r2 r3 HST
   clear hs
   obtain ⟨n1,l1,c1⟩:=s
   simp only at o2 o4 o5 o6 r1 r2 r3
   obtain ⟨⟨zz,es⟩,hst⟩:∃st,stK z k=st:=⟨_,rfl⟩
   rw [hst] at HM o1 o2 o3 HST ⊢
   clear hst
   simp only at HM o1 o2 o3 ⊢
   have HB1:=Lib.hid (bel_alloc HB.out (.cells #[.int .i64 n1,.int .i64 l1,.int .i64 c1] 87))
   have HM1:=Lib.hid (HM.out.below (bel_alloc (Below.refl wr.heap.size wr) (.cells #[.int .i64 n1,.int .i64 l1,.int .i64 c1] 87)))
   have HO1:=Lib.hid (HO.out.alloc (.cells #[.int .i64 n1,.int .i64 l1,.int .i64 c1] 87))
   by_cases hp:0<min zz c1
   ·have u1:IntKind.i64.wrap (zz-min zz c1)=zz-min zz c1:=IntWalk.i64_in _ (by omega)
    obtain ⟨w5,hput,hM5,hsz5,hG5,hB5⟩:=HM1.out.put (s:=(n1,l1,min zz c1)) (fun x hx=>(o2 x hx).1) (by unfold kin at o4 ⊢;exact o4) (fun x hx h=>by have:=(o2 x hx).2;simp only at h;rw [h.1,h.2] at this;simp at this)
    have HM5:=Lib.hid hM5
    have HB5:=Lib.hid (HB1.out.trans (hB5 w.heap.size (Nat.le_refl _)))
    have HO5:=Lib.hid (own_gb (R:=w.heap.size) HO1.out hG5 (Nat.lt_succ_self _))
    have HS2:Hid (stK z (k+1)=(zz-min zz c1,es++[(n1,l1,min zz c1)])):=by unfold Hid;rw [HST.out];unfold stStep;rw [if_pos hp]
    clear hM5 hG5 hB5 o2 o3 o4 HST HM1 HB1 HO1 HM HB HO
    simp only at hput
    go_wp2_with fail
    go_roundw
    case rel=>exact ⟨k+1,by omega,by go_num,by rw [HS2.out],by rw [HS2.out];exact HM5.out,HO5.out,HB5.out⟩
    case measure=>simp [RowKit.intOf];omega
   ·have HS2:Hid (stK z (k+1)=(zz,es)):=by unfold Hid;rw [HST.out];unfold stStep;rw [if_neg hp]
    clear o2 o3 o4 HST HM HB HO
    go_wp2_with fail
    go_roundw
    case rel=>exact ⟨k+1,by omega,by go_num,by rw [HS2.out],by rw [HS2.out];exact HM1.out,HO1.out,HB1.out⟩
    case measure=>simp [RowKit.intOf];omega
  ·obtain rfl:k=19:=by omega
   have HCO:=Lib.hid (configOf_any w.heap.size m (stK z 19).2 (grL z) wr HM.out (fun x hx=>HG.out.2.2 x hx) HGL.out g4.1 (by omega) HG.out.1 HG.out.2.1)
   clear hsw
   go_wp2_with fail
   refine HCO.out.mono ?_
   rintro e w6 ⟨⟨A6,c6,rfl,hr6⟩,hb6⟩
   have HR6:=Lib.hid hr6
   have HB6:=Lib.hid (bel_sub HB.out hb6)
   clear hr6 hb6
   go_wp2_with fail
   go_ret2
   exact ⟨⟨A6,c6,rfl,HR6.out⟩,HB6.out⟩
end
section
open Go.RowKit
attribute [local go_sem ↓] Go.wp_at_zero Go.wp_at_succ
theorem specCap_any (l:Int) (w:World):Calls Tryz.prog 98 #[.int .i64 l] w fun e w'=>e=.returned (.int .i64 (capB l))∧Below w.heap.size w w':=by
 have HI:=Lib.hid (fun W=>l6In_any l 0 3 W)
 have HB:=Lib.hid (Below.refl w.heap.size w)
 by_cases h:0≤l∧l≤3
 ·have HC:Hid (capB l=4*l+2):=by unfold Hid capB;rw [if_pos h]
  have hi:inB l 0 3=true:=by simp [inB];omega
  rw [hi] at HI
  go_enter Tryz.func98,Tryz.ntmps98
  go_wp2_with fail
  refine (HI.out _).mono ?_
  rintro e w' ⟨rfl,rfl⟩
  go_wp2_with fail
  go_ret
  exact ⟨ret_int HC.out.symm,HB.out⟩
 ·have HC:Hid (capB l=0):=by unfold Hid capB;rw [if_neg h]
  have hi:inB l 0 3=false:=by simp [inB];omega
  rw [hi] at HI
  go_enter Tryz.func98,Tryz.ntmps98
  go_wp2_with fail
  refine (HI.out _).mono ?_
  rintro e w' ⟨rfl,rfl⟩
  go_wp2_with fail
  go_ret
  exact ⟨ret_int HC.out.symm,HB.out⟩
def orderL:List Int:=[10,20,21,30,31,40,32,41,50,42,51,60,43,52,61,70,53,62,71]
theorem l5Order_any (w:World):Calls Tryz.prog 97 #[] w fun e w'=>e=.returned (.slice (some ⟨w.heap.size,0,none⟩) 19 19)∧Blk w' w.heap.size 3 (orderL.map (Value.int .i64)).toArray∧Below w.heap.size w w':=by
 have HB:=Lib.hid (bel_alloc (Below.refl w.heap.size w) (.cells (orderL.map (Value.int .i64)).toArray 3))
 have HX:=Lib.hid (Blk.new w 3 (orderL.map (Value.int .i64)).toArray)
 go_enter Tryz.func97,Tryz.ntmps97
 go_wp2_with fail
 go_ret
 exact ⟨rfl,HX.out,HB.out⟩
theorem l11Less_any (a b:S3) (w:World):Calls Tryz.prog 99 #[.agg #[.int .i64 a.1,.int .i64 a.2.1,.int .i64 a.2.2],.agg #[.int .i64 b.1,.int .i64 b.2.1,.int .i64 b.2.2]] w fun e w'=>e=.returned (.bool (lessS a b))∧Below w.heap.size w w':=by
 obtain ⟨a1,a2,a3⟩:=a
 obtain ⟨b1,b2,b3⟩:=b
 have HB:=Lib.hid (bel_alloc (bel_alloc (Below.refl w.heap.size w) (.cells #[.int .i64 a1,.int .i64 a2,.int .i64 a3] 87)) (.cells #[.int .i64 b1,.int .i64 b2,.int .i64 b3] 87))
 by_cases h1:a1<b1
 ·have HL:Hid (lessS (a1,a2,a3) (b1,b2,b3)=true):=decide_eq_true (.inl h1)
  go_enter Tryz.func99,Tryz.ntmps99
  go_wp2_with fail
  go_ret
  exact ⟨ret_bool HL.out.symm,HB.out⟩
 by_cases h2:a1=b1
 ·subst h2
  by_cases h3:a2<b2
  ·have HL:Hid (lessS (a1,a2,a3) (a1,b2,b3)=true):=decide_eq_true (.inr ⟨rfl,h3⟩)
   go_enter Tryz.func99,Tryz.ntmps99
   go_wp2_with fail
   go_ret
   exact ⟨ret_bool HL.out.symm,HB.out⟩
  ·have HL:Hid (lessS (a1,a2,a3) (a1,b2,b3)=false):=decide_eq_false (by simp only;omega)
   go_enter Tryz.func99,Tryz.ntmps99
   go_wp2_with fail
   go_ret
   exact ⟨ret_bool HL.out.symm,HB.out⟩
 ·have HL:Hid (lessS (a1,a2,a3) (b1,b2,b3)=false):=decide_eq_false (by simp only;omega)
  have e1:(a1==b1)=false:=by simpa using h2
  go_enter Tryz.func99,Tryz.ntmps99
  go_wp2_with fail
  go_ret
  exact ⟨ret_bool HL.out.symm,HB.out⟩
theorem orderL_at:∀k:Fin 19,(orderL.getD k.val 0).tdiv 10=(gS foAll k.val).1∧(orderL.getD k.val 0).tmod 10=(gS foAll k.val).2.1∧capB (gS foAll k.val).2.1=(gS foAll k.val).2.2∧0≤orderL.getD k.val 0∧orderL.getD k.val 0≤100∧0≤(gS foAll k.val).1∧(gS foAll k.val).1≤7:=by decide +kernel
theorem orderL_cell (k:Nat) (hk:k<19):((orderL.map (Value.int .i64)).toArray)[k]?=some (.int .i64 (orderL.getD k 0)):=by
 have:k<orderL.length:=hk
 simp [this]
theorem ShellAt_any (k:Nat) (hk:k<19) (w:World):Calls Tryz.prog 50 #[.int .i64 (k:Int)] w fun e w'=>e=.returned (.tuple #[.agg #[.int .i64 (gS foAll k).1,.int .i64 (gS foAll k).2.1,.int .i64 (gS foAll k).2.2],.bool true])∧Below w.heap.size w w':=by
 have hi:inB (k:Int) 0 18=true:=by simp [inB];omega
 have HI:=Lib.hid (fun W=>l6In_any (k:Int) 0 18 W)
 rw [hi] at HI
 clear hi
 obtain ⟨o1,o2,o3,o4,o5,o7,o8⟩:=orderL_at ⟨k,hk⟩
 have o6:=orderL_cell k hk
 simp only at o1 o2 o3 o4 o5 o7 o8
 have HC:=Lib.hid (fun W=>specCap_any (gS foAll k).2.1 W)
 rw [o3] at HC
 obtain ⟨⟨n1,l1,c1⟩,hs⟩:∃s,gS foAll k=s:=⟨_,rfl⟩
 rw [hs] at HC o1 o2 o7 o8 ⊢
 simp only at HC o1 o2 o7 o8 ⊢
 clear hs o3
 have u1:wrap64 n1=n1:=IntWalk.wrap64_in _ (by omega)
 generalize orderL.getD k 0=x at *
 have HO6:=Lib.hid o6;clear o6
 have HB0:=Lib.hid (bel_alloc (Below.refl w.heap.size w) (.cells #[.int .i64 0,.int .i64 0,.int .i64 0] 87))
 have HX0:=Lib.hid (Blk.new w 87 #[.int .i64 0,.int .i64 0,.int .i64 0])
 go_enter Tryz.func50,Tryz.ntmps50
 go_wp2_with fail
 refine (HI.out _).mono ?_
 rintro e w' ⟨rfl,rfl⟩
 go_wp2_with fail
 refine (l5Order_any _).mono ?_
 rintro e w2 ⟨rfl,hq,hb2⟩
 have HX2:=Lib.hid (HX0.out.sub hb2)
 have HB2:=Lib.hid (bel_sub HB0.out hb2)
 rw [World.size_alloc] at hq
 have h1:=hq.cell k
 rw [HO6.out] at h1
 have hlt:=hq.lt
 clear hq hb2 HX0 HB0 HO6
 rw [World.size_alloc]
 go_wp2_with fail
 refine (HC.out _).mono ?_
 rintro e w3 ⟨rfl,hb3⟩
 have HX3:=Lib.hid (HX2.out.sub hb3)
 have HB3:=Lib.hid (bel_sub HB2.out hb3)
 clear hb3 HX2 HB2 h1 hlt
 obtain ⟨x1,x2,x3,f1,f2,f3⟩:=blk3 HX3.out
 have HBZ:=Lib.hid (bel_set (g:=w.heap.size) (i:=2) (u:=.int .i64 c1) (bel_set2 (g:=w.heap.size) (x:=.int .i64 n1) (y:=.int .i64 l1) HB3.out (Nat.le_refl _)) (Nat.le_refl _))
 have HZ:=Lib.hid (((HX3.out.set 0 (.int .i64 n1)).set 1 (.int .i64 l1)).set 2 (.int .i64 c1))
 go_wp2_with fail
 refine bodyPost_ret (results_ct3 rfl _ _ w.heap.size _ _ rfl HZ.out Tryz.underlying87 rfl (by kernel_rfl)) rfl ?_
 exact ⟨rfl,HBZ.out⟩
end
section
open Go.RowKit
attribute [local go_sem ↓] Go.wp_at_zero Go.wp_at_succ
def PutPost (cs:List S3) (s:S3) (w:World) (e:Ending) (w':World):Prop:=(∃A c,e=.returned (.slice A (cs.length+1) c)∧w'.ownsRow w.heap.size 87 3 (.slice A (cs.length+1) c) (cs.length+1) (scellsS (putS cs s)))∧Below w.heap.size w w'
theorem l11Put_any (A0:Option Addr) (n c0:Nat) (cs:List S3) (s:S3) (w:World) (hn:n≤1000) (hl:cs.length=n) (hr:Reads w w.heap.size 3 A0 n (scellsS cs)) :
 Calls Tryz.prog 51 #[.slice A0 n c0,.agg #[.int .i64 s.1,.int .i64 s.2.1,.int .i64 s.2.2]] w (PutPost cs s w):=by
 obtain ⟨s1,s2,s3⟩:=s
 unfold PutPost
 rw [hl]
 have HL:=Lib.hid hl
 have HR:=Lib.hid hr
 have HX0:=Lib.hid ((Blk.new w 87 #[.int .i64 s1,.int .i64 s2,.int .i64 s3]).alloc (.cells #[] 87))
 have HB0:=Lib.hid (bel_alloc (bel_alloc (Below.refl w.heap.size w) (.cells #[.int .i64 s1,.int .i64 s2,.int .i64 s3] 87)) (.cells #[] 87))
 have HO0:=Lib.hid (own_empty (w.alloc (.cells #[.int .i64 s1,.int .i64 s2,.int .i64 s3] 87)) 87 3)
 rw [World.size_alloc] at HO0
 have HLESS:=Lib.hid (fun x W=>l11Less_any (s1,s2,s3) x W)
 simp only at HLESS
 clear hl hr
 go_enter Tryz.func51,Tryz.ntmps51
 go_wp2_with fail
 go_loopw [5,6,7] (fun v d i wr=>∃(k:Nat) (dn:Bool) (os:List S3) (A:Option Addr) (c:Nat),k≤n∧i=.int .i64 k∧d=.bool dn∧Hid (puK (s1,s2,s3) cs k=(dn,os))∧v=.slice A os.length c∧Hid (wr.ownsRow (w.heap.size+1) 87 3 (.slice A os.length c) os.length (scellsS os))∧Hid (Blk wr w.heap.size 87 #[.int .i64 s1,.int .i64 s2,.int .i64 s3])∧Hid (Below w.heap.size w wr)) (fun _ _ i _=>n-(RowKit.intOf i).toNat)
 case atStart=>exact ⟨0,false,[],_,_,Nat.zero_le _,rfl,rfl,rfl,rfl,HO0.out,HX0.out,HB0.out⟩
 case round =>
  clear HO0 HX0 HB0
  obtain ⟨k,dn,os,A,c,hk,rfl,rfl,HP,rfl,HO,HX,HB⟩:=hrel
  have hpl:=puK_len (s1,s2,s3) cs k
  rw [HP.out] at hpl
  simp only at hpl
  have hol:os.length≤n+1:=by rw [hpl];split <;> omega
  clear hpl
  by_cases hlt:k<n
  ·obtain ⟨b,off,rfl,hb,hc⟩:=(HR.out.below HB.out).shl hlt
   obtain ⟨r1,r2,r3⟩:=hc k hlt
   obtain ⟨b',off',e,_,hc0⟩:=HR.out.shl hlt
   cases e
   obtain ⟨q01,q02,q03⟩:=hc0 k hlt
   clear hc hc0
   have HPK:Hid (puK (s1,s2,s3) cs (k+1)=puStep (s1,s2,s3) (puK (s1,s2,s3) cs k) (gS cs k)):=rfl
   rw [HP.out] at HPK
   obtain ⟨⟨x1,x2,x3⟩,hx⟩:∃x,gS cs k=x:=⟨_,rfl⟩
   rw [hx] at HPK r1 r2 r3 q01 q02 q03
   simp only at r1 r2 r3 q01 q02 q03
   have HQ:=Lib.hid (And.intro q01 (And.intro q02 q03))
   clear q01 q02 q03
   clear hx
   have HLS:=Lib.hid (HLESS.out (x1,x2,x3));simp only at HLS
   obtain ⟨y1,y2,y3,_,_,_⟩:=blk3 HX.out
   have k1:=After.cell r1;have k2:=After.cell r2;have k3:=After.cell r3
   have k4:=After.cell y1;have k5:=After.cell y2;have k6:=After.cell y3
   obtain ⟨len,hln⟩:∃len,os.length=len:=⟨_,rfl⟩
   have HLN:=Lib.hid hln
   rw [hln] at HO hol ⊢
   clear hln
   cases dn
   ·cases hls:lessS (s1,s2,s3) (x1,x2,x3)
    ·rw [hls] at HLS
     have HST:Hid (puK (s1,s2,s3) cs (k+1)=(false,os++[(x1,x2,x3)])):=by unfold Hid;rw [HPK.out];unfold puStep;rw [hls];rfl
     have HSL:Hid ((os++[(x1,x2,x3)]).length=len+1):=by unfold Hid;rw [List.length_append,HLN.out];rfl
     have HSC:=Lib.hid (scellsS_snoc os (x1,x2,x3))
     go_wp2_with fail
     refine wp_region_after (by kernel_rfl) (by kernel_rfl) ?_
     repeat (go_big_quiet_step ((go_at_call 99;exact after_call _ (HLS.out _))))
     refine wpQuiet_nil ?_
     intro w9 hw'
     obtain ⟨⟨w9',hb9⟩,hw''⟩:=hw'
     subst hw''
     have HB9:=Lib.hid (bel_sub HB.out hb9)
     have HX9:=Lib.hid (HX.out.sub hb9)
     have HO9:=Lib.hid (own_below HO.out hb9)
     have q1:=cell_sub hb9 r1;have q2:=cell_sub hb9 r2;have q3:=cell_sub hb9 r3
     obtain ⟨z1,z2,z3,_,_,_⟩:=blk3 HX9.out
     have hs9:w.heap.size+1≤w9.heap.size:=HX9.out.lt
     clear hb9 r1 r2 r3 y1 y2 y3 k1 k2 k3 k4 k5 k6 HB HX HO
     go_wp2_with (at_builtin;refine wpList_app1b _ rfl (.tmp 29) (.tmp 34) _ rfl (w.heap.size+1) 87 3 24 elShell A c len (scellsS os) rfl (HO9.out.alloc _) w9.heap.size #[.int .i64 x1,.int .i64 x2,.int .i64 x3] rfl (Blk.new w9 _ _) rfl ?h1 (by omega) (by omega) (by simp;omega) ?_)
     case h1=>simp [Value.oneCell']
     intro A8 c8 w8 hown8 hc8 hb8
     have HW8:=Lib.hid hown8
     have HB8:Hid (Below w.heap.size w w8):=(bel_alloc HB9.out _).trans (hb8.mono (Nat.le_succ _))
     have HX8:Hid (Blk w8 w.heap.size 87 #[.int .i64 s1,.int .i64 s2,.int .i64 s3]):=(HX9.out.alloc _).below hb8 (Nat.lt_succ_self _)
     have hs8:w.heap.size+1≤w8.heap.size:=HX8.out.lt
     clear hown8 hb8 z1 z2 z3 q1 q2 q3
     go_wp2_with fail
     go_roundw
     case rel=>exact ⟨k+1,false,_,A8,c8,by omega,by go_num,rfl,HST.out,by rw [HSL.out],by rw [HSL.out,HSC.out];exact HW8.out,HX8.out,HB8.out⟩
     case measure=>simp [RowKit.intOf];omega
    ·rw [hls] at HLS
     have HST:Hid (puK (s1,s2,s3) cs (k+1)=(true,os++[(s1,s2,s3)]++[(x1,x2,x3)])):=by unfold Hid;rw [HPK.out];unfold puStep;rw [hls];rfl
     have HSL:Hid ((os++[(s1,s2,s3)]++[(x1,x2,x3)]).length=len+1+1):=by unfold Hid;rw [List.length_append,List.length_append,HLN.out];rfl
     have HSC:Hid (scellsS (os++[(s1,s2,s3)]++[(x1,x2,x3)])=scellsS os++[.int .i64 s1,.int .i64 s2,.int .i64 s3,.int .i64 x1,.int .i64 x2,.int .i64 x3]):=by unfold Hid;rw [scellsS_snoc,scellsS_snoc,List.append_assoc];rfl
     go_wp2_with fail
     refine wp_region_after (by kernel_rfl) (by kernel_rfl) ?_
     repeat (go_big_quiet_step ((go_at_call 99;exact after_call _ (HLS.out _))))
     refine wpQuiet_nil ?_
     intro w9 hw'
     obtain ⟨⟨w9',hb9⟩,hw''⟩:=hw'
     subst hw''
     have HB9:=Lib.hid (bel_sub HB.out hb9)
     have HX9:=Lib.hid (HX.out.sub hb9)
     have HO9:=Lib.hid (own_below HO.out hb9)
     have q1:=cell_sub hb9 r1;have q2:=cell_sub hb9 r2;have q3:=cell_sub hb9 r3
     obtain ⟨z1,z2,z3,_,_,_⟩:=blk3 HX9.out
     have hs9:w.heap.size+1≤w9.heap.size:=HX9.out.lt
     clear hb9 r1 r2 r3 y1 y2 y3 k1 k2 k3 k4 k5 k6 HB HX HO
     go_wp2_with (at_builtin;refine wpList_app1b _ rfl (.tmp 25) (.tmp 27) _ rfl (w.heap.size+1) 87 3 24 elShell A c len (scellsS os) rfl (HO9.out.alloc _) w9.heap.size #[.int .i64 s1,.int .i64 s2,.int .i64 s3] rfl (Blk.new w9 _ _) rfl ?h1 (by omega) (by omega) (by simp;omega) ?_)
     case h1=>simp [Value.oneCell']
     intro A7 c7 w7 hown7 hc7 hb7
     have HW7:=Lib.hid hown7
     have HB7:Hid (Below w.heap.size w w7):=(bel_alloc HB9.out _).trans (hb7.mono (Nat.le_succ _))
     have HX7:Hid (Blk w7 w.heap.size 87 #[.int .i64 s1,.int .i64 s2,.int .i64 s3]):=(HX9.out.alloc _).below hb7 (Nat.lt_succ_self _)
     have hs7:w.heap.size+1≤w7.heap.size:=HX7.out.lt
     have p1:=(HB7.out.cell (p:=⟨b,off+k*3,none⟩) hb).trans HQ.out.1
     have p2:=(HB7.out.cell (p:=⟨b,off+k*3+1,none⟩) hb).trans HQ.out.2.1
     have p3:=(HB7.out.cell (p:=⟨b,off+k*3+2,none⟩) hb).trans HQ.out.2.2
     clear hown7 hb7 z1 z2 z3 HB9 HX9 HO9 q1 q2 q3
     go_wp2_with (at_builtin;refine wpList_app1b _ rfl (.tmp 29) (.tmp 34) _ rfl (w.heap.size+1) 87 3 24 elShell A7 c7 (len+1) (scellsS os++[.int .i64 s1,.int .i64 s2,.int .i64 s3]) rfl (HW7.out.alloc _) w7.heap.size #[.int .i64 x1,.int .i64 x2,.int .i64 x3] rfl (Blk.new w7 _ _) rfl ?h1 (by omega) (by omega) (by simp;omega) ?_)
     case h1=>simp [Value.oneCell']
     intro A8 c8 w8 hown8 hc8 hb8
     have HW8:=Lib.hid hown8
     have HB8:Hid (Below w.heap.size w w8):=(bel_alloc HB7.out _).trans (hb8.mono (Nat.le_succ _))
     have HX8:Hid (Blk w8 w.heap.size 87 #[.int .i64 s1,.int .i64 s2,.int .i64 s3]):=(HX7.out.alloc _).below hb8 (Nat.lt_succ_self _)
     have hs8:w.heap.size+1≤w8.heap.size:=HX8.out.lt
     clear hown8 hb8 p1 p2 p3
     go_wp2_with fail
     go_roundw
     case rel=>exact ⟨k+1,true,_,A8,c8,by omega,by go_num,rfl,HST.out,by rw [HSL.out],by rw [HSL.out,HSC.out];exact HW8.out,HX8.out,HB8.out⟩
     case measure=>simp [RowKit.intOf];omega
   ·have HST:Hid (puK (s1,s2,s3) cs (k+1)=(true,os++[(x1,x2,x3)])):=by unfold Hid;rw [HPK.out];unfold puStep;rfl
    have HSL:Hid ((os++[(x1,x2,x3)]).length=len+1):=by unfold Hid;rw [List.length_append,HLN.out];rfl
    have HSC:=Lib.hid (scellsS_snoc os (x1,x2,x3))
    go_wp2_with fail
    refine wp_region_after (by kernel_rfl) (by kernel_rfl) ?_
    repeat (go_big_quiet_step ((go_at_call 99;exact after_call _ (HLS.out _))))
    refine wpQuiet_nil ?_
    intro w9 hw'
    obtain ⟨⟨w9',hb9⟩,hw''⟩:=hw'
    subst hw''
    have HB9:=Lib.hid (bel_sub HB.out hb9)
    have HX9:=Lib.hid (HX.out.sub hb9)
    have HO9:=Lib.hid (own_below HO.out hb9)
    have q1:=cell_sub hb9 r1;have q2:=cell_sub hb9 r2;have q3:=cell_sub hb9 r3
    obtain ⟨z1,z2,z3,_,_,_⟩:=blk3 HX9.out
    have hs9:w.heap.size+1≤w9.heap.size:=HX9.out.lt
    clear hb9 r1 r2 r3 y1 y2 y3 k1 k2 k3 k4 k5 k6 HB HX HO
    go_wp2_with (at_builtin;refine wpList_app1b _ rfl (.tmp 29) (.tmp 34) _ rfl (w.heap.size+1) 87 3 24 elShell A c len (scellsS os) rfl (HO9.out.alloc _) w9.heap.size #[.int .i64 x1,.int .i64 x2,.int .i64 x3] rfl (Blk.new w9 _ _) rfl ?h1 (by omega) (by omega) (by simp;omega) ?_)
    case h1=>simp [Value.oneCell']
    intro A8 c8 w8 hown8 hc8 hb8
    have HW8:=Lib.hid hown8
    have HB8:Hid (Below w.heap.size w w8):=(bel_alloc HB9.out _).trans (hb8.mono (Nat.le_succ _))
    have HX8:Hid (Blk w8 w.heap.size 87 #[.int .i64 s1,.int .i64 s2,.int .i64 s3]):=(HX9.out.alloc _).below hb8 (Nat.lt_succ_self _)
    have hs8:w.heap.size+1≤w8.heap.size:=HX8.out.lt
    clear hown8 hb8 z1 z2 z3 q1 q2 q3
    go_wp2_with fail
    go_roundw
    case rel=>exact ⟨k+1,true,_,A8,c8,by omega,by go_num,rfl,HST.out,by rw [HSL.out],by rw [HSL.out,HSC.out];exact HW8.out,HX8.out,HB8.out⟩
    case measure=>simp [RowKit.intOf];omega
  ·obtain rfl:k=n:=by omega
   have hke:k=cs.length:=HL.out.symm
   obtain ⟨z1,z2,z3,_,_,_⟩:=blk3 HX.out
   have hs9:w.heap.size+1≤wr.heap.size:=HX.out.lt
   have HPL:=Lib.hid (puK_len (s1,s2,s3) cs k)
   rw [HP.out] at HPL
   cases dn
   ·have hlen:os.length=k:=HPL.out
    have HPS:Hid (putS cs (s1,s2,s3)=os++[(s1,s2,s3)]):=by
     unfold Hid putS;rw [←hke,HP.out];rfl
    rw [hlen] at HO ⊢
    clear hlen hke
    go_wp2_with (at_builtin;refine wpList_app1b _ rfl (.tmp 38) (.tmp 40) _ rfl (w.heap.size+1) 87 3 24 elShell A c k (scellsS os) rfl (HO.out.alloc _) wr.heap.size #[.int .i64 s1,.int .i64 s2,.int .i64 s3] rfl (Blk.new wr _ _) rfl ?h1 (by omega) (by omega) (by simp;omega) ?_)
    case h1=>simp [Value.oneCell']
    intro A8 c8 w8 hown8 hc8 hb8
    have HW8:=Lib.hid hown8
    have HB8:Hid (Below w.heap.size w w8):=(bel_alloc HB.out _).trans (hb8.mono (Nat.le_succ _))
    clear hown8 hb8 z1 z2 z3
    go_wp2_with fail
    go_ret
    exact ⟨⟨A8,c8,rfl,by rw [HPS.out,scellsS_snoc];exact own_mono HW8.out (Nat.le_succ _)⟩,HB8.out⟩
   ·have hlen:os.length=k+1:=HPL.out
    have HPS:Hid (putS cs (s1,s2,s3)=os):=by
     unfold Hid putS;rw [←hke,HP.out];rfl
    rw [hlen] at HO ⊢
    clear hlen hke
    go_wp2_with fail
    go_ret
    exact ⟨⟨A,c,rfl,by rw [HPS.out];exact own_mono HO.out (Nat.le_succ _)⟩,HB.out⟩
theorem spK_len (z:Int):∀k,(spK z k).2.length≤k
 | 0=>Nat.le_refl _
 | k+1=>by
  have:=spK_len z k
  show (spStep (spK z k) (gS foAll k)).2.length≤k+1
  unfold spStep
  split
  ·rw [putS_len];omega
  ·omega
def okP (z:Int) (k:Nat):Bool:=decide (0≤(spK z k).1∧(spK z k).1≤118) && decide (1≤(gS foAll k).2.2∧(gS foAll k).2.2≤14) && decide ((spK z 19).1=0) && decide ((spK z 19).2.length≤19)
theorem okP_all:((List.range 118).all fun z=>(List.range 20).all fun k=>k==19 || okP ((z:Int)+1) k)=true:=by decide +kernel
theorem okP_at {z:Int} (h:1≤z∧z≤118) {k:Nat} (hk:k<19):okP z k=true:=by
 have:=List.all_eq_true.1 okP_all (z-1).toNat (List.mem_range.2 (by omega))
 have:=List.all_eq_true.1 this k (List.mem_range.2 (by omega))
 rw [show (((z-1).toNat:Nat):Int)+1=z by omega,show (k==19)=false by simp;omega,Bool.false_or] at this
 exact this
theorem spK_stop (z:Int) {k:Nat} (h:¬0<(spK z k).1):∀j,spK z (k+j)=spK z k
 | 0=>rfl
 | j+1=>by
  show spStep (spK z (k+j)) (gS foAll (k+j))=_
  rw [spK_stop z h j]
  unfold spStep
  rw [if_neg h]
theorem specGround_any (z:Int) (w:World) (h1:1≤z) (h2:z≤118):Calls Tryz.prog 17 #[.int .i64 z] w (GrPost z w):=by
 have HOK:Hid (∀k,k<19→okP z k=true):=fun k hk=>okP_at ⟨h1,h2⟩ hk
 have hi:inB z 1 118=true:=by simp [inB];omega
 have HI:=Lib.hid (fun W=>l6In_any z 1 118 W)
 rw [hi] at HI
 clear hi
 have HO0:=Lib.hid (own_empty w 87 3)
 have HB0:=Lib.hid (bel_alloc (Below.refl w.heap.size w) (.cells #[] 87))
 unfold GrPost
 go_enter Tryz.func17,Tryz.ntmps17
 go_wp2_with fail
 refine (HI.out _).mono ?_
 rintro e w' ⟨rfl,rfl⟩
 go_wp2_with fail
 go_loopw [4,5,6,7,8] (fun v l i _ _ wr=>∃(k:Nat) (A:Option Addr) (c:Nat),k≤19∧i=.int .i64 k∧l=.int .i64 (spK z k).1∧v=.slice A (spK z k).2.length c∧Hid (wr.ownsRow w.heap.size 87 3 (.slice A (spK z k).2.length c) (spK z k).2.length (scellsS (spK z k).2))∧Hid (Below w.heap.size w wr)) (fun _ _ i _ _ _=>19-(RowKit.intOf i).toNat)
 case atStart=>exact ⟨0,_,_,by omega,rfl,rfl,rfl,HO0.out,HB0.out⟩
 case round =>
  clear HO0 HB0
  obtain ⟨k,A,c,hk,rfl,rfl,rfl,HO,HB⟩:=hrel
  have hlen:=spK_len z k
  by_cases hgo:k<19∧0<(spK z k).1
  ·obtain ⟨hlt,hpos⟩:=hgo
   have hok:=HOK.out k hlt
   unfold okP at hok
   simp only [Bool.and_eq_true,decide_eq_true_eq] at hok
   obtain ⟨⟨⟨⟨o1,o2⟩,o3,o4⟩,_⟩,_⟩:=hok
   have HST:Hid (spK z (k+1)=spStep (spK z k) (gS foAll k)):=rfl
   have HSA:=Lib.hid (fun W=>ShellAt_any k hlt W)
   obtain ⟨s,hs⟩:∃s,gS foAll k=s:=⟨_,rfl⟩
   rw [hs] at o3 o4 HST HSA
   clear hs
   obtain ⟨n1,l1,c1⟩:=s
   simp only at o3 o4 HSA
   obtain ⟨⟨zz,es⟩,hst⟩:∃st,spK z k=st:=⟨_,rfl⟩
   rw [hst] at HO o1 o2 hpos hlen HST ⊢
   clear hst
   simp only at HO o1 o2 hpos hlen ⊢
   have HS2:Hid (spK z (k+1)=(zz-min c1 zz,putS es (n1,l1,min c1 zz))):=by unfold Hid;rw [HST.out];unfold spStep;rw [if_pos hpos]
   have u1:IntKind.i64.wrap (zz-min c1 zz)=zz-min c1 zz:=IntWalk.i64_in _ (by omega)
   clear HST
   go_wp2_with fail
   refine (HSA.out _).mono ?_
   rintro e w2 ⟨rfl,hb2⟩
   have HBW:Hid (∀o,Below w.heap.size w (w2.alloc o)):=fun o=>bel_alloc (bel_sub HB.out hb2) o
   have HOW:Hid (∀o,(w2.alloc o).ownsRow w.heap.size 87 3 (.slice A es.length c) es.length (scellsS es)):=fun o=>(own_below HO.out hb2).alloc o
   have hsz:w.heap.size≤w2.heap.size:=(bel_sub HB.out hb2).size
   clear hb2 HO HB HSA
   have HB2:Hid (Below w.heap.size w (w2.alloc (.cells #[.int .i64 n1,.int .i64 l1,.int .i64 (min c1 zz)] 87))):=HBW.out _
   have HO2:Hid ((w2.alloc (.cells #[.int .i64 n1,.int .i64 l1,.int .i64 (min c1 zz)] 87)).ownsRow w.heap.size 87 3 (.slice A es.length c) es.length (scellsS es)):=HOW.out _
   go_wp2_with fail
   refine (l11Put_any A es.length c es (n1,l1,min c1 zz) _ (by omega) rfl (own_reads HO2.out)).mono ?_
   rintro e w4 ⟨⟨A4,c4,rfl,ho4⟩,hb4⟩
   have HB4:=Lib.hid (bel_sub HB2.out hb4)
   have HO4:=Lib.hid (own_mono ho4 HB2.out.size)
   have HPL:=Lib.hid (putS_len es (n1,l1,min c1 zz))
   clear ho4 hb4 HB2 HO2
   go_wp2_with fail
   go_roundw
   case rel=>exact ⟨k+1,A4,c4,by omega,by go_num,by rw [HS2.out],by rw [HS2.out,HPL.out],by rw [HS2.out,HPL.out];exact HO4.out,HB4.out⟩
   case measure=>simp [RowKit.intOf];omega
  ·have HE:Hid (spK z 19=spK z k):=by
    unfold Hid
    by_cases h:k=19
    ·rw [h]
    ·have:=spK_stop z (k:=k) (fun hp=>hgo ⟨by omega,hp⟩) (19-k)
     rwa [show k+(19-k)=19 by omega] at this
   have HG:Hid (grL z=(spK z k).2):=by unfold Hid grL;rw [HE.out]
   by_cases hlt:k<19
   ·have hpos:¬0<(spK z k).1:=fun h=>hgo ⟨hlt,h⟩
    clear hgo
    go_wp2_with fail
    go_ret2
    refine ⟨?_,HB.out⟩
    rw [HG.out]
    exact ⟨A,⟨c,rfl⟩,own_reads HO.out⟩
   ·clear hgo
    go_wp2_with fail
    go_ret2
    refine ⟨?_,HB.out⟩
    rw [HG.out]
    exact ⟨A,⟨c,rfl⟩,own_reads HO.out⟩
end
end
end Go.Proofs.YtlgdndnaiogooaaGreatDoor
