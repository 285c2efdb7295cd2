/- Parts of the proof of : Pn. -/
import Derived.Test.YtammfhheibaeaaaGreatDoorQ05
import Derived.Test.YtammfhheibaeaaaGreatDoorQ09
set_option maxHeartbeats 20000000
set_option maxRecDepth 1000000
set_option linter.unusedSimpArgs false
set_option linter.unusedVariables false
namespace Go.Proofs.YtammfhheibaeaaaGreatDoor
section
open Go.RowKit Go.Lib
attribute [local go_sem ↓] Go.wp_at_zero Go.wp_at_succ
theorem bs_eq (x y:List UInt8):((bs x).toList==(bs y).toList)=decide (x=y):=by
 rw [show (bs x).toList=x from ByteArray.toList_mk x,show (bs y).toList=y from ByteArray.toList_mk y]
 rw [Bool.eq_iff_iff];simp
def Mx (w:World):Prop:=∃m,w.cell? ⟨1,0,none⟩=some (.int .i64 m)
theorem Mx.on {w w':World} (h:Mx w) (hb:Below w.heap.size w w'):Mx w':=by
 obtain ⟨m,hm⟩:=h
 exact ⟨m,(hb.cell (World.block_lt_of_cell? _ _ hm)).trans hm⟩
theorem split_any (l:List UInt8) (c:UInt8) (w:World) (hm:Mx w) (hs:l.length<4294967281) :
 Calls Tryz.prog 32 #[.string (bs l),.string (bs [c])] w fun e w' =>
  e=.returned (.slice (some ⟨w.heap.size,0,none⟩) (spl c l).length (spl c l).length)∧w'=w.alloc (.cells ((spl c l).map fun x=>Value.string (bs x)).toArray 9):=by
 obtain ⟨m,hm⟩:=hm
 have h:=Tryz.strings_Split (bs l) (bs [c]) m w (by rw [bs_size];exact hs) hm (by rw [bs_size];exact Nat.le_refl _)
 rw [splitB_spl,show countB (bs l) (bs [c])+1=(spl c l).length from ?_,List.map_map] at h
 ·exact h
 ·have:countB (bs l) (bs [c])=count l [c]:=by
   show count _ _=_
   rw [show (bs l).data.toList=l by simp [bs],show (bs [c]).data.toList=[c] by simp [bs]]
  rw [this];exact count_spl c l
theorem results_ct {P:Program} {fn:Func} {p t1:Tmp} {ty:TypeId} (h:fn.results=#[.cell p ty,.tmp t1]) (tmps:Array Value) (w:World) (g:Nat) (t:TypeId) (cs:Array Value) (fr:Nat × Nat) (d:TypeDesc)
 (hp:tmps.getD p undef=.pointer (some ⟨g,0,none⟩)) (hg:w.heap[g]?=some (.cells cs t fr))
 (hu:P.underlying ty=some d) (hd:(match d with | .struct _ | .array _ _=>true | _=>false)=true) (hi:(P.info? ty).map (·.size)=some cs.size) :
 (results fn tmps).run P w=.ok (.tuple #[.agg cs,tmps.getD t1 undef]) w:=by
 have hp':tmps[p]?.getD undef=.pointer (some ⟨g,0,none⟩):=by simpa using hp
 simp [results,h,hp',asAddr,run_loadVar_row w g t ty cs fr d hg hu hd hi]
theorem no_sp (n:Nat) (c:UInt8) (hc:c.toNat<48):c∉decDigits n:=fun h=>by have:=dd_all n c h;omega
theorem spT_no (j:Int) (c:UInt8) (hc:c.toNat<47):c∉spT j:=by
 unfold spT
 split
 ·split
  ·exact no_sp _ _ (by omega)
  ·intro h
   rw [List.mem_append] at h
   rcases h with h | h
   ·exact no_sp _ _ (by omega) h
   ·simp at h
    rcases h with rfl | rfl
    ·exact absurd hc (by decide)
    ·exact absurd hc (by decide)
 ·simp
theorem spT_inj:∀a b:Fin 25,spT (a.val:Int)=spT (b.val:Int)→a=b:=by decide +kernel
theorem ndT_ok {e j:Int} {o:Bool} (h:ndB e j=true):ndT e j o=decDigits e.toNat++[32]++spT j++[32]++[if o then 111 else 101]:=by unfold ndT;rw [if_pos h]
theorem ndB_iff {e j:Int}:ndB e j=true↔(0≤e∧e≤200000)∧(0≤j∧j≤24):=by simp [ndB,inB_iff]
theorem spl_nd {e j:Int} {o:Bool} (h:ndB e j=true):spl 32 (ndT e j o)=[decDigits e.toNat,spT j,[if o then 111 else 101]]:=by
 rw [ndT_ok h]
 rw [show decDigits e.toNat++[32]++spT j++[32]++[if o then (111:UInt8) else 101]=decDigits e.toNat++32 :: (spT j++32 :: [if o then 111 else 101]) by simp]
 rw [spl_app (no_sp _ _ (by decide)),spl_app (spT_no _ _ (by decide)),spl_none (by cases o <;> decide)]
theorem ndT_inj {e:Int} {o:Bool} {a b:Nat} (he:0≤e∧e≤200000) (ha:a≤24) (hb:b≤24) (h:ndT e a o=ndT e b o):a=b:=by
 rw [ndT_ok (ndB_iff.2 ⟨he,by omega,by omega⟩),ndT_ok (ndB_iff.2 ⟨he,by omega,by omega⟩)] at h
 rw [List.append_cancel_right_eq,List.append_cancel_right_eq,List.append_cancel_left_eq] at h
 have:=spT_inj ⟨a,by omega⟩ ⟨b,by omega⟩ h
 simpa using this
theorem ndT_no10 (e j:Int) (o:Bool):(10:UInt8)∉ndT e j o:=by
 unfold ndT
 split
 ·simp only [List.mem_append,not_or]
  refine ⟨⟨⟨⟨no_sp _ _ (by decide),by decide⟩,spT_no _ _ (by decide)⟩,by decide⟩,by cases o <;> decide⟩
 ·simp
end
end Go.Proofs.YtammfhheibaeaaaGreatDoor
