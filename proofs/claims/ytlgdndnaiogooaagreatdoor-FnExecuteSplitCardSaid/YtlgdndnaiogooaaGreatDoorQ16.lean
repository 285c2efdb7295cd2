/- Parts of the proof of : Spg Ws Bu. -/
import Derived.Test.YtlgdndnaiogooaaGreatDoorQ15
import Derived.Test.YtlgdndnaiogooaaGreatDoorQ04
set_option maxHeartbeats 20000000
set_option maxRecDepth 1000000
set_option linter.unusedSimpArgs false
set_option linter.unusedVariables false
namespace Go.Proofs.YtlgdndnaiogooaaGreatDoor
section
open Go.RowKit Go.Lib
theorem bs_eq (x y:List UInt8):((bs x).toList==(bs y).toList)=decide (x=y):=by
 rw [show (bs x).toList=x from ByteArray.toList_mk x,show (bs y).toList=y from ByteArray.toList_mk y]
 rw [Bool.eq_iff_iff];simp
def Mx (w:World):Prop:=∃m,w.cell? ⟨2,0,none⟩=some (.int .i64 m)
theorem Mx.on {w w':World} (h:Mx w) (hb:Below w.heap.size w w'):Mx w':=by
 obtain ⟨m,hm⟩:=h
 exact ⟨m,(hb.cell (World.block_lt_of_cell? _ _ hm)).trans hm⟩
theorem split_any (l:List UInt8) (c:UInt8) (w:World) (hm:Mx w) (hs:l.length<4294967281) :
 Calls Tryz.prog 41 #[.string (bs l),.string (bs [c])] w fun e w' =>
  e=.returned (.slice (some ⟨w.heap.size,0,none⟩) (spl c l).length (spl c l).length)∧w'=w.alloc (.cells ((spl c l).map fun x=>Value.string (bs x)).toArray 9):=by
 obtain ⟨m,hm⟩:=hm
 have h:=Tryz.strings_Split (bs l) (bs [c]) m w (by rw [bs_size];exact hs) hm (by rw [bs_size];exact Nat.le_refl _)
 rw [splitB_spl,show countB (bs l) (bs [c])+1=(spl c l).length from ?_,List.map_map] at h
 ·exact h
 ·have:countB (bs l) (bs [c])=count l [c]:=by
   show count _ _=_
   rw [show (bs l).data.toList=l by simp [bs],show (bs [c]).data.toList=[c] by simp [bs]]
  rw [this];exact count_spl c l
end
end Go.Proofs.YtlgdndnaiogooaaGreatDoor
section
namespace Go.Proofs
open Go.Shelf
def Tryz.laysWs_ren:Go.Shelf.Ren:=⟨fun | 166=>42 | 240=>90 | 276=>124 | n=>n,fun | 0=>0 | 3=>3 | 4=>4 | 9=>9 | 20=>20 | 37=>22 | 70=>74 | 72=>76 | 75=>78 | 164=>156 | 5=>5 | 80=>82 | n=>n,fun | n=>n⟩
theorem Tryz.laysWs:Go.Proofs.Lays.n166 Tryz.prog Tryz.laysWs_ren:={
 mixed:=by kernel_rfl
 f166:=Tryz.func42.trans (congrArg some (by kernel_rfl))
 f240:=Tryz.func90.trans (congrArg some (by kernel_rfl))
 f276:=Tryz.func124.trans (congrArg some (by kernel_rfl))
 t0:=Tryz.underlying0
 a0:=Tryz.isAgg0
 z0:=Tryz.sizeOf0
 v0:=Tryz.zeroValue0
 t3:=Tryz.underlying3
 a3:=Tryz.isAgg3
 z3:=Tryz.sizeOf3
 v3:=Tryz.zeroValue3
 t4:=Tryz.underlying4
 a4:=Tryz.isAgg4
 z4:=Tryz.sizeOf4
 v4:=Tryz.zeroValue4
 t9:=Tryz.underlying9
 a9:=Tryz.isAgg9
 z9:=Tryz.sizeOf9
 v9:=Tryz.zeroValue9
 t20:=Tryz.underlying20
 a20:=Tryz.isAgg20
 z20:=Tryz.sizeOf20
 v20:=Tryz.zeroValue20
 t37:=Tryz.underlying22
 a37:=Tryz.isAgg22
 z37:=Tryz.sizeOf22
 v37:=Tryz.zeroValue22
 t70:=Tryz.underlying74
 a70:=Tryz.isAgg74
 z70:=Tryz.sizeOf74
 v70:=Tryz.zeroValue74
 t72:=Tryz.underlying76
 a72:=Tryz.isAgg76
 z72:=Tryz.sizeOf76
 v72:=Tryz.zeroValue76
 t75:=Tryz.underlying78
 a75:=Tryz.isAgg78
 z75:=Tryz.sizeOf78
 v75:=Tryz.zeroValue78
 t164:=Tryz.underlying156
 a164:=Tryz.isAgg156
 z164:=Tryz.sizeOf156
 v164:=Tryz.zeroValue156 }
theorem Tryz.Builder_Extra_Ws:Builder.Extra Tryz.prog Tryz.laysWs_ren:={
 sizeBuilder:=by kernel_rfl
 liesBuilder:=by kernel_rfl
 t5:=Tryz.underlying5
 a5:=Tryz.isAgg5
 z5:=Tryz.sizeOf5
 v5:=Tryz.zeroValue5
 infoByte:=by kernel_rfl
 cellsByte:=by kernel_rfl
 sizeByte:=by kernel_rfl
 neB5:=by decide }
end Go.Proofs
end
namespace Go.Proofs.YtlgdndnaiogooaaGreatDoor
section
open Go.RowKit
theorem writeString_any (B b:Nat) (l s:List UInt8) (w:World) (h:Lib.IsBuilderF 76 5 B b (Lib.byteCells l) w) (hlen:l.length+s.length≤140737488355328) (hBw:B≤w.heap.size) :
 Calls Tryz.prog 42 #[.pointer (some ⟨b,0,none⟩),.string (bs s)] w fun e w'=>e=.returned (.tuple #[.int .i64 (bs s).size,.nilIface])∧Lib.IsBuilderF 76 5 B b (Lib.byteCells (l++s)) w'∧Below B w w' :=
 (Any.Builder_WriteString_k (ρ:=Tryz.laysWs_ren) { Tryz.laysWs with } Tryz.Builder_Extra_Ws B b _ (bs s) w h (by rw [Lib.byteCells_length,bs_size];exact hlen) hBw).mono fun e w' hw=>⟨hw.1,.inr (by rw [Lib.byteCells_append];exact hw.2.1),hw.2.2.1⟩
theorem builder_new {w:World} {B:Nat} (hB:B≤w.heap.size):Lib.IsBuilderF 76 5 B w.heap.size (Lib.byteCells []) (w.alloc (.cells #[.pointer none,.slice none 0 0] 76)) :=
 .inl ⟨hB,.slice none 0 0,heap_alloc_new w _,World.ownsRowF_nil _ _ _ _,by simp [Value.ownBlock]⟩
theorem builder_below {B b:Nat} {xs:List Value} {W W':World} (h:Lib.IsBuilderF 76 5 B b xs W) (hb:Below W.heap.size W W'):Lib.IsBuilderF 76 5 B b xs W':=by
 have go:∀p,Lib.BuilderAtF 76 5 B b p xs W→Lib.BuilderAtF 76 5 B b p xs W':=fun p h=>by
  have hlt:=h.lt
  obtain ⟨hB,v,hv,hown,hne⟩:=h
  exact ⟨hB,v,(hb.block b hlt).trans hv,hown.kept (row:=none) ⟨hb.os,hb.tape,hb.output,hb.size,fun k hk _=>hb.block k hk⟩ (Classical.em _),hne⟩
 exact h.elim (fun x=>.inl (go _ x)) (fun x=>.inr (go _ x))
end
end Go.Proofs.YtlgdndnaiogooaaGreatDoor
