/- Parts of the proof of : Ak. -/
import Derived.Test.YtlgdndnaiogooaaGreatDoorQ04
set_option maxHeartbeats 20000000
set_option maxRecDepth 1000000
set_option linter.unusedSimpArgs false
set_option linter.unusedVariables false
namespace Go.Proofs.YtlgdndnaiogooaaGreatDoor
section
open Go.RowKit
theorem bcell {W w1:World} (hb:Below W.heap.size W w1):(∀b o,b<W.heap.size→w1.cell? ⟨b,o,none⟩=W.cell? ⟨b,o,none⟩)∧(∀b o,b<W.heap.size→w1.frozen? ⟨b,o,none⟩=W.frozen? ⟨b,o,none⟩)∧W.heap.size≤w1.heap.size :=
 ⟨fun b o h=>hb.cell (p:=⟨b,o,none⟩) h,fun b o h=>hb.frozen (p:=⟨b,o,none⟩) h,hb.size⟩
theorem wp_gen {P:Program} {c:Code} {Q:Exit→Act→World→Prop} {a:Act} {W:World} (h:∀W',Hid (W=W')→c.wp P Q a W'):c.wp P Q a W:=h W rfl
theorem results_ct0 {P:Program} {fn:Func} {p t1:Tmp} {ty:TypeId} {cs:Array Value} (h:fn.results=#[.cell p ty,.tmp t1]) (tmps:Array Value) (w:World) (g:Nat) (t:TypeId) (d:TypeDesc)
 (hp:tmps.getD p undef=.pointer (some ⟨g,0,none⟩)) (hg:Blk w g t cs)
 (hu:P.underlying ty=some d) (hd:(match d with | .struct _ | .array _ _=>true | _=>false)=true) (hi:(P.info? ty).map (·.size)=some cs.size) :
 (results fn tmps).run P w=.ok (.tuple #[.agg cs,tmps.getD t1 undef]) w:=by
 have hp':tmps[p]?.getD undef=.pointer (some ⟨g,0,none⟩):=by simpa using hp
 simp [results,h,hp',asAddr,run_loadVar_row w g t ty cs (0,0) d hg hu hd hi]
theorem bel_alloc {a w:World} (h:Below a.heap.size a w) (o:Obj):Below a.heap.size a (w.alloc o):=h.alloc h.size o
theorem bel_set {a w:World} {g i:Nat} {u:Value} (h:Below a.heap.size a w) (hg:a.heap.size≤g):Below a.heap.size a (w.setCell ⟨g,i,none⟩ u):=h.setCell (p:=⟨g,i,none⟩) hg u
theorem bel_sub {a w w':World} (h:Below a.heap.size a w) (k:Below w.heap.size w w'):Below a.heap.size a w':=h.trans (k.mono h.size)
theorem bel_drew {a w:World} (h:Below a.heap.size a w):Below a.heap.size a w.drew:=h.drew
theorem blk_sub {w w':World} {g:Nat} {t:TypeId} {cs:Array Value} (h:Blk w g t cs) (hb:Below w.heap.size w w'):Blk w' g t cs:=h.sub hb
theorem blk_far {w:World} {g p i:Nat} {t:TypeId} {cs:Array Value} {u:Value} (h:Blk w g t cs) (hp:g≠p):Blk (w.setCell ⟨p,i,none⟩ u) g t cs:=h.far (p:=⟨p,i,none⟩) hp u
theorem blk_new' {w:World} {g:Nat} {t:TypeId} {cs:Array Value} (h:w.heap.size=g):Blk (w.alloc (.cells cs t)) g t cs:=h ▸ Blk.new w t cs
theorem blk_set2 {w:World} {g:Nat} {t:TypeId} {a b x y:Value} (h:Blk w g t #[a,b]):Blk ((w.setCell ⟨g,0,none⟩ x).setCell ⟨g,1,none⟩ y) g t #[x,y]:=(h.set 0 x).set 1 y
theorem blk_far2 {w:World} {g p:Nat} {t:TypeId} {cs:Array Value} {x y:Value} (h:Blk w g t cs) (hp:g≠p):Blk ((w.setCell ⟨p,0,none⟩ x).setCell ⟨p,1,none⟩ y) g t cs:=blk_far (blk_far h hp) hp
theorem bel_set2 {a w:World} {g:Nat} {x y:Value} (h:Below a.heap.size a w) (hg:a.heap.size≤g):Below a.heap.size a ((w.setCell ⟨g,0,none⟩ x).setCell ⟨g,1,none⟩ y):=bel_set (bel_set h hg) hg
theorem cell_far {w:World} {g i b q:Nat} {u v:Value} (hne:b≠g) (h:w.cell? ⟨b,q,none⟩=some v):(w.setCell ⟨g,i,none⟩ u).cell? ⟨b,q,none⟩=some v :=
 (World.cell?_of_block (Below.heap_setCell w ⟨g,i,none⟩ u b hne)).trans h
theorem cell_sub {w w':World} {b q:Nat} {v:Value} (hb:Below w.heap.size w w') (h:w.cell? ⟨b,q,none⟩=some v):w'.cell? ⟨b,q,none⟩=some v:=(hb.cell (World.block_lt_of_cell? _ _ h)).trans h
end
end Go.Proofs.YtlgdndnaiogooaaGreatDoor
