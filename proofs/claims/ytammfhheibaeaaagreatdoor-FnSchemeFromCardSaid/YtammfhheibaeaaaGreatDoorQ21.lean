/- Parts of the proof of : Sb. -/
import Derived.Test.YtammfhheibaeaaaGreatDoorQ18
import Derived.Test.YtammfhheibaeaaaGreatDoorQ20
set_option maxHeartbeats 20000000
set_option maxRecDepth 1000000
set_option linter.unusedSimpArgs false
set_option linter.unusedVariables false
namespace Go.Proofs.YtammfhheibaeaaaGreatDoor
section
open Go.RowKit Go.Lib
attribute [local go_sem ↓] Go.wp_at_zero Go.wp_at_succ
def Eh (w:World):Prop:=w.cell? ⟨0,0,none⟩=some (.iface 87 (.agg #[.pointer (some ⟨9,37,none⟩)]))
theorem Eh.on {w w':World} (h:Eh w) (hb:Below w.heap.size w w'):Eh w':=(hb.cell (World.block_lt_of_cell? _ _ h)).trans h
theorem SchemeFrom_bad (l:List UInt8) (w:World) (ht:Tab w) (hm:Mx w) (he:Er w) (hh:Eh w) (hlen:l.length≤1048576) (hbad:BadT l) :
 Calls Tryz.prog 6 #[.string (bs l)] w fun en w'=>en=.returned (.tuple #[.slice none 0 0,.bool false])∧Below w.heap.size w w':=by
 have HC:=Lib.hid (parseScheme_bad l w ht hm he hlen hbad)
 have HE:=Lib.hid (fun W (hW:Below w.heap.size w W)=>hh.on hW)
 clear ht hm he hh hbad
 generalize bs l=L at *
 go_enter Tryz.func6,Tryz.ntmps6
 go_wp2_with fail
 refine HC.out.mono ?_
 rintro en w1 ⟨⟨N,rfl⟩,hb1⟩
 have HB:=Lib.hid hb1;clear hb1 HC
 have HK:=Lib.hid (Blk.new w1 40 #[.pointer none])
 have HB2:=Lib.hid (HB.out.alloc HB.out.size (.cells #[.pointer none] 40))
 go_wp2_with fail
 refine (as_hit ⟨N,0,none⟩ ⟨w1.heap.size,0,none⟩ (.pointer none) _ (HE.out _ HB2.out) (HK.out.cell 0) (HK.out.frozen 0)).mono ?_
 rintro en w2 ⟨rfl,rfl⟩
 obtain ⟨W,hW⟩:∃W,w1.alloc (.cells #[.pointer none] 40)=W:=⟨_,rfl⟩
 rw [hW] at HB2 ⊢
 have h1:w1.heap.size ≥ w.heap.size:=HB.out.size
 have HBZ:=Lib.hid (((((HB2.out.alloc HB2.out.size (.cells #[.pointer (some ⟨w1.heap.size,0,none⟩)] 42)).alloc (by have:=HB2.out.size;simp;omega) (.cells #[.pointer (some ⟨9,42,none⟩),.pointer (some ⟨W.heap.size,0,none⟩),.int .u64 150] 68)).alloc (by have:=HB2.out.size;simp;omega) (.cells #[.pointer (some ⟨9,42,none⟩),.pointer (some ⟨W.heap.size,0,none⟩),.int .u64 150] 68)).alloc (by have:=HB2.out.size;simp;omega) (.cells #[.pointer (some ⟨N,0,none⟩)] 40)).setCell (p:=⟨w1.heap.size,0,none⟩) h1 (.pointer (some ⟨N,0,none⟩)))
 go_wp2_with fail
 go_ret2
 exact ⟨rfl,HBZ.out⟩
end
end Go.Proofs.YtammfhheibaeaaaGreatDoor
