/- Parts of the proof of : Ty. -/
import Derived.Test.YtammfhheibaeaaaGreatDoorQ26
set_option maxHeartbeats 20000000
set_option maxRecDepth 1000000
set_option linter.unusedSimpArgs false
set_option linter.unusedVariables false
namespace Go.Proofs.YtammfhheibaeaaaGreatDoor
section
open Go.RowKit Go.Lib
def GoodT (l:List UInt8):Prop:=l≠[]∧scT (nlf l)=l
theorem good_sv {l:List UInt8} (h:GoodT l):svB (nlf l)=true:=by
 cases hv:svB (nlf l)
 ·have h2:=h.2
  unfold scT at h2
  rw [hv] at h2
  exact absurd h2.symm h.1
 ·rfl
theorem bad_of {l:List UInt8} (h:¬GoodT l):BadT l:=fun ns hv e=>by
 refine h ⟨fun h0=>scT_pos hv (e.trans h0),?_⟩
 rw [←e,nlf_scT hv]
def SfPost (l:List UInt8) (w:World) (en:Ending) (w':World):Prop :=
 ((GoodT l∧∃(A:Option Addr) (c:Nat),en=.returned (.tuple #[.slice A (nlf l).length c,.bool true])∧(nlf l).length≤c∧Reads w' w'.heap.size 3 A (nlf l).length (ncells (nlf l))∧w'.ownsRow w.heap.size 34 3 (.slice A (nlf l).length c) (nlf l).length (ncells (nlf l)))
  ∨ (¬GoodT l∧en=.returned (.tuple #[.slice none 0 0,.bool false])))∧Below w.heap.size w w'
structure Env (w:World):Prop where
 tab:Tab w
 mx:Mx w
 er:Er w
 eh:Eh w
theorem Env.on {w w':World} (h:Env w) (hb:Below w.heap.size w w'):Env w':=⟨h.tab.on hb,h.mx.on hb,h.er.on hb,h.eh.on hb⟩
theorem SchemeFrom_all (l:List UInt8) (w:World) (he:Env w) (hlen:l.length≤1048576) :
 Calls Tryz.prog 6 #[.string (bs l)] w (SfPost l w):=by
 by_cases hg:GoodT l
 ·have h:=SchemeFrom_any (nlf l) w he.tab he.mx (good_sv hg)
  rw [hg.2] at h
  exact h.mono fun en w' ⟨h1,h2⟩=>⟨.inl ⟨hg,h1⟩,h2⟩
 ·exact (SchemeFrom_bad l w he.tab he.mx he.er he.eh hlen (bad_of hg)).mono fun en w' ⟨h1,h2⟩=>⟨.inr ⟨hg,h1⟩,h2⟩
end
end Go.Proofs.YtammfhheibaeaaaGreatDoor
