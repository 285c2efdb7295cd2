/- Parts of the proof of : LExFrom. -/
import Derived.Test.YtammfhheibaeaaaGreatDoorQ27
import Derived.Test.YtammfhheibaeaaaGreatDoorQ31
set_option maxHeartbeats 20000000
set_option maxRecDepth 1000000
set_option linter.unusedSimpArgs false
set_option linter.unusedVariables false
namespace Go.Proofs.YtammfhheibaeaaaGreatDoor
section
open Go.RowKit
attribute [local go_sem ↓] Go.wp_at_zero Go.wp_at_succ
theorem fnExactSchemeFrom_walk (s:ByteArray) (w:World) (hs:s.size≤maxLen) (he:Env w) :
 Calls Tryz.prog 3 #[.string s] w fun e w'=>e=.returned (.bool true)∧Below w.heap.size w w':=by
 obtain ⟨l,rfl⟩:∃l,s=bs l:=⟨s.data.toList,by simp [bs]⟩
 unfold maxLen at hs
 rw [bs_size] at hs
 have HE:=Lib.hid (fun W (hB:Below w.heap.size w W)=>he.on hB);clear he
 have hB0:=Below.refl w.heap.size w
 by_cases hbig:1048576<l.length
 ·have hsz:1048576<(bs l).size:=by rw [bs_size];exact hbig
  have hs2:(bs l).size≤9223372036854775807:=by rw [bs_size];exact hs
  generalize bs l=L at *
  clear hs hbig
  go_enter Tryz.func3,Tryz.ntmps3
  go_wp2_with fail
  go_ret
  exact ⟨rfl,hB0⟩
 have hsz:(bs l).size≤1048576:=by rw [bs_size];omega
 have HS:=Lib.hid (fun W=>specSchemeFrom_all l W (by omega))
 have HI:=Lib.hid (fun W (hB:Below w.heap.size w W)=>SchemeFrom_all l W (HE.out W hB) (by omega))
 by_cases hg:GoodT l
 ·have hv:=good_sv hg
  have hn12:=(svB_iff.1 hv).1.2
  have HN:=Lib.hid (ncells_len (nlf l))
  obtain ⟨n,hn⟩:∃n,(nlf l).length=n:=⟨_,rfl⟩
  have HG:=Lib.hid hg
  have HNL:=Lib.hid hn
  rw [hn] at hn12
  clear hv hn hg
  generalize bs l=L at *
  clear hs hbig
  go_enter Tryz.func3,Tryz.ntmps3
  go_wp2_with fail
  refine (HS.out _).mono ?_
  rintro e w1 ⟨h1,hb1⟩
  have h1':∃(A:Option Addr) (c:Nat),e=.returned (.tuple #[.slice A n c,.bool true])∧n≤c∧Reads w1 w1.heap.size 3 A n (ncells (nlf l)):=by
   rcases h1 with ⟨_,h⟩ | ⟨h,_⟩
   ·rw [HNL.out] at h;exact h
   ·exact absurd HG.out h
  obtain ⟨A1,c1,rfl,hc1,hr1⟩:=h1'
  clear h1
  have HB1:=Lib.hid hb1;have HR1:=Lib.hid hr1;clear hb1 hr1 hB0
  go_wp2_with fail
  refine (HI.out _ HB1.out).mono ?_
  rintro e w2 ⟨h2,hb2⟩
  have h2':∃(A:Option Addr) (c:Nat),e=.returned (.tuple #[.slice A n c,.bool true])∧n≤c∧Reads w2 w2.heap.size 3 A n (ncells (nlf l))∧w2.ownsRow w1.heap.size 34 3 (.slice A n c) n (ncells (nlf l)):=by
   rcases h2 with ⟨_,h⟩ | ⟨h,_⟩
   ·rw [HNL.out] at h;exact h
   ·exact absurd HG.out h
  obtain ⟨A2,c2,rfl,hc2,hr2,ho2⟩:=h2'
  clear h2
  have HB2:=Lib.hid (HB1.out.trans (hb2.mono HB1.out.size));have HR2:=Lib.hid hr2;have HO2:=Lib.hid ho2
  have HK2:=Lib.hid hb2
  clear hr2 ho2 hb2
  go_wp2_with fail
  refine (eqNodeS_any A2 A1 n c2 c1 (nlf l) w2 (by omega) HR2.out ((HR1.out.below HK2.out).more HK2.out.size)).mono ?_
  rintro e w3 ⟨rfl,hb3⟩
  have HK3:=Lib.hid (HK2.out.trans (hb3.mono HK2.out.size))
  have HO3:=Lib.hid (own_below HO2.out hb3)
  clear hb3 HR2 HO2 HB2 HK2
  go_wp2_with fail
  refine (markNodeS_any A2 n c2 w1.heap.size _ w3 (by omega) HO3.out).mono ?_
  rintro e w4 ⟨rfl,hr4,hb4⟩
  have HK4:=Lib.hid (HK3.out.trans hb4)
  have HR4:=Lib.hid hr4
  clear hr4 hb4 HO3 HK3
  go_wp2_with fail
  refine (heldNodeS_any A2 n c2 w4 (by omega) HR4.out).mono ?_
  rintro e w5 ⟨rfl,hb5⟩
  have HK5:=Lib.hid (HK4.out.trans (hb5.mono HK4.out.size))
  have HR5:=Lib.hid ((HR4.out.below hb5).more hb5.size)
  clear hb5 HK4 HR4
  go_wp2_with fail
  refine (HI.out _ (HB1.out.trans (HK5.out.mono HB1.out.size))).mono ?_
  rintro e w6 ⟨h6,hb6⟩
  have h6':∃(A:Option Addr) (c:Nat),e=.returned (.tuple #[.slice A n c,.bool true])∧n≤c∧Reads w6 w6.heap.size 3 A n (ncells (nlf l)):=by
   rcases h6 with ⟨_,h⟩ | ⟨h,_⟩
   ·rw [HNL.out] at h;obtain ⟨A,c,x1,x2,x3,_⟩:=h;exact ⟨A,c,x1,x2,x3⟩
   ·exact absurd HG.out h
  obtain ⟨A6,c6,rfl,hc6,hr6⟩:=h6'
  clear h6
  have HK6:=Lib.hid (HK5.out.trans (hb6.mono HK5.out.size))
  have HR6:=Lib.hid hr6
  have HM6:=Lib.hid ((HR5.out.below hb6).more hb6.size)
  clear hr6 hb6 HK5 HR5
  go_wp2_with fail
  refine (eqNodeS_any A6 A1 n c6 c1 (nlf l) w6 (by omega) HR6.out ((HR1.out.below HK6.out).more HK6.out.size)).mono ?_
  rintro e w7 ⟨rfl,hb7⟩
  have HK7:=Lib.hid (HK6.out.trans (hb7.mono HK6.out.size))
  have HM7:=Lib.hid ((HM6.out.below hb7).more hb7.size)
  clear hb7 HK6 HM6 HR6
  go_wp2_with fail
  refine (heldNodeS_any A2 n c2 w7 (by omega) HM7.out).mono ?_
  rintro e w8 ⟨rfl,hb8⟩
  have HB8:=Lib.hid (HB1.out.trans ((HK7.out.trans (hb8.mono HK7.out.size)).mono HB1.out.size))
  clear hb8 HK7 HM7
  go_wp2_with fail
  go_ret
  exact ⟨rfl,HB8.out⟩
 ·have HG:=Lib.hid hg
  clear hg
  generalize bs l=L at *
  clear hs hbig
  go_enter Tryz.func3,Tryz.ntmps3
  go_wp2_with fail
  refine (HS.out _).mono ?_
  rintro e w1 ⟨h1,hb1⟩
  have h1':∃N,e=.returned (.tuple #[.slice (some ⟨N,0,none⟩) 0 0,.bool false]):=by
   rcases h1 with ⟨h,_⟩ | ⟨_,h⟩
   ·exact absurd h HG.out
   ·exact h
  obtain ⟨N1,rfl⟩:=h1'
  clear h1
  have HB1:=Lib.hid hb1;clear hb1 hB0
  go_wp2_with fail
  refine (HI.out _ HB1.out).mono ?_
  rintro e w2 ⟨h2,hb2⟩
  have h2':e=.returned (.tuple #[.slice none 0 0,.bool false]):=by
   rcases h2 with ⟨h,_⟩ | ⟨_,h⟩
   ·exact absurd h HG.out
   ·exact h
  subst h2'
  clear h2
  have HB2:=Lib.hid (HB1.out.trans (hb2.mono HB1.out.size));clear hb2
  go_wp2_with fail
  refine (eqNodeS_any none (some ⟨N1,0,none⟩) 0 0 0 [] w2 (by omega) Reads.none_ (reads_zero _ _ _ _)).mono ?_
  rintro e w3 ⟨rfl,hb3⟩
  have HB3:=Lib.hid (HB2.out.trans (hb3.mono HB2.out.size));clear hb3 HB2
  go_wp2_with fail
  refine (markNodeS_any none 0 0 w3.heap.size [] w3 (by omega) (World.ownsRow_nil _ _ _ _)).mono ?_
  rintro e w4 ⟨rfl,_,hb4⟩
  have HB4:=Lib.hid (HB3.out.trans (hb4.mono HB3.out.size));clear hb4 HB3
  go_wp2_with fail
  refine (heldNodeS_any none 0 0 w4 (by omega) Reads.none_).mono ?_
  rintro e w5 ⟨rfl,hb5⟩
  have HB5:=Lib.hid (HB4.out.trans (hb5.mono HB4.out.size));clear hb5 HB4
  go_wp2_with fail
  refine (HI.out _ HB5.out).mono ?_
  rintro e w6 ⟨h6,hb6⟩
  have h6':e=.returned (.tuple #[.slice none 0 0,.bool false]):=by
   rcases h6 with ⟨h,_⟩ | ⟨_,h⟩
   ·exact absurd h HG.out
   ·exact h
  subst h6'
  clear h6
  have HB6:=Lib.hid (HB5.out.trans (hb6.mono HB5.out.size));clear hb6 HB5
  go_wp2_with fail
  refine (eqNodeS_any none (some ⟨N1,0,none⟩) 0 0 0 [] w6 (by omega) Reads.none_ (reads_zero _ _ _ _)).mono ?_
  rintro e w7 ⟨rfl,hb7⟩
  have HB7:=Lib.hid (HB6.out.trans (hb7.mono HB6.out.size));clear hb7 HB6
  go_wp2_with fail
  refine (heldNodeS_any none 0 0 w7 (by omega) Reads.none_).mono ?_
  rintro e w8 ⟨rfl,hb8⟩
  have HB8:=Lib.hid (HB7.out.trans (hb8.mono HB7.out.size));clear hb8 HB7
  go_wp2_with fail
  go_ret
  exact ⟨rfl,HB8.out⟩
end
end Go.Proofs.YtammfhheibaeaaaGreatDoor
