/- The walk of the law FnExactCountLines. -/
import Derived.Test.YtnljibgjfobkbaaLn7
import Derived.Test.YtnljibgjfobkbaaSc4
namespace Go.Proofs.Ytnljibgjfobkbaa
open Go.RowKit
attribute [local go_sem ↓] Go.wp_at_zero Go.wp_at_succ

set_option maxHeartbeats 1000000 in
theorem fnExactCountLines_walk (A : Option Addr) (n c : Nat) (ns : List T3) (w : World) (hn : n ≤ maxLen) (_ : n ≤ c) (hts : ns.length = n) (hr : Reads w w.heap.size 3 A n (ncells ns)) :
    Calls Try.prog 3 #[.slice A n c] w fun e w' => e = .returned (.bool true) ∧ Below w.heap.size w w' := by
  unfold maxLen at hn
  have HR := Lib.hid hr; clear hr
  have HT := Lib.hid hts; clear hts
  have hB0 := Below.refl w.heap.size w
  have hsz := szNodeS_any A n c w (by omega)
  by_cases h : 1048576 < n
  · rw [if_neg (by omega)] at hsz
    have HSZ := Lib.hid hsz; clear hsz
    go_enter Try.func3, Try.ntmps3
    go_wp2_with fail
    refine HSZ.out.mono ?_
    rintro e w1 ⟨rfl, rfl⟩
    go_wp2_with fail
    go_ret
    exact ⟨rfl, hB0⟩
  rw [if_pos (by omega)] at hsz
  have HSZ := Lib.hid hsz; clear hsz hB0
  go_enter Try.func3, Try.ntmps3
  go_wp2_with fail
  refine HSZ.out.mono ?_
  rintro e w1 ⟨rfl, rfl⟩
  go_wp2_with fail
  refine (toNodeS_any A n c ns w (by omega) HT.out HR.out).mono ?_
  rintro e w1 ⟨⟨g1, rfl, hr1⟩, hb1⟩
  have HR1 := Lib.hid hr1; have HB1 := Lib.hid hb1; clear hr1 hb1
  go_wp2_with fail
  refine (specCountLines_any _ n n ns w1 (by omega) HT.out HR1.out).mono ?_
  rintro e w1b ⟨rfl, hb1b⟩
  have HIM := Lib.hid (fun A' W hr => implCountLines_any A' n n ns W (by omega) (Nat.le_refl _) HT.out hr)
  generalize clF ns = r at *
  replace HB1 := Lib.hid (HB1.out.trans (hb1b.mono HB1.out.size)); clear hb1b HR1
  go_wp2_with fail
  refine (toNodeS_any A n c ns w1b (by omega) HT.out ((HR.out.below HB1.out).more HB1.out.size)).mono ?_
  rintro e w2 ⟨⟨g2, rfl, hr2⟩, hb2⟩
  have HR2 := Lib.hid hr2
  have HB2 := Lib.hid (HB1.out.trans (hb2.mono HB1.out.size)); clear hr2 hb2 HB1
  go_wp2_with fail
  refine (HIM.out _ w2 HR2.out).mono ?_
  rintro e w3 ⟨rfl, hb3⟩
  have HR3 := Lib.hid ((HR2.out.below hb3).more hb3.size)
  have HB3 := Lib.hid (HB2.out.trans (hb3.mono HB2.out.size)); clear hb3 HR2 HB2
  go_wp2_with fail
  refine (toNodeS_any A n c ns w3 (by omega) HT.out ((HR.out.below HB3.out).more HB3.out.size)).mono ?_
  rintro e w4 ⟨⟨g4, rfl, hr4⟩, hb4⟩
  have HR4 := Lib.hid hr4
  have HR3' := Lib.hid ((HR3.out.below hb4).more hb4.size)
  have HB4 := Lib.hid (HB3.out.trans (hb4.mono HB3.out.size)); clear hr4 hb4 HR3 HB3
  go_wp2_with fail
  refine (eqNodeS_any _ _ n n n ns w4 (by omega) HR3'.out HR4.out).mono ?_
  rintro e w5 ⟨rfl, hb5⟩
  have HB5 := Lib.hid (HB4.out.trans (hb5.mono HB4.out.size)); clear hb5 HB4
  go_wp2_with fail
  go_ret
  exact ⟨rfl, HB5.out⟩
end Go.Proofs.Ytnljibgjfobkbaa
