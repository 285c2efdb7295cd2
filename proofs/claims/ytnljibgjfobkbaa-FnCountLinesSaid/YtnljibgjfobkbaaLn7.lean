/- The counts of lines. -/
import Derived.Test.YtnljibgjfobkbaaLn6
namespace Go.Proofs.Ytnljibgjfobkbaa
open Go.RowKit
attribute [local go_sem ↓] Go.wp_at_zero Go.wp_at_succ

def clF (ns : List T3) : Int := if svB ns = true then ((allL ns ns.length).length : Int) else -1

set_option maxHeartbeats 1000000 in
theorem specCountLines_any (A : Option Addr) (n c : Nat) (ns : List T3) (w : World) (hn : n ≤ 1048576) (hns : ns.length = n) (hr : Reads w w.heap.size 3 A n (ncells ns)) :
    Calls Try.prog 6 #[.slice A n c] w fun e w' => e = .returned (.int .i64 (clF ns)) ∧ Below w.heap.size w w' := by
  have HR := Lib.hid (fun W (hB : Below w.heap.size w W) => (hr.below hB).more hB.size)
  have HV := Lib.hid (fun W (hB : Below w.heap.size w W) => specSchemeValid_any A n c ns W hn hns (HR.out W hB))
  have HB0 := Lib.hid (Below.refl w.heap.size w)
  cases hv : svB ns
  · have he : clF ns = -1 := by unfold clF; rw [hv]; simp
    rw [he]; rw [hv] at HV; clear hv he hr
    go_enter Try.func6, Try.ntmps6
    go_wp2_with fail
    refine (HV.out _ HB0.out).mono ?_
    rintro e w1 ⟨rfl, hb1⟩
    have HB1 := Lib.hid hb1; clear hb1
    go_wp2_with fail
    go_ret
    exact ⟨rfl, HB1.out⟩
  have he : clF ns = ((allL ns n).length : Int) := by unfold clF; rw [if_pos hv, hns]
  have HE := Lib.hid he; clear he
  have HL := Lib.hid (fun W (hB : Below w.heap.size w W) => specSchemeLines_any A n c ns W hn hns hv (HR.out W hB))
  rw [hv] at HV
  clear hv hr
  go_enter Try.func6, Try.ntmps6
  go_wp2_with fail
  refine (HV.out _ HB0.out).mono ?_
  rintro e w1 ⟨rfl, hb1⟩
  have HB1 := Lib.hid hb1; clear hb1
  go_wp2_with fail
  refine (HL.out _ HB1.out).mono ?_
  rintro e w2 ⟨⟨g, c9, rfl⟩, hb2⟩
  have HB2 := Lib.hid (HB1.out.trans (hb2.mono HB1.out.size)); clear hb2
  go_wp2_with fail
  go_ret
  exact ⟨ret_int HE.out.symm, HB2.out⟩

set_option maxHeartbeats 1000000 in
theorem implCountLines_any (A : Option Addr) (n c : Nat) (ns : List T3) (w : World) (hn : n ≤ 1048576) (hnc : n ≤ c) (hns : ns.length = n) (hr : Reads w w.heap.size 3 A n (ncells ns)) :
    Calls Try.prog 8 #[.slice A n c] w fun e w' => e = .returned (.int .i64 (clF ns)) ∧ Below w.heap.size w w' := by
  have HR := Lib.hid (fun W (hB : Below w.heap.size w W) => (hr.below hB).more hB.size)
  have HV := Lib.hid (fun W (hB : Below w.heap.size w W) => implSchemeValid_any A n c ns W hn hns (HR.out W hB))
  have HB0 := Lib.hid (Below.refl w.heap.size w)
  cases hv : svB ns
  · have he : clF ns = -1 := by unfold clF; rw [hv]; simp
    rw [he]; rw [hv] at HV; clear hv he hr
    go_enter Try.func8, Try.ntmps8
    go_wp2_with fail
    refine (HV.out _ HB0.out).mono ?_
    rintro e w1 ⟨rfl, hb1⟩
    have HB1 := Lib.hid hb1; clear hb1
    go_wp2_with fail
    go_ret
    exact ⟨rfl, HB1.out⟩
  have he : clF ns = ((allL ns n).length : Int) := by unfold clF; rw [if_pos hv, hns]
  have HE := Lib.hid he; clear he
  have HL := Lib.hid (fun W (hB : Below w.heap.size w W) => implSchemeLines_any A n c ns W hn hnc hns hv (HR.out W hB))
  rw [hv] at HV
  clear hv hr
  go_enter Try.func8, Try.ntmps8
  go_wp2_with fail
  refine (HV.out _ HB0.out).mono ?_
  rintro e w1 ⟨rfl, hb1⟩
  have HB1 := Lib.hid hb1; clear hb1
  go_wp2_with fail
  refine (HL.out _ HB1.out).mono ?_
  rintro e w2 ⟨⟨A9, q, c9, ls, rfl, rfl, _, _, _, _⟩, hb2⟩
  have HB2 := Lib.hid (HB1.out.trans (hb2.mono HB1.out.size)); clear hb2
  go_wp2_with fail
  go_ret
  exact ⟨ret_int HE.out.symm, HB2.out⟩
end Go.Proofs.Ytnljibgjfobkbaa
