/- Draws of the numbers of two levels. -/
import Derived.Test.YtaaiklhkhgennaaSer2
import Derived.Test.YtaaiklhkhgennaaOpen
import Derived.Test.YtaaiklhkhgennaaWords2
namespace Go.Proofs.Ytaaiklhkhgennaa
open Go.RowKit
attribute [local go_sem ↓] Go.wp_at_zero Go.wp_at_succ

def PairPost (T : TypeId) (w : World) (B R N : Nat) (e : Ending) (w' : World) : Prop :=
  ∃ n m : Int, e = .returned (.tuple #[.int .i64 n, .int .i64 m]) ∧ ((0 ≤ n ∧ n ≤ 61) ∧ (0 ≤ m ∧ m ≤ 61)) ∧ Rd T w' B R N ∧ w.grownBy w' (some R)

set_option maxHeartbeats 2000000 in
theorem l93Pair_any (B R N : Nat) (w : World) (hN : N ≤ 800000) (hR : Rd 61 w B R N) :
    Calls Try.prog 36 #[.pointer (some ⟨R, 0, none⟩)] w (PairPost 61 w B R (N + 4)) := by
  have hlt := hR.lt
  have hle := hR.le
  have HR0 := Lib.hid hR; clear hR
  go_enter Try.func36, Try.ntmps36
  go_wp2_with fail
  refine (pick_any B R N 12 _ (by omega) (by omega) (by omega) HR0.out).mono ?_
  rintro e w1 ⟨v1, rfl, hv1, hR1, hg1⟩
  have b1 := hv1.lt (by omega)
  have HR1 := Lib.hid hR1; have HG := Lib.hid hg1; clear hR1 hv1 HR0 hg1
  go_wp2_with fail
  refine (pick_any B R _ 20 _ (by omega) (by omega) (by omega) HR1.out).mono ?_
  rintro e w2 ⟨v2, rfl, hv2, hR2, hg2⟩
  have b2 := hv2.lt (by omega)
  have HR2 := Lib.hid hR2; clear hR2 hv2 HR1
  replace HG := Lib.hid (gb_trans HG.out hg2); clear hg2
  go_wp2_with fail
  refine (pick_any B R _ 24 _ (by omega) (by omega) (by omega) HR2.out).mono ?_
  rintro e w3 ⟨v3, rfl, hv3, hR3, hg3⟩
  have HR3 := Lib.hid hR3; clear hR3 hv3 HR2
  replace HG := Lib.hid (gb_trans HG.out hg3); clear hg3
  have hs3 : w.heap.size ≤ w3.heap.size := HG.out.size
  by_cases c0 : v3 = 0
  · subst c0
    have HR4 := Lib.hid (HR3.out.alloc (.cells #[.int .i64 0, .int .i64 (1 + v1 + 1 + v2)] 3))
    have HX := Lib.hid (Blk.new w3 3 #[.int .i64 0, .int .i64 (1 + v1 + 1 + v2)])
    go_wp2_with fail
    refine (pick_any B R _ 2 _ (by omega) (by omega) (by omega) HR4.out).mono ?_
    rintro e w4 ⟨v4, rfl, hv4, hR5, hg5⟩
    have b4 := hv4.lt (by omega)
    obtain ⟨x1, x2, _, _⟩ := blk2 (HX.out.gb hg5 (by omega))
    have HG5 := Lib.hid (gb_trans (gb_alloc HG.out _) hg5)
    have HR5 := Lib.hid (hR5.more (N' := N + 4) (by omega))
    clear hg5 hR5 hv4 HX HR4
    have h4 : v4 = 0 ∨ v4 = 1 := by omega
    rcases h4 with rfl | rfl
    all_goals
      go_wp2_with fail
      go_ret2
      exact ⟨_, _, rfl, by omega, HR5.out, HG5.out⟩
  by_cases c1 : v3 = 1
  · subst c1
    have HR4 := Lib.hid (HR3.out.alloc (.cells #[.int .i64 60, .int .i64 61] 3))
    have HX := Lib.hid (Blk.new w3 3 #[.int .i64 60, .int .i64 61])
    go_wp2_with fail
    refine (pick_any B R _ 2 _ (by omega) (by omega) (by omega) HR4.out).mono ?_
    rintro e w4 ⟨v4, rfl, hv4, hR5, hg5⟩
    have b4 := hv4.lt (by omega)
    obtain ⟨x1, x2, _, _⟩ := blk2 (HX.out.gb hg5 (by omega))
    have HG5 := Lib.hid (gb_trans (gb_alloc HG.out _) hg5)
    have HR5 := Lib.hid (hR5.more (N' := N + 4) (by omega))
    clear hg5 hR5 hv4 HX HR4
    have h4 : v4 = 0 ∨ v4 = 1 := by omega
    rcases h4 with rfl | rfl
    all_goals
      go_wp2_with fail
      go_ret2
      exact ⟨_, _, rfl, by omega, HR5.out, HG5.out⟩
  · have d0 : (v3 == 0) = false := by simpa using c0
    have d1 : (v3 == 1) = false := by simpa using c1
    go_wp2_with fail
    go_ret2
    exact ⟨_, _, rfl, by omega, HR3.out.more (by omega), HG.out⟩

def DrawPairPost (w : World) (e : Ending) (w' : World) : Prop :=
  ∃ n m : Int, e = .returned (.tuple #[.int .i64 n, .int .i64 m]) ∧ ((0 ≤ n ∧ n ≤ 61) ∧ (0 ≤ m ∧ m ≤ 61)) ∧ Below w.heap.size w w'

set_option maxHeartbeats 1000000 in
theorem DrawSeriesLine_any (A : Option Addr) (n c : Nat) (w : World) (hm : n ≤ 140737488355328) (hc : n ≤ c) (hb : Bytes w w.heap.size A n) :
    Calls Try.prog 21 #[.slice A n c] w (DrawPairPost w) := by
  have HB := Lib.hid hb; clear hb
  go_enter Try.func21, Try.ntmps21
  go_wp2_with fail
  refine (l6Open_any A n c w hm hc HB.out).mono ?_
  rintro e w1 ⟨rfl, hR1, hb1⟩
  have HB1 := Lib.hid hb1; have HR1 := Lib.hid hR1; clear hb1 hR1
  go_wp2_with fail
  refine (l93Pair_any w.heap.size w.heap.size 0 w1 (by omega) HR1.out).mono ?_
  rintro e w2 ⟨n2, m2, rfl, hbd, hR2, hg2⟩
  have HG := Lib.hid (below_of_gb HB1.out hg2 HB1.out.size (Nat.le_refl _))
  clear hg2 hR2
  go_wp2_with fail
  go_ret2
  exact ⟨n2, m2, rfl, hbd, HG.out⟩
end Go.Proofs.Ytaaiklhkhgennaa
