/- The draw of a shell; whether two lists of terms are the same. -/
import Derived.Test.YtjglgcgkmfbdpaaDoorMicP
import Derived.Test.YtjglgcgkmfbdpaaDoorOpen
import Derived.Test.YtjglgcgkmfbdpaaDoorAfter
import Derived.Test.YtjglgcgkmfbdpaaDoorT1
import Derived.Deep.RegionWith
namespace Go.Proofs.YtjglgcgkmfbdpaaDoor
open Go.RowKit

theorem below_drew3 {B : Nat} {a w : World} (h : Below B a w) : Below B a w.drew := ⟨h.os, h.tape, h.output, h.size, h.block⟩
set_option maxHeartbeats 1000000 in
theorem sameTerms_any (A A' : Option Addr) (n c c' : Nat) (ts : List T2) (w : World) (hn : n ≤ 1048576) (hr : Reads w w.heap.size 2 A n (tcells ts)) (hr' : Reads w w.heap.size 2 A' n (tcells ts)) :
    Calls Tryd.prog 7 #[.slice A n c, .slice A' n c'] w fun e w' => e = .returned (.bool true) ∧ Below w.heap.size w w' := by
  have HR := Lib.hid hr; clear hr
  have HR' := Lib.hid hr'; clear hr'
  have hB0 := Below.refl w.heap.size w
  go_enter Tryd.func7, Tryd.ntmps7
  go_wp2_with fail
  go_loopw [5] (fun i wr => ∃ (k : Nat), k ≤ n ∧ i = .int .i64 k ∧ Hid (Below w.heap.size w wr)) (fun i _ => n - (RowKit.intOf i).toNat)
  case atStart => exact ⟨0, Nat.zero_le _, rfl, hB0⟩
  case round =>
    clear hB0
    obtain ⟨k, hk, rfl, HB⟩ := hrel
    by_cases hlt : k < n
    · obtain ⟨b, off, x, y, rfl, hb, r1, r2, hg, _⟩ := (HR.out.below HB.out).term hlt
      obtain ⟨b', off', x', y', rfl, hb', q1, q2, hg', _⟩ := (HR'.out.below HB.out).term hlt
      have e := hg.out.symm.trans hg'.out
      injection e with e
      injection e with e1 e2
      subst e1 e2
      clear hg hg'
      have i1 : (k : Int) < (n : Int) := by omega
      have i0 : (0 : Int) ≤ (k : Int) := by omega
      go_wp2_with fail
      go_region
      go_wp2_with fail
      go_roundw
      case rel => exact ⟨k + 1, by omega, by go_num, below_drew3 HB.out⟩
      case measure => simp [RowKit.intOf]; omega
    · obtain rfl : k = n := by omega
      go_wp2_with fail
      go_ret
      exact ⟨rfl, HB.out⟩

/-- The numbers of a shell. -/
def FillPost (w : World) (e : Ending) (w' : World) : Prop :=
  ∃ l n : Int, e = .returned (.tuple #[.int .i64 l, .int .i64 n]) ∧ (-1 ≤ l ∧ l ≤ 3) ∧ (-1 ≤ n ∧ n ≤ 15) ∧ Below w.heap.size w w'
def fjm (x : Int) (j : Nat) : Int := if j = 0 then -1 else x
def P2R (T : TypeId) (w w' : World) (B R N : Nat) : Prop := Rd T w' B R (N + 1) ∧ w.grownBy w' (some R)
theorem pick2_any (B R N L : Nat) (x : Int) (w : World) (hN : N ≤ 900000) (hR : Rd 53 w B R N) (hL : L ≠ R) :
    Calls Tryd.prog 20 #[.pointer (some ⟨R, 0, none⟩), .int .i64 2] w fun e w' => ∃ j : Nat, e = .returned (.int .i64 j) ∧ (0 : Int) ≤ (j : Int) ∧ (j : Int) < 2 ∧
      (Blk w L 3 #[.int .i64 (-1), .int .i64 x] → w'.cell? ⟨L, j, none⟩ = some (.int .i64 (fjm x j))) ∧ (w'.alloc (.cells #[.int .i64 (-1), .int .i64 x] 3)).cell? ⟨w'.heap.size, j, none⟩ = some (.int .i64 (fjm x j)) ∧ Hid (P2R 53 w w' B R N) := by
  refine (pick_any B R N 2 w (by omega) (by omega) (by omega) hR).mono ?_
  rintro e w' ⟨v, rfl, hv, hR', hg⟩
  obtain ⟨v0, v1⟩ := hv.lt (by omega)
  obtain ⟨j, rfl⟩ := Int.eq_ofNat_of_zero_le v0
  have hc : (#[Value.int .i64 (-1), Value.int .i64 x] : Array Value)[j]? = some (.int .i64 (fjm x j)) := by
    have : j = 0 ∨ j = 1 := by omega
    rcases this with rfl | rfl <;> rfl
  exact ⟨j, rfl, v0, v1, fun hb => by rw [(hb.gb hg hL).cell]; exact hc, by rw [(Blk.new w' _ _).cell]; exact hc, hR', hg⟩
theorem gb_undrew {a w : World} {row : Option Nat} (h : a.drew.grownBy w row) : a.grownBy w row := ⟨h.os, h.tape, h.output, h.size, h.block⟩

set_option maxHeartbeats 2000000 in
theorem DrawTermsOf_any (A : Option Addr) (n c : Nat) (w : World) (hm : n ≤ 140737488355328) (hc : n ≤ c) (hb : Bytes w w.heap.size A n) :
    Calls Tryd.prog 4 #[.slice A n c] w (FillPost w) := by
  have HB := Lib.hid hb; clear hb
  go_enter Tryd.func4, Tryd.ntmps4
  go_wp2_with fail
  refine (l6Open_any A n c w hm hc HB.out).mono ?_
  rintro e w1 ⟨rfl, hR1, hb1⟩
  have HF : Hid (Calls Tryd.prog 10 #[.pointer (some ⟨w.heap.size, 0, none⟩)] w1 (FillPost w)) := by
    have HB1 := Lib.hid hb1; have HR1 := Lib.hid hR1; clear hb1 hR1 HB
    unfold Hid
    go_enter Tryd.func10, Tryd.ntmps10
    go_wp2_with fail
    refine (pick_any w.heap.size w.heap.size _ 3 _ (by omega) (by omega) (by omega) HR1.out).mono ?_
    rintro e w2 ⟨l, rfl, hv2, hR2, hg2⟩
    have b2 := hv2.lt (by omega)
    have HB2 := Lib.hid (below_of_gb HB1.out hg2 HB1.out.size (Nat.le_refl _)); have HR2 := Lib.hid hR2
    clear hv2 hR2 hg2 HB1 HR1
    go_wp2_with fail
    refine (pick_any w.heap.size w.heap.size _ (4 * l + 3) _ (by omega) (by omega) (by omega) HR2.out).mono ?_
    rintro e w3 ⟨n, rfl, hv3, hR3, hg3⟩
    have b3 := hv3.lt (by omega)
    have HB3 := Lib.hid (below_of_gb HB2.out hg3 HB2.out.size (Nat.le_refl _)); have HR3 := Lib.hid hR3
    clear hv3 hR3 hg3 HB2 HR2
    go_wp2_with fail
    refine (pick_any w.heap.size w.heap.size _ 30 _ (by omega) (by omega) (by omega) HR3.out).mono ?_
    rintro e w4 ⟨v, rfl, hv4, hR4, hg4⟩
    have b4 := hv4.lt (by omega)
    have HB4 := Lib.hid (below_of_gb HB3.out hg4 HB3.out.size (Nat.le_refl _)); have HR4 := Lib.hid hR4
    clear hv4 hR4 hg4 HB3 HR3
    have hlt4 := HR4.out.lt
    by_cases h0 : v = 0
    · subst h0
      have HRa := Lib.hid (HR4.out.alloc (.cells #[.int .i64 (-1), .int .i64 3] 3))
      have HBa := Lib.hid (HB4.out.alloc HB4.out.size (.cells #[.int .i64 (-1), .int .i64 3] 3))
      go_wp2_with fail
      refine (pick2_any w.heap.size w.heap.size _ w4.heap.size 3 _ (by omega) HRa.out (by omega)).mono ?_
      rintro e w5 ⟨j, rfl, j1, j2, himp, z2, HREST⟩
      have z1 := himp (Blk.new w4 _ _)
      have HB5 := Lib.hid (below_of_gb HBa.out HREST.out.2 HBa.out.size (Nat.le_refl _))
      have hfj : -1 ≤ fjm 3 j ∧ fjm 3 j ≤ 3 := by unfold fjm; split <;> omega
      clear himp z2 HREST
      go_wp2_with fail
      go_ret2
      exact ⟨fjm 3 j, n, rfl, hfj, by omega, HB5.out⟩
    have e0 : (v == 0) = false := by simpa using h0
    by_cases h1 : v = 1
    · subst h1
      have u1 : IntKind.i64.wrap (4 * l) = 4 * l := IntWalk.i64_in _ (by omega)
      have u2 : IntKind.i64.wrap (4 * l + 3) = 4 * l + 3 := IntWalk.i64_in _ (by omega)
      have HRa := Lib.hid (HR4.out.alloc (.cells #[.int .i64 (-1), .int .i64 (4 * l + 3)] 3))
      go_wp2_with fail
      go_region_with ((go_at_call 20; refine (pick2_any w.heap.size w.heap.size 100 w4.heap.size (4 * l + 3) _ (by omega) (by first | exact (HR4.out.more (by omega)).drew | exact (HRa.out.more (by omega)).drew) (by omega)).mono ?_; rintro e w5 ⟨j, rfl, j1, j2, himp, z2, HREST⟩; (try have z1 := himp (Blk.drew (Blk.new w4 _ _))); clear himp))
      all_goals
        have hfj : -1 ≤ fjm (4 * l + 3) j ∧ fjm (4 * l + 3) j ≤ 15 := by unfold fjm; split <;> omega
        have hal : Below w4.heap.size w4 (w4.alloc (.cells #[.int .i64 (-1), .int .i64 (4 * l + 3)] 3)) := (Below.refl _ _).alloc (Nat.le_refl _) _
        obtain ⟨_, hg5⟩ := HREST.out
        replace hg5 := gb_undrew hg5
        clear HREST z2
        go_wp2_with fail
        go_ret2
      · exact ⟨l, fjm (4 * l + 3) j, rfl, by omega, hfj, below_of_gb (HB4.out.trans (hal.mono HB4.out.size)) hg5 (by have := HB4.out.size; simp; omega) (Nat.le_refl _)⟩
      · have hb5 := below_of_gb HB4.out hg5 HB4.out.size (Nat.le_refl _)
        have hal5 : Below w5.heap.size w5 (w5.alloc (.cells #[.int .i64 (-1), .int .i64 (4 * l + 3)] 3)) := (Below.refl _ _).alloc (Nat.le_refl _) _
        exact ⟨l, fjm (4 * l + 3) j, rfl, by omega, hfj, hb5.trans (hal5.mono hb5.size)⟩
    have e1 : (v == 1) = false := by simpa using h1
    go_wp2_with fail
    go_ret2
    exact ⟨l, n, rfl, by omega, by omega, HB4.out⟩
  clear hR1 hb1
  go_wp2_with fail
  refine HF.out.mono ?_
  rintro e w2 ⟨l, m, rfl, hl, hm2, hb⟩
  have HBF := Lib.hid hb; clear hb HF
  go_wp2_with fail
  go_ret2
  exact ⟨l, m, rfl, hl, hm2, HBF.out⟩
end Go.Proofs.YtjglgcgkmfbdpaaDoor
