/- Blends: the draw of numbers and a width. -/
import Derived.Test.YtmmnkdjibdlcjaaBk7
namespace Go.Proofs.Ytmmnkdjibdlcjaa
open Go.RowKit
attribute [local go_sem ↓] Go.wp_at_zero Go.wp_at_succ

def fj (j : Nat) : Int := if j = 0 then -1 else 200000
def P2Rest (T : TypeId) (w w' : World) (B R N : Nat) : Prop := Rd T w' B R (N + 1) ∧ w.grownBy w' (some R)
theorem pick2_any (B R N L : Nat) (w : World) (hN : N ≤ 900000) (hR : Rd 55 w B R N) (hL : L ≠ R) :
    Calls Try.prog 23 #[.pointer (some ⟨R, 0, none⟩), .int .i64 2] w fun e w' => ∃ j : Nat, e = .returned (.int .i64 j) ∧ (0 : Int) ≤ (j : Int) ∧ (j : Int) < 2 ∧
      (Blk w L 3 #[.int .i64 (-1), .int .i64 200000] → w'.cell? ⟨L, j, none⟩ = some (.int .i64 (fj j))) ∧ (w'.alloc (.cells #[.int .i64 (-1), .int .i64 200000] 3)).cell? ⟨w'.heap.size, j, none⟩ = some (.int .i64 (fj j)) ∧ Hid (P2Rest 55 w w' B R N) := by
  refine (pick_any B R N 2 w (by omega) (by omega) (by omega) hR).mono ?_
  rintro e w' ⟨v, rfl, hv, hR', hg⟩
  obtain ⟨v0, v1⟩ := hv.lt (by omega)
  obtain ⟨j, rfl⟩ := Int.eq_ofNat_of_zero_le v0
  have hc : (#[Value.int .i64 (-1), Value.int .i64 200000] : Array Value)[j]? = some (.int .i64 (fj j)) := by
    have : j = 0 ∨ j = 1 := by omega
    rcases this with rfl | rfl <;> rfl
  exact ⟨j, rfl, v0, v1, fun hb => by rw [(hb.gb hg hL).cell]; exact hc, by rw [(Blk.new w' _ _).cell]; exact hc, hR', hg⟩

theorem gb_undrew {a w : World} {row : Option Nat} (h : a.drew.grownBy w row) : a.grownBy w row := ⟨h.os, h.tape, h.output, h.size, h.block⟩
def DrawBlPost (w : World) (e : Ending) (w' : World) : Prop :=
  ∃ (A : Option Addr) (c n : Nat) (xs : List Int) (wd : Int), e = .returned (.tuple #[.slice A n c, .int .i64 wd]) ∧ LstI w' w.heap.size A n c xs ∧ n ≤ 8 ∧ InB xs 3000 ∧ (-1 ≤ wd ∧ wd ≤ 200000) ∧ Below w.heap.size w w'

set_option maxHeartbeats 2000000 in
theorem DrawBlendsOf_any (A : Option Addr) (n c : Nat) (w : World) (hm : n ≤ 140737488355328) (hc : n ≤ c) (hb : Bytes w w.heap.size A n) :
    Calls Try.prog 8 #[.slice A n c] w (DrawBlPost w) := by
  have HB := Lib.hid hb; clear hb
  go_enter Try.func8, Try.ntmps8
  go_wp2_with fail
  refine (l6Open_any A n c w hm hc HB.out).mono ?_
  rintro e w1 ⟨rfl, hR1, hb1⟩
  have HB1 := Lib.hid hb1; have HR1 := Lib.hid hR1; clear hb1 hR1
  go_wp2_with fail
  refine (l93Numbers_any w.heap.size w.heap.size 0 w1 (by omega) HR1.out).mono ?_
  rintro e w2 ⟨A2, c2, n2, xs, rfl, hL, h8, hin, hR2, hg2⟩
  have hlt1 : w.heap.size < w1.heap.size := HR1.out.lt
  have HG := Lib.hid (below_of_gb HB1.out hg2 HB1.out.size (Nat.le_refl _))
  have HL := Lib.hid hL
  have HI := Lib.hid hin
  have HR2 := Lib.hid hR2
  clear hg2 hR2 hL hin
  go_wp2_with fail
  refine (pick_any w.heap.size w.heap.size _ 24 w2 (by omega) (by omega) (by omega) HR2.out).mono ?_
  rintro e w3 ⟨v, rfl, hv3, hR3, hg3⟩
  have HG3 := Lib.hid (below_of_gb HG.out hg3 HG.out.size (Nat.le_refl _))
  have HL3 := Lib.hid (HL.out.gb hg3 hlt1)
  have HR3 := Lib.hid hR3
  have hlt3 := hR3.lt
  clear hg3 hR3 hv3 HG HL HR2
  by_cases h0 : v = 0
  · subst h0
    go_wp2_with fail
    have HRa := Lib.hid (HR3.out.alloc (.cells #[.int .i64 (-1), .int .i64 200000] 3))
    go_region_with ((go_at_call 23; refine (pick2_any w.heap.size w.heap.size 21 w3.heap.size _ (by omega) (by first | exact HR3.out.drew | exact HRa.out.drew) (by omega)).mono ?_; rintro e w4 ⟨j, rfl, j1, j2, himp, z2, HREST⟩; (try have z1 := himp (Blk.drew (Blk.new w3 _ _))); clear himp))
    all_goals
      have hfj : -1 ≤ fj j ∧ fj j ≤ 200000 := by unfold fj; split <;> omega
      have hal : Below w3.heap.size w3 (w3.alloc (.cells #[.int .i64 (-1), .int .i64 200000] 3)) := (Below.refl _ _).alloc (Nat.le_refl _) _
      obtain ⟨_, hg4⟩ := HREST.out
      replace hg4 := gb_undrew hg4
      clear HREST z2
      go_wp2_with fail
      go_ret2
    · exact ⟨A2, c2, n2, xs, fj j, rfl, ((LstI.gb (HL3.out.below hal) hg4 hlt1).mono HB1.out.size), h8, HI.out, hfj, below_of_gb (HG3.out.trans (hal.mono HG3.out.size)) hg4 (by have := HG3.out.size; simp; omega) (Nat.le_refl _)⟩
    · have hl4 := LstI.gb HL3.out hg4 hlt1
      have hb4 := below_of_gb HG3.out hg4 HG3.out.size (Nat.le_refl _)
      have hal4 : Below w4.heap.size w4 (w4.alloc (.cells #[.int .i64 (-1), .int .i64 200000] 3)) := (Below.refl _ _).alloc (Nat.le_refl _) _
      exact ⟨A2, c2, n2, xs, fj j, rfl, (hl4.below hal4).mono HB1.out.size, h8, HI.out, hfj, hb4.trans (hal4.mono hb4.size)⟩
  · have e1 : (v == 0) = false := by simpa using h0
    go_wp2_with fail
    refine (pick_any w.heap.size w.heap.size _ 14 w3 (by omega) (by omega) (by omega) HR3.out).mono ?_
    rintro e w4 ⟨v4, rfl, hv4, hR4, hg4⟩
    have b4 := hv4.lt (by omega)
    have HG4 := Lib.hid (below_of_gb HG3.out hg4 HG3.out.size (Nat.le_refl _))
    have HL4 := Lib.hid ((HL3.out.gb hg4 hlt1).mono HB1.out.size)
    clear hg4 hR4 hv4
    go_wp2_with fail
    go_ret2
    exact ⟨A2, c2, n2, xs, v4, rfl, HL4.out, h8, HI.out, by omega, HG4.out⟩
end Go.Proofs.Ytmmnkdjibdlcjaa
