/- Draws of marks with a shift. -/
import Derived.Test.YtogbjneldipnpaaMkD2
namespace Go.Proofs.Ytogbjneldipnpaa
open Go.RowKit
attribute [local go_sem ↓] Go.wp_at_zero Go.wp_at_succ

def DrawShiftPost (w : World) (e : Ending) (w' : World) : Prop :=
  ∃ A c n ms x, e = .returned (.tuple #[.slice A n c, .int .i64 x]) ∧ LstM w' w.heap.size A n c ms ∧ (-100001 ≤ x ∧ x ≤ 200000) ∧ Below w.heap.size w w'
theorem blk4 {w : World} {g : Nat} {t : TypeId} {a b c d : Value} (h : Blk w g t #[a, b, c, d]) (i : Int) (h0 : 0 ≤ i) (h3 : i ≤ 3) :
    w.cell? ⟨g, i.toNat, none⟩ = some (if i = 0 then a else if i = 1 then b else if i = 2 then c else d) := by
  have hc : i = 0 ∨ i = 1 ∨ i = 2 ∨ i = 3 := by omega
  rcases hc with rfl | rfl | rfl | rfl <;> exact h.cell _

set_option maxHeartbeats 2000000 in
theorem DrawMarkShift_any (A : Option Addr) (n c : Nat) (w : World) (hm : n ≤ 140737488355328) (hc : n ≤ c) (hb : Bytes w w.heap.size A n) :
    Calls Try.prog 24 #[.slice A n c] w (DrawShiftPost w) := by
  have HB := Lib.hid hb; clear hb
  go_enter Try.func24, Try.ntmps24
  go_wp2_with fail
  refine (l6Open_any A n c w hm hc HB.out).mono ?_
  rintro e w1 ⟨rfl, hR1, hb1⟩
  have HB1 := Lib.hid hb1; have HR1 := Lib.hid hR1; clear hb1 hR1
  have hlt1 := HR1.out.lt
  go_wp2_with fail
  refine (l93Marks_any w.heap.size w.heap.size 0 w1 (by omega) HR1.out).mono ?_
  rintro e w2 ⟨A2, c2, n2, ms, rfl, hL, hR2, hg2⟩
  have HR2 := Lib.hid hR2
  have HG := Lib.hid (below_of_gb HB1.out hg2 HB1.out.size (Nat.le_refl _))
  have HL := Lib.hid hL
  clear hg2 hR2 hL HR1
  go_wp2_with fail
  have hR2lt := HR2.out.lt
  go_region_with (first
    | (go_at_call_of 37 (Value.int IntKind.i64 200); refine (pick_any w.heap.size w.heap.size 14 200 _ (by omega) (by omega) (by omega) HR2.out.drew).mono ?_; rintro e wA ⟨vA, rfl, hvA, hRA, hgA⟩; have jA := hvA.lt (by omega); have sA : w2.heap.size ≤ wA.heap.size := hgA.size; have kA : IntKind.i64.wrap (vA - 20) = vA - 20 := IntWalk.i64_in _ (by omega))
    | (go_at_call_of 37 (Value.int IntKind.i64 9); refine (pick_any w.heap.size w.heap.size 15 9 _ (by omega) (by omega) (by omega) (by first | exact hRA | exact hRA.alloc _)).mono ?_; rintro e wB ⟨vB, rfl, hvB, hRB, hgB⟩; have jB := hvB.lt (by omega);  have uq : IntKind.i64.wrap (vB.tdiv 6) = vB / 6 := IntWalk.i64_quo _ _ (by omega); have lB : vB / 6 = 0 ∨ vB / 6 = 1 := (by omega); first | (have xB : Hid (Blk wB wA.heap.size 3 #[.int .i64 (vA - 20), .int .i64 100000, .int .i64 (-100001), .int .i64 99700]) := (Blk.new wA 3 #[.int .i64 (vA - 20), .int .i64 100000, .int .i64 (-100001), .int .i64 99700]).gb hgB (by omega)) | skip)
    | (go_at_call_of 37 (Value.int IntKind.i64 3); refine (pick_any w.heap.size w.heap.size 16 3 _ (by omega) (by omega) (by omega) (by first | exact hRB | exact hRB.alloc _)).mono ?_; rintro e wC ⟨vC, rfl, hvC, hRC, hgC⟩; have jC := hvC.lt (by omega); have hi : 0 ≤ vB / 6 * (1 + vC) ∧ vB / 6 * (1 + vC) ≤ 3 := (by rcases lB with h | h <;> rw [h] <;> omega); have hi0 := hi.1; have hi3 : vB / 6 * (1 + vC) < 4 := (by omega); have u1 : IntKind.i64.wrap (vB / 6 * (1 + vC)) = vB / 6 * (1 + vC) := IntWalk.i64_in _ (by omega); have u2 : RowKit.wrap64 (vB / 6 * (1 + vC)) = vB / 6 * (1 + vC) := (IntWalk.i64_left _).symm.trans u1; have u3 : IntKind.i64.wrap (1 + vC) = 1 + vC := IntWalk.i64_in _ (by omega); first | (have cC := blk4 (xB.out.gb hgC (by omega)) _ hi.1 hi.2) | (have cC := blk4 ((Blk.new wB 3 #[.int .i64 (vA - 20), .int .i64 100000, .int .i64 (-100001), .int .i64 99700]).gb hgC (by have := hRB.lt; omega)) _ hi.1 hi.2) | (have cC := blk4 (Blk.new wC 3 #[.int .i64 (vA - 20), .int .i64 100000, .int .i64 (-100001), .int .i64 99700]) _ hi.1 hi.2)))
  all_goals
    have HgA := Lib.hid hgA
    have HgB := Lib.hid hgB
    have HgC := Lib.hid hgC
    clear hgA hgB hgC cC hRA hRB hRC u1 u2 u3 uq kA
    go_wp2_with fail
    all_goals
      go_ret2
      have hgA := HgA.out
      have hgB := HgB.out
      have hgC := HgC.out
      refine ⟨A2, c2, n2, ms, _, rfl, ?_, ?_, ?_⟩
      · first
          | exact (HL.out.gb (gb_trans (gb_drew (gb_refl _ _)) (gb_trans (gb_trans (gb_alloc hgA (.cells #[.int .i64 (vA - 20), .int .i64 100000, .int .i64 (-100001), .int .i64 99700] 3)) hgB) hgC)) hlt1).mono HB1.out.size
          | exact (HL.out.gb (gb_trans (gb_drew (gb_refl _ _)) (gb_trans (gb_alloc (gb_trans hgA hgB) (.cells #[.int .i64 (vA - 20), .int .i64 100000, .int .i64 (-100001), .int .i64 99700] 3)) hgC)) hlt1).mono HB1.out.size
          | exact (HL.out.gb (gb_trans (gb_drew (gb_refl _ _)) (gb_alloc (gb_trans (gb_trans hgA hgB) hgC) (.cells #[.int .i64 (vA - 20), .int .i64 100000, .int .i64 (-100001), .int .i64 99700] 3))) hlt1).mono HB1.out.size
      · repeat' split
        all_goals omega
      · first
          | exact below_of_gb HG.out.drew (gb_trans (gb_trans (gb_alloc hgA (.cells #[.int .i64 (vA - 20), .int .i64 100000, .int .i64 (-100001), .int .i64 99700] 3)) hgB) hgC) HG.out.size (Nat.le_refl _)
          | exact below_of_gb HG.out.drew (gb_trans (gb_alloc (gb_trans hgA hgB) (.cells #[.int .i64 (vA - 20), .int .i64 100000, .int .i64 (-100001), .int .i64 99700] 3)) hgC) HG.out.size (Nat.le_refl _)
          | exact below_of_gb HG.out.drew (gb_alloc (gb_trans (gb_trans hgA hgB) hgC) (.cells #[.int .i64 (vA - 20), .int .i64 100000, .int .i64 (-100001), .int .i64 99700] 3)) HG.out.size (Nat.le_refl _)
end Go.Proofs.Ytogbjneldipnpaa
