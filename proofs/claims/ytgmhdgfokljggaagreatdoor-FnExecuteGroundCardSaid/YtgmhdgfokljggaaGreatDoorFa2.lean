/- The factor of a level: both sides. -/
import Derived.Test.YtgmhdgfokljggaaGreatDoorFa1
namespace Go.Proofs.YtgmhdgfokljggaaGreatDoor
open Go.RowKit
attribute [local go_sem ↓] Go.wp_at_zero Go.wp_at_succ

theorem ratOf_no {n d : Int} (h : (ratOf n d).2 = false) : ratOf n d = ((0, 0), false) := by
  unfold ratOf mkB at *
  split at h
  · rename_i h1; rw [if_pos h1]
  · rename_i h1
    rw [if_neg h1]
    split at h
    · cases h
    · rename_i h2; rw [if_neg h2]
theorem facR_no {t : T2} {j : Int} (h : (facR t j).2 = false) : facR t j = ((0, 0), false) := by
  unfold facR at *
  split at h
  · rename_i h1; rw [if_pos h1]; exact ratOf_no h
  · rename_i h1; rw [if_neg h1]

set_option maxHeartbeats 2000000 in
theorem FactorOf_any (t : T2) (j : Int) (w : World) (hE : Ers w) :
    Calls Tryz.prog 23 #[.agg #[.int .i64 t.1, .int .i64 t.2, .int .i64 j]] w fun e w' => e = .returned (okV (facR t j)) ∧ Below w.heap.size w w' := by
  have HB := Lib.hid (bel_alloc (bel_alloc (Below.refl w.heap.size w) (.cells #[.int .i64 t.1, .int .i64 t.2, .int .i64 j] 31)) (.cells #[.int .i64 0, .int .i64 0] 45))
  have hy := Blk.new (w.alloc (.cells #[.int .i64 t.1, .int .i64 t.2, .int .i64 j] 31)) 45 #[.int .i64 0, .int .i64 0]
  rw [World.size_alloc] at hy
  have HY := Lib.hid hy; clear hy
  have HF := Lib.hid (factorOf_any t j _ (hE.on HB.out)); clear hE
  have HNO := Lib.hid (facR_no (t := t) (j := j))
  obtain ⟨r, hr⟩ : ∃ r, facR t j = r := ⟨_, rfl⟩
  rw [hr] at HF HNO ⊢
  clear hr
  obtain ⟨s, l⟩ := t
  simp only at *
  go_enter Tryz.func23, Tryz.ntmps23
  go_wp2_with fail
  refine HF.out.mono ?_
  rintro e w1 ⟨he, hb1⟩
  obtain ⟨⟨a, b⟩, ok⟩ := r
  simp only at he
  have HB1 := Lib.hid (bel_sub HB.out hb1)
  have HY1 := Lib.hid (HY.out.sub hb1)
  have hlt := HY1.out.lt
  clear hb1
  cases ok
  · rw [if_neg (by simp)] at he
    obtain ⟨te, pe, rfl⟩ := he
    have h0 := HNO.out rfl
    injection h0 with h0 _
    injection h0 with ha hb
    subst ha hb
    unfold ratV
    obtain ⟨y1, y2, f1, f2⟩ := blk2 HY1.out
    have HZ1 := Lib.hid (((HY1.out.set 0 (.int .i64 0)).set 1 (.int .i64 0)).alloc (.cells #[.int .i64 0, .int .i64 0] 45))
    have HBZ := Lib.hid (bel_alloc (bel_set2 (g := w.heap.size + 1) (x := .int .i64 0) (y := .int .i64 0) HB1.out (by simp)) (.cells #[.int .i64 0, .int .i64 0] 45))
    go_wp2_with fail
    refine bodyPost_ret (results_ct0 rfl _ _ (w.heap.size + 1) _ _ rfl HZ1.out Tryz.underlying45 rfl (by kernel_rfl)) rfl ?_
    exact ⟨rfl, HBZ.out⟩
  · rw [if_pos rfl] at he
    subst he
    unfold ratV
    obtain ⟨y1, y2, f1, f2⟩ := blk2 HY1.out
    have HZ1 := Lib.hid (((HY1.out.set 0 (.int .i64 a)).set 1 (.int .i64 b)).alloc (.cells #[.int .i64 a, .int .i64 b] 45))
    have HBZ := Lib.hid (bel_alloc (bel_set2 (g := w.heap.size + 1) (x := .int .i64 a) (y := .int .i64 b) HB1.out (by simp)) (.cells #[.int .i64 a, .int .i64 b] 45))
    go_wp2_with fail
    refine bodyPost_ret (results_ct0 rfl _ _ (w.heap.size + 1) _ _ rfl HZ1.out Tryz.underlying45 rfl (by kernel_rfl)) rfl ?_
    exact ⟨rfl, HBZ.out⟩

theorem l15Square_any (x : Int) (w : World) (h0 : -1000 ≤ x) (h1 : x ≤ 1000) :
    Calls Tryz.prog 68 #[.int .i64 x] w fun e w' => e = .returned (.int .i64 (x * (x + 2))) ∧ w = w' := by
  have hx := mul_bd (x := x) (y := x + 2) (A := 1000) (B := 1002) (by omega) (by omega)
  have u : IntKind.i64.wrap (x * (x + 2)) = x * (x + 2) := IntWalk.i64_in _ (by omega)
  go_enter Tryz.func68, Tryz.ntmps68
  go_wp2_with fail
  go_ret
  exact ⟨rfl, rfl⟩

set_option maxHeartbeats 2000000 in
theorem l16Twice_any (s l j : Int) (w : World) (hs : 0 ≤ s ∧ s ≤ 8) (hl : 0 ≤ l ∧ l ≤ 8) (hj : 0 ≤ j ∧ j ≤ 24) :
    Calls Tryz.prog 67 #[.agg #[.int .i64 s, .int .i64 l, .int .i64 j]] w fun e w' => e = .returned (.int .i64 (facN (s, l) j)) ∧ Below w.heap.size w w' := by
  have HB := Lib.hid (bel_alloc (Below.refl w.heap.size w) (.cells #[.int .i64 s, .int .i64 l, .int .i64 j] 31))
  obtain ⟨x1, x2, x3⟩ := Level3 (Blk.new w 31 #[.int .i64 s, .int .i64 l, .int .i64 j])
  have HS := Lib.hid (fun x W h0 h1 => l15Square_any x W h0 h1)
  have m1 := mul_bd (x := j) (y := j + 2) (A := 24) (B := 26) (by omega) (by omega)
  have m2 := mul_bd (x := s) (y := s + 2) (A := 8) (B := 10) (by omega) (by omega)
  have m3 := mul_bd (x := 2 * l) (y := 2 * l + 2) (A := 16) (B := 18) (by omega) (by omega)
  have k1 := After.cell x1
  have k2 := After.cell x2
  have k3 := After.cell x3
  unfold facN sq
  simp only
  have u1 : IntKind.i64.wrap (2 * (j * (j + 2))) = 2 * (j * (j + 2)) := IntWalk.i64_in _ (by omega)
  have u2 : IntKind.i64.wrap (2 * (j * (j + 2)) + j * (j + 2)) = 2 * (j * (j + 2)) + j * (j + 2) := IntWalk.i64_in _ (by omega)
  have u3 : IntKind.i64.wrap (2 * (j * (j + 2)) + j * (j + 2) + s * (s + 2)) = 2 * (j * (j + 2)) + j * (j + 2) + s * (s + 2) := IntWalk.i64_in _ (by omega)
  have u4 : IntKind.i64.wrap (2 * l) = 2 * l := IntWalk.i64_in _ (by omega)
  have u5 : IntKind.i64.wrap (2 * (j * (j + 2)) + j * (j + 2) + s * (s + 2) - 2 * l * (2 * l + 2)) = 2 * (j * (j + 2)) + j * (j + 2) + s * (s + 2) - 2 * l * (2 * l + 2) := IntWalk.i64_in _ (by omega)
  go_enter Tryz.func67, Tryz.ntmps67
  go_wp2_with fail
  refine (HS.out _ _ (by omega) (by omega)).mono ?_
  rintro e w1 ⟨rfl, rfl⟩
  go_wp2_with fail
  refine wp_region_after (by kernel_rfl) (by kernel_rfl) ?_
  repeat (go_big_quiet_step ((go_at_call 68; exact after_same _ (HS.out _ _ (by omega) (by omega)))))
  refine wpQuiet_nil ?_
  intro w9 hw'
  obtain ⟨⟨w9', hb9⟩, hw''⟩ := hw'
  subst hw''
  have HB9 := Lib.hid (bel_sub HB.out hb9); clear hb9
  go_wp2_with fail
  go_ret
  exact ⟨rfl, HB9.out⟩
end Go.Proofs.YtgmhdgfokljggaaGreatDoor
