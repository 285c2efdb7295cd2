/- Sums and products of rationals. -/
import Derived.Test.YtaaiklhkhgennaaSer4
namespace Go.Proofs.Ytaaiklhkhgennaa
open Go.RowKit
attribute [local go_sem ↓] Go.wp_at_zero Go.wp_at_succ

def addB (a b : T2) : T2 × Bool := if (rvB a && rvB b) = true then ratOf (a.1 * b.2 + b.1 * a.2) (a.2 * b.2) else ((0, 0), false)
def mulB (a b : T2) : T2 × Bool := if (rvB a && rvB b) = true then ratOf (a.1 * b.1) (a.2 * b.2) else ((0, 0), false)

set_option maxHeartbeats 2000000 in
theorem implRatAdd_any (a b c d : Int) (w : World) :
    Calls Try.prog 24 #[.agg #[.int .i64 a, .int .i64 b], .agg #[.int .i64 c, .int .i64 d]] w fun e w' => e = .returned (okV (addB (a, b) (c, d))) ∧ Below w.heap.size w w' := by
  obtain ⟨W, hW⟩ : ∃ W, W = ((w.alloc (.cells #[.int .i64 a, .int .i64 b] 23)).alloc (.cells #[.int .i64 c, .int .i64 d] 23)).alloc (.cells #[.int .i64 0, .int .i64 0] 23) := ⟨_, rfl⟩
  have HB1 : Hid (Below w.heap.size w W) := by rw [hW]; exact (((Below.refl w.heap.size w).alloc (Nat.le_refl _) _).alloc (by simp) _).alloc (by simp; omega) _
  have HX : Hid (Blk W w.heap.size 23 #[.int .i64 a, .int .i64 b]) := by rw [hW]; exact ((Blk.new w _ _).alloc _).alloc _
  have HY : Hid (Blk W (w.heap.size + 1) 23 #[.int .i64 c, .int .i64 d]) := by rw [hW]; have := (Blk.new (w.alloc (.cells #[.int .i64 a, .int .i64 b] 23)) 23 #[.int .i64 c, .int .i64 d]).alloc (.cells #[.int .i64 0, .int .i64 0] 23); rwa [World.size_alloc] at this
  have HD : Hid (Blk W (w.heap.size + 1 + 1) 23 #[.int .i64 0, .int .i64 0]) := by rw [hW]; have := Blk.new ((w.alloc (.cells #[.int .i64 a, .int .i64 b] 23)).alloc (.cells #[.int .i64 c, .int .i64 d] 23)) 23 #[.int .i64 0, .int .i64 0]; rwa [World.size_alloc, World.size_alloc] at this
  have hsW : w.heap.size + 1 + 1 + 1 = W.heap.size := by rw [hW]; simp
  have HW := Lib.hid hW; clear hW
  have H1 := Lib.hid (fun W => implRatValid_any a b W)
  have H2 := Lib.hid (fun W => implRatValid_any c d W)
  obtain ⟨r, hr⟩ : ∃ r, addB (a, b) (c, d) = r := ⟨_, rfl⟩
  rw [hr]
  have HR := Lib.hid hr; clear hr
  cases v1 : rvB (a, b)
  · have he : r = ((0, 0), false) := by rw [← HR.out]; simp [addB, v1]
    have HE := Lib.hid he; clear he HR
    rw [v1] at H1
    clear v1
    go_enter Try.func24, Try.ntmps24
    go_wp2_with fail
    rw [← HW.out]
    refine (H1.out _).mono ?_
    rintro e w1 ⟨rfl, hb1⟩
    have HB2 := Lib.hid (HB1.out.trans (hb1.mono HB1.out.size))
    have HD1 := Lib.hid (HD.out.sub hb1); clear hb1
    obtain ⟨y1, y2, y3, y4⟩ := blk2 HD1.out
    have HZ := Lib.hid ((HD1.out.set 0 (.int .i64 0)).set 1 (.int .i64 0))
    have HB4 := Lib.hid ((HB2.out.setCell (p := ⟨w.heap.size + 1 + 1, 0, none⟩) (by simp; omega) (.int .i64 0)).setCell (p := ⟨w.heap.size + 1 + 1, 1, none⟩) (by simp; omega) (.int .i64 0))
    go_wp2_with fail
    refine bodyPost_ret (results_rat_tmp rfl _ _ (w.heap.size + 1 + 1) _ _ rfl HZ.out Try.underlying23 rfl (by kernel_rfl)) rfl ?_
    exact ⟨by rw [HE.out]; rfl, HB4.out⟩
  rw [v1] at H1
  cases v2 : rvB (c, d)
  · have he : r = ((0, 0), false) := by rw [← HR.out]; simp [addB, v2]
    have HE := Lib.hid he; clear he HR
    rw [v2] at H2
    clear v1 v2
    go_enter Try.func24, Try.ntmps24
    go_wp2_with fail
    rw [← HW.out]
    refine (H1.out _).mono ?_
    rintro e w1 ⟨rfl, hb1⟩
    have HB2 := Lib.hid (HB1.out.trans (hb1.mono HB1.out.size))
    have HD1 := Lib.hid (HD.out.sub hb1)
    obtain ⟨x1, x2, _, _⟩ := blk2 (HY.out.sub hb1)
    clear hb1
    go_wp2_with fail
    refine (H2.out _).mono ?_
    rintro e w2 ⟨rfl, hb2⟩
    have HB3 := Lib.hid (HB2.out.trans (hb2.mono HB2.out.size))
    have HD2 := Lib.hid (HD1.out.sub hb2)
    clear hb2 x1 x2
    obtain ⟨y1, y2, y3, y4⟩ := blk2 HD2.out
    have HZ := Lib.hid ((HD2.out.set 0 (.int .i64 0)).set 1 (.int .i64 0))
    have HB4 := Lib.hid ((HB3.out.setCell (p := ⟨w.heap.size + 1 + 1, 0, none⟩) (by simp; omega) (.int .i64 0)).setCell (p := ⟨w.heap.size + 1 + 1, 1, none⟩) (by simp; omega) (.int .i64 0))
    go_wp2_with fail
    refine bodyPost_ret (results_rat_tmp rfl _ _ (w.heap.size + 1 + 1) _ _ rfl HZ.out Try.underlying23 rfl (by kernel_rfl)) rfl ?_
    exact ⟨by rw [HE.out]; rfl, HB4.out⟩
  rw [v2] at H2
  have e1 := rvB_bd v1
  have e2 := rvB_bd v2
  have he : r = ratOf (a * d + c * b) (b * d) := by rw [← HR.out]; simp [addB, v1, v2]
  have HE := Lib.hid he; clear he HR v1 v2
  have m1 := mul_bd (A := 1000000000) (B := 1000000000) (x := a) (y := d) (by omega) (by omega)
  have m2 := mul_bd (A := 1000000000) (B := 1000000000) (x := c) (y := b) (by omega) (by omega)
  have m3 := mul_bd (A := 1000000000) (B := 1000000000) (x := b) (y := d) (by omega) (by omega)
  have HRO := Lib.hid (fun W => implRatOf_any (a * d + c * b) (b * d) W)
  generalize hrr : ratOf (a * d + c * b) (b * d) = rr at *
  go_enter Try.func24, Try.ntmps24
  go_wp2_with fail
  rw [← HW.out]
  refine (H1.out _).mono ?_
  rintro e w1 ⟨rfl, hb1⟩
  have HB2 := Lib.hid (HB1.out.trans (hb1.mono HB1.out.size))
  have HX1 := Lib.hid (HX.out.sub hb1)
  have HY1 := Lib.hid (HY.out.sub hb1)
  have HD1 := Lib.hid (HD.out.sub hb1)
  clear hb1
  obtain ⟨x1, x2, _, _⟩ := blk2 HY1.out
  go_wp2_with fail
  refine (H2.out _).mono ?_
  rintro e w2 ⟨rfl, hb2⟩
  have HB3 := Lib.hid (HB2.out.trans (hb2.mono HB2.out.size))
  have HX2 := Lib.hid (HX1.out.sub hb2)
  have HY2 := Lib.hid (HY1.out.sub hb2)
  have HD2 := Lib.hid (HD1.out.sub hb2)
  clear hb2 x1 x2
  obtain ⟨x1, x2, _, _⟩ := blk2 HY2.out
  obtain ⟨z1, z2, _, _⟩ := blk2 HX2.out
  go_wp2_with fail
  refine (HRO.out _).mono ?_
  rintro e w3 ⟨rfl, hb3⟩
  rw [okV_form]
  have HB5 := Lib.hid (HB3.out.trans (hb3.mono HB3.out.size))
  have HD3 := Lib.hid (HD2.out.sub hb3)
  clear hb3 x1 x2 z1 z2
  obtain ⟨y1, y2, y3, y4⟩ := blk2 HD3.out
  have HZ := Lib.hid ((HD3.out.set 0 (.int .i64 rr.1.1)).set 1 (.int .i64 rr.1.2))
  have HB4 := Lib.hid ((HB5.out.setCell (p := ⟨w.heap.size + 1 + 1, 0, none⟩) (by simp; omega) (.int .i64 rr.1.1)).setCell (p := ⟨w.heap.size + 1 + 1, 1, none⟩) (by simp; omega) (.int .i64 rr.1.2))
  go_wp2_with fail
  refine bodyPost_ret (results_rat_tmp rfl _ _ (w.heap.size + 1 + 1) _ _ rfl HZ.out Try.underlying23 rfl (by kernel_rfl)) rfl ?_
  exact ⟨by rw [HE.out]; rfl, HB4.out⟩

set_option maxHeartbeats 2000000 in
theorem implRatMul_any (a b c d : Int) (w : World) :
    Calls Try.prog 22 #[.agg #[.int .i64 a, .int .i64 b], .agg #[.int .i64 c, .int .i64 d]] w fun e w' => e = .returned (okV (mulB (a, b) (c, d))) ∧ Below w.heap.size w w' := by
  obtain ⟨W, hW⟩ : ∃ W, W = ((w.alloc (.cells #[.int .i64 a, .int .i64 b] 23)).alloc (.cells #[.int .i64 c, .int .i64 d] 23)).alloc (.cells #[.int .i64 0, .int .i64 0] 23) := ⟨_, rfl⟩
  have HB1 : Hid (Below w.heap.size w W) := by rw [hW]; exact (((Below.refl w.heap.size w).alloc (Nat.le_refl _) _).alloc (by simp) _).alloc (by simp; omega) _
  have HX : Hid (Blk W w.heap.size 23 #[.int .i64 a, .int .i64 b]) := by rw [hW]; exact ((Blk.new w _ _).alloc _).alloc _
  have HY : Hid (Blk W (w.heap.size + 1) 23 #[.int .i64 c, .int .i64 d]) := by rw [hW]; have := (Blk.new (w.alloc (.cells #[.int .i64 a, .int .i64 b] 23)) 23 #[.int .i64 c, .int .i64 d]).alloc (.cells #[.int .i64 0, .int .i64 0] 23); rwa [World.size_alloc] at this
  have HD : Hid (Blk W (w.heap.size + 1 + 1) 23 #[.int .i64 0, .int .i64 0]) := by rw [hW]; have := Blk.new ((w.alloc (.cells #[.int .i64 a, .int .i64 b] 23)).alloc (.cells #[.int .i64 c, .int .i64 d] 23)) 23 #[.int .i64 0, .int .i64 0]; rwa [World.size_alloc, World.size_alloc] at this
  have hsW : w.heap.size + 1 + 1 + 1 = W.heap.size := by rw [hW]; simp
  have HW := Lib.hid hW; clear hW
  have H1 := Lib.hid (fun W => implRatValid_any a b W)
  have H2 := Lib.hid (fun W => implRatValid_any c d W)
  obtain ⟨r, hr⟩ : ∃ r, mulB (a, b) (c, d) = r := ⟨_, rfl⟩
  rw [hr]
  have HR := Lib.hid hr; clear hr
  cases v1 : rvB (a, b)
  · have he : r = ((0, 0), false) := by rw [← HR.out]; simp [mulB, v1]
    have HE := Lib.hid he; clear he HR
    rw [v1] at H1
    clear v1
    go_enter Try.func22, Try.ntmps22
    go_wp2_with fail
    rw [← HW.out]
    refine (H1.out _).mono ?_
    rintro e w1 ⟨rfl, hb1⟩
    have HB2 := Lib.hid (HB1.out.trans (hb1.mono HB1.out.size))
    have HD1 := Lib.hid (HD.out.sub hb1); clear hb1
    obtain ⟨y1, y2, y3, y4⟩ := blk2 HD1.out
    have HZ := Lib.hid ((HD1.out.set 0 (.int .i64 0)).set 1 (.int .i64 0))
    have HB4 := Lib.hid ((HB2.out.setCell (p := ⟨w.heap.size + 1 + 1, 0, none⟩) (by simp; omega) (.int .i64 0)).setCell (p := ⟨w.heap.size + 1 + 1, 1, none⟩) (by simp; omega) (.int .i64 0))
    go_wp2_with fail
    refine bodyPost_ret (results_rat_tmp rfl _ _ (w.heap.size + 1 + 1) _ _ rfl HZ.out Try.underlying23 rfl (by kernel_rfl)) rfl ?_
    exact ⟨by rw [HE.out]; rfl, HB4.out⟩
  rw [v1] at H1
  cases v2 : rvB (c, d)
  · have he : r = ((0, 0), false) := by rw [← HR.out]; simp [mulB, v2]
    have HE := Lib.hid he; clear he HR
    rw [v2] at H2
    clear v1 v2
    go_enter Try.func22, Try.ntmps22
    go_wp2_with fail
    rw [← HW.out]
    refine (H1.out _).mono ?_
    rintro e w1 ⟨rfl, hb1⟩
    have HB2 := Lib.hid (HB1.out.trans (hb1.mono HB1.out.size))
    have HD1 := Lib.hid (HD.out.sub hb1)
    obtain ⟨x1, x2, _, _⟩ := blk2 (HY.out.sub hb1)
    clear hb1
    go_wp2_with fail
    refine (H2.out _).mono ?_
    rintro e w2 ⟨rfl, hb2⟩
    have HB3 := Lib.hid (HB2.out.trans (hb2.mono HB2.out.size))
    have HD2 := Lib.hid (HD1.out.sub hb2)
    clear hb2 x1 x2
    obtain ⟨y1, y2, y3, y4⟩ := blk2 HD2.out
    have HZ := Lib.hid ((HD2.out.set 0 (.int .i64 0)).set 1 (.int .i64 0))
    have HB4 := Lib.hid ((HB3.out.setCell (p := ⟨w.heap.size + 1 + 1, 0, none⟩) (by simp; omega) (.int .i64 0)).setCell (p := ⟨w.heap.size + 1 + 1, 1, none⟩) (by simp; omega) (.int .i64 0))
    go_wp2_with fail
    refine bodyPost_ret (results_rat_tmp rfl _ _ (w.heap.size + 1 + 1) _ _ rfl HZ.out Try.underlying23 rfl (by kernel_rfl)) rfl ?_
    exact ⟨by rw [HE.out]; rfl, HB4.out⟩
  rw [v2] at H2
  have e1 := rvB_bd v1
  have e2 := rvB_bd v2
  have he : r = ratOf (a * c) (b * d) := by rw [← HR.out]; simp [mulB, v1, v2]
  have HE := Lib.hid he; clear he HR v1 v2
  have m1 := mul_bd (A := 1000000000) (B := 1000000000) (x := a) (y := c) (by omega) (by omega)
  have m2 := mul_bd (A := 1000000000) (B := 1000000000) (x := b) (y := d) (by omega) (by omega)
  have m3 := mul_bd (A := 1000000000) (B := 1000000000) (x := b) (y := d) (by omega) (by omega)
  have HRO := Lib.hid (fun W => implRatOf_any (a * c) (b * d) W)
  generalize hrr : ratOf (a * c) (b * d) = rr at *
  go_enter Try.func22, Try.ntmps22
  go_wp2_with fail
  rw [← HW.out]
  refine (H1.out _).mono ?_
  rintro e w1 ⟨rfl, hb1⟩
  have HB2 := Lib.hid (HB1.out.trans (hb1.mono HB1.out.size))
  have HX1 := Lib.hid (HX.out.sub hb1)
  have HY1 := Lib.hid (HY.out.sub hb1)
  have HD1 := Lib.hid (HD.out.sub hb1)
  clear hb1
  obtain ⟨x1, x2, _, _⟩ := blk2 HY1.out
  go_wp2_with fail
  refine (H2.out _).mono ?_
  rintro e w2 ⟨rfl, hb2⟩
  have HB3 := Lib.hid (HB2.out.trans (hb2.mono HB2.out.size))
  have HX2 := Lib.hid (HX1.out.sub hb2)
  have HY2 := Lib.hid (HY1.out.sub hb2)
  have HD2 := Lib.hid (HD1.out.sub hb2)
  clear hb2 x1 x2
  obtain ⟨x1, x2, _, _⟩ := blk2 HY2.out
  obtain ⟨z1, z2, _, _⟩ := blk2 HX2.out
  go_wp2_with fail
  refine (HRO.out _).mono ?_
  rintro e w3 ⟨rfl, hb3⟩
  rw [okV_form]
  have HB5 := Lib.hid (HB3.out.trans (hb3.mono HB3.out.size))
  have HD3 := Lib.hid (HD2.out.sub hb3)
  clear hb3 x1 x2 z1 z2
  obtain ⟨y1, y2, y3, y4⟩ := blk2 HD3.out
  have HZ := Lib.hid ((HD3.out.set 0 (.int .i64 rr.1.1)).set 1 (.int .i64 rr.1.2))
  have HB4 := Lib.hid ((HB5.out.setCell (p := ⟨w.heap.size + 1 + 1, 0, none⟩) (by simp; omega) (.int .i64 rr.1.1)).setCell (p := ⟨w.heap.size + 1 + 1, 1, none⟩) (by simp; omega) (.int .i64 rr.1.2))
  go_wp2_with fail
  refine bodyPost_ret (results_rat_tmp rfl _ _ (w.heap.size + 1 + 1) _ _ rfl HZ.out Try.underlying23 rfl (by kernel_rfl)) rfl ?_
  exact ⟨by rw [HE.out]; rfl, HB4.out⟩
end Go.Proofs.Ytaaiklhkhgennaa
