/- Differences of rationals. -/
import Derived.Test.YtaaiklhkhgennaaSer5
import Derived.Deep.RegionWith
namespace Go.Proofs.Ytaaiklhkhgennaa
open Go.RowKit
attribute [local go_sem ↓] Go.wp_at_zero Go.wp_at_succ

theorem negative_any (a b : Int) (w : World) (h : -9223372036854775807 ≤ a ∧ a ≤ 9223372036854775807) :
    Calls Try.prog 44 #[.agg #[.int .i64 a, .int .i64 b]] w fun e w' => e = .returned (.agg #[.int .i64 (-a), .int .i64 b]) ∧ Below w.heap.size w w' := by
  go_enter Try.func44, Try.ntmps44
  go_wp2_with fail
  refine bodyPost_ret (v := .agg #[.int .i64 (-a), .int .i64 b]) (by simp [results, Try.results44, go_sem]) rfl ⟨rfl, ?_⟩
  repeat (first | exact Below.refl _ _ | refine Below.alloc ?_ (by simp; try omega) _ | refine Below.setCell ?_ (by simp; try omega) _)

def subB (a b : T2) : T2 × Bool := addB a (-b.1, b.2)
set_option maxHeartbeats 2000000 in
theorem implRatSub_any (a b c d : Int) (w : World) (hc : -9223372036854775807 ≤ c ∧ c ≤ 9223372036854775807) :
    Calls Try.prog 29 #[.agg #[.int .i64 a, .int .i64 b], .agg #[.int .i64 c, .int .i64 d]] w fun e w' => e = .returned (okV (subB (a, b) (c, d))) ∧ Below w.heap.size w w' := by
  obtain ⟨W, hW⟩ : ∃ W, W = ((w.alloc (.cells #[.int .i64 a, .int .i64 b] 23)).alloc (.cells #[.int .i64 c, .int .i64 d] 23)).alloc (.cells #[.int .i64 0, .int .i64 0] 23) := ⟨_, rfl⟩
  have HB1 : Hid (Below w.heap.size w W) := by rw [hW]; exact (((Below.refl w.heap.size w).alloc (Nat.le_refl _) _).alloc (by simp) _).alloc (by simp; omega) _
  have HX : Hid (Blk W w.heap.size 23 #[.int .i64 a, .int .i64 b]) := by rw [hW]; exact ((Blk.new w _ _).alloc _).alloc _
  have HY : Hid (Blk W (w.heap.size + 1) 23 #[.int .i64 c, .int .i64 d]) := by rw [hW]; have := (Blk.new (w.alloc (.cells #[.int .i64 a, .int .i64 b] 23)) 23 #[.int .i64 c, .int .i64 d]).alloc (.cells #[.int .i64 0, .int .i64 0] 23); rwa [World.size_alloc] at this
  have HD : Hid (Blk W (w.heap.size + 1 + 1) 23 #[.int .i64 0, .int .i64 0]) := by rw [hW]; have := Blk.new ((w.alloc (.cells #[.int .i64 a, .int .i64 b] 23)).alloc (.cells #[.int .i64 c, .int .i64 d] 23)) 23 #[.int .i64 0, .int .i64 0]; rwa [World.size_alloc, World.size_alloc] at this
  have HW := Lib.hid hW; clear hW
  have HN := Lib.hid (fun V => negative_any c d V hc)
  have HA := Lib.hid (fun V => implRatAdd_any a b (-c) d V)
  have hr : subB (a, b) (c, d) = addB (a, b) (-c, d) := rfl
  rw [hr]; clear hr
  generalize addB (a, b) (-c, d) = r at *
  rw [okV_form] at HA
  go_enter Try.func29, Try.ntmps29
  go_wp2_with fail
  rw [← HW.out]
  obtain ⟨x1, x2, _, _⟩ := blk2 HX.out
  obtain ⟨y1, y2, _, _⟩ := blk2 HY.out
  go_region_with (first
    | (go_at_call 44; refine (HN.out _).mono ?_; rintro e w1 ⟨rfl, hb1⟩; have HX1 := Lib.hid ((HX.out.drew).sub hb1); have HD1 := Lib.hid ((HD.out.drew).sub hb1); have k12 := blk2 HX1.out; have k1 := k12.1; have k2 := k12.2.1)
    | (go_at_call 24; refine (HA.out _).mono ?_; rintro e w2 ⟨rfl, hb2⟩; have HD2 := Lib.hid (HD1.out.sub hb2); have l12 := blk2 HD2.out; have l1 := l12.1; have l2 := l12.2.1; have l3 := l12.2.2.1; have l4 := l12.2.2.2))
  all_goals
    have HB5 := Lib.hid ((HB1.out.drew.trans (hb1.mono HB1.out.size)).trans (hb2.mono (Nat.le_trans HB1.out.size hb1.size)))
    have HZ := Lib.hid ((HD2.out.set 0 (.int .i64 r.1.1)).set 1 (.int .i64 r.1.2))
    have HB4 := Lib.hid ((HB5.out.setCell (p := ⟨w.heap.size + 1 + 1, 0, none⟩) (by simp; omega) (.int .i64 r.1.1)).setCell (p := ⟨w.heap.size + 1 + 1, 1, none⟩) (by simp; omega) (.int .i64 r.1.2))
    clear hb1 hb2
    go_wp2_with fail
    refine bodyPost_ret (results_rat_tmp rfl _ _ (w.heap.size + 1 + 1) _ _ rfl HZ.out Try.underlying23 rfl (by kernel_rfl)) rfl ?_
    exact ⟨rfl, HB4.out⟩
end Go.Proofs.Ytaaiklhkhgennaa
