/- The walk of the law FnBlendMean. -/
import Derived.Test.YtmmnkdjibdlcjaaBlD
import Derived.Test.YtmmnkdjibdlcjaaBl2
import Derived.Test.YtmmnkdjibdlcjaaLawKit
namespace Go.Proofs.Ytmmnkdjibdlcjaa
open Go.RowKit
attribute [local go_sem ↓] Go.wp_at_zero Go.wp_at_succ

set_option maxHeartbeats 2000000 in
theorem fnBlendMean_walk (A : Option Addr) (n0 c0 : Nat) (w : World) (hn : n0 ≤ maxLen) (hc : n0 ≤ c0) (hb : Bytes w w.heap.size A n0) :
    Calls Try.prog 7 #[.slice A n0 c0] w fun e w' => e = .returned (.bool true) ∧ Below w.heap.size w w' := by
  unfold maxLen at hn
  have HB := Lib.hid hb; clear hb
  have hB0 := Below.refl w.heap.size w
  by_cases hbig : 1048576 < n0
  · go_enter Try.func7, Try.ntmps7
    go_wp2_with fail
    go_ret
    exact ⟨rfl, hB0⟩
  clear hB0
  go_enter Try.func7, Try.ntmps7
  go_wp2_with fail
  refine (DrawBlendMean_any A n0 c0 w (by omega) hc HB.out).mono ?_
  rintro e w1 ⟨A2, c2, n2, xs, rfl, hL, h8, hin, hb1⟩
  have HB1 := Lib.hid hb1; clear hb1 HB
  have HL := Lib.hid hL; clear hL
  have HI := Lib.hid hin; clear hin
  have HLen := Lib.hid HL.out.len
  obtain ⟨r1, r2, ok, hbm⟩ : ∃ r1 r2 ok, bmB xs = ((r1, r2), ok) := ⟨_, _, _, rfl⟩
  have HBM := Lib.hid hbm; clear hbm
  go_wp2_with fail
  refine (implBlendMean_any A2 n2 c2 xs _ h8 HLen.out HI.out HL.out.reads).mono ?_
  rintro e w2 ⟨rfl, hg2⟩
  rw [HBM.out, okV_form]
  have hgk2 := hg2
  have HG2 := Lib.hid (HB1.out.trans (hg2.mono HB1.out.size)); clear hg2
  have HK2_0 := Lib.hid (HL.out.below hgk2)
  clear hgk2
  clear HL HB1
  have le2 := HG2.out.size
  have HG3 := Lib.hid (HG2.out.alloc HG2.out.size (.cells #[.int .i64 r1, .int .i64 r2] 36))
  have HX3_n := Lib.hid (Blk.new w2 36 #[.int .i64 r1, .int .i64 r2])
  have HK3_0 := Lib.hid (HK2_0.out.below ((Below.refl _ _).alloc (Nat.le_refl _) (.cells #[.int .i64 r1, .int .i64 r2] 36)))
  clear HK2_0 HG2
  go_wp2_with fail
  refine (specBlendMean_any A2 n2 c2 xs _ h8 HLen.out HI.out HK3_0.out.reads).mono ?_
  rintro e w4 ⟨rfl, hg4⟩
  rw [HBM.out, okV_form]
  have hgk4 := hg4
  have HX4_0 := Lib.hid (HX3_n.out.sub hg4)
  have HG4 := Lib.hid (HG3.out.trans (hg4.mono HG3.out.size)); clear hg4
  have HK4_0 := Lib.hid (HK3_0.out.below hgk4)
  clear hgk4
  clear HX3_n HK3_0 HG3
  have le4 := HG4.out.size
  obtain ⟨y0a, y0b, y0c, y0d⟩ := blk2 HX4_0.out
  have q0 := HX4_0.out.lt
  have HG5 := Lib.hid (HG4.out.alloc HG4.out.size (.cells #[.int .i64 r1, .int .i64 r2] 36))
  have HX5_0 := Lib.hid (HX4_0.out.alloc (.cells #[.int .i64 r1, .int .i64 r2] 36))
  have HX5_n := Lib.hid (Blk.new w4 36 #[.int .i64 r1, .int .i64 r2])
  have HK5_0 := Lib.hid (HK4_0.out.below ((Below.refl _ _).alloc (Nat.le_refl _) (.cells #[.int .i64 r1, .int .i64 r2] 36)))
  clear HX4_0 HK4_0 HG4
  have eq1 : (r1 == r1) = true := by simp
  have eq2 : (r2 == r2) = true := by simp
  have ne1 : (r1 != r1) = false := by simp
  have ne2 : (r2 != r2) = false := by simp
  cases ok
  · go_wp2_with fail
    go_ret
    exact ⟨rfl, HG5.out⟩
  go_wp2_with fail
  refine (mirrored_any A2 n2 c2 xs _ h8 HLen.out HK5_0.out.reads).mono ?_
  rintro e w6 ⟨⟨A3, c3, rfl, hL3⟩, hg6⟩
  clear y0a y0b y0c y0d q0
  have hgk6 := hg6
  have HX6_0 := Lib.hid (HX5_0.out.sub hg6)
  have HX6_1 := Lib.hid (HX5_n.out.sub hg6)
  have HG6 := Lib.hid (HG5.out.trans (hg6.mono HG5.out.size)); clear hg6
  have HK6_0 := Lib.hid (HK5_0.out.below hgk6)
  clear hgk6
  clear HX5_0 HX5_n HK5_0 HG5
  have le6 := HG6.out.size
  have HL3 := Lib.hid hL3; clear hL3
  go_wp2_with fail
  refine (implBlendMean_any A3 n2 c3 xs.reverse _ h8 (by rw [List.length_reverse]; exact HLen.out) (fun t ht => HI.out t (List.mem_reverse.1 ht)) HL3.out.reads).mono ?_
  rintro e w7 ⟨rfl, hg7⟩
  rw [bmB_reverse, HBM.out, okV_form]
  have hgk7 := hg7
  have HX7_0 := Lib.hid (HX6_0.out.sub hg7)
  have HX7_1 := Lib.hid (HX6_1.out.sub hg7)
  have HG7 := Lib.hid (HG6.out.trans (hg7.mono HG6.out.size)); clear hg7
  have HK7_0 := Lib.hid (HK6_0.out.below hgk7)
  have HK7_1 := Lib.hid (HL3.out.below hgk7)
  clear hgk7
  clear HX6_0 HX6_1 HK6_0 HL3 HG6
  have le7 := HG7.out.size
  obtain ⟨y0a, y0b, y0c, y0d⟩ := blk2 HX7_0.out
  have q0 := HX7_0.out.lt
  obtain ⟨y1a, y1b, y1c, y1d⟩ := blk2 HX7_1.out
  have q1 := HX7_1.out.lt
  have HG8 := Lib.hid (HG7.out.alloc HG7.out.size (.cells #[.int .i64 r1, .int .i64 r2] 36))
  have HX8_0 := Lib.hid (HX7_0.out.alloc (.cells #[.int .i64 r1, .int .i64 r2] 36))
  have HX8_1 := Lib.hid (HX7_1.out.alloc (.cells #[.int .i64 r1, .int .i64 r2] 36))
  have HX8_n := Lib.hid (Blk.new w7 36 #[.int .i64 r1, .int .i64 r2])
  have HK8_0 := Lib.hid (HK7_0.out.below ((Below.refl _ _).alloc (Nat.le_refl _) (.cells #[.int .i64 r1, .int .i64 r2] 36)))
  have HK8_1 := Lib.hid (HK7_1.out.below ((Below.refl _ _).alloc (Nat.le_refl _) (.cells #[.int .i64 r1, .int .i64 r2] 36)))
  clear HX7_0 HX7_1 HK7_0 HK7_1 HG7
  go_wp2_with fail
  refine (implBlendWidth_any A2 n2 c2 xs _ h8 HLen.out (fun t ht => by have := HI.out t ht; omega) HK8_0.out.reads).mono ?_
  rintro e w9 ⟨rfl, hg9⟩
  clear y0a y0b y0c y0d q0 y1a y1b y1c y1d q1
  have hgk9 := hg9
  have HX9_0 := Lib.hid (HX8_0.out.sub hg9)
  have HX9_1 := Lib.hid (HX8_1.out.sub hg9)
  have HX9_2 := Lib.hid (HX8_n.out.sub hg9)
  have HG9 := Lib.hid (HG8.out.trans (hg9.mono HG8.out.size)); clear hg9
  have HK9_0 := Lib.hid (HK8_0.out.below hgk9)
  have HK9_1 := Lib.hid (HK8_1.out.below hgk9)
  clear hgk9
  clear HX8_0 HX8_1 HX8_n HK8_0 HK8_1 HG8
  have le9 := HG9.out.size
  cases hasc : ascB xs
  · have hbw : bwF xs = -1 := by unfold bwF; rw [hasc]; simp
    rw [hbw]; clear hbw hasc
    obtain ⟨y0a, y0b, y0c, y0d⟩ := blk2 HX9_0.out
    have q0 := HX9_0.out.lt
    obtain ⟨y1a, y1b, y1c, y1d⟩ := blk2 HX9_1.out
    have q1 := HX9_1.out.lt
    obtain ⟨y2a, y2b, y2c, y2d⟩ := blk2 HX9_2.out
    have q2 := HX9_2.out.lt
    go_wp2_with fail
    go_ret
    exact ⟨rfl, HG9.out⟩
  have hbw : 0 ≤ bwF xs := by unfold bwF; rw [hasc, if_pos rfl]; exact gapF_nn _ _
  generalize bwF xs = bw at *
  have hpos : 0 < n2 := by rcases Nat.eq_zero_or_pos n2 with h | h; (have := HBM.out; unfold bmB at this; rw [if_pos (by rw [HLen.out]; exact h)] at this; cases this); exact h
  obtain ⟨m, rfl⟩ : ∃ m, n2 = m + 1 := ⟨n2 - 1, by omega⟩
  have hmi := mean_in hasc (m := m) (HLen.out.symm) HBM.out
  have HR1 := Lib.hid (fun W => implRatLess_any r1 r2 (gi xs 0) 1 W)
  have HR2 := Lib.hid (fun W => implRatLess_any (gi xs m) 1 r1 r2 W)
  rw [hmi.1] at HR1
  rw [hmi.2] at HR2
  obtain ⟨b, off, rfl, hb, z0⟩ := HK9_0.out.reads.int (show 0 < m + 1 by omega)
  obtain ⟨b', off', e', hb', zm⟩ := HK9_0.out.reads.int (show m < m + 1 by omega)
  cases e'
  simp only [Nat.add_zero] at z0
  clear hmi hasc HBM
  generalize gi xs 0 = g0 at *
  generalize gi xs m = gm at *
  obtain ⟨y0a, y0b, y0c, y0d⟩ := blk2 HX9_0.out
  have q0 := HX9_0.out.lt
  obtain ⟨y1a, y1b, y1c, y1d⟩ := blk2 HX9_1.out
  have q1 := HX9_1.out.lt
  obtain ⟨y2a, y2b, y2c, y2d⟩ := blk2 HX9_2.out
  have q2 := HX9_2.out.lt
  go_wp2_with fail
  have k0 := After.cell z0
  have km := After.cell zm
  have k0a := After.cell y0a
  have k0b := After.cell y0b
  have k1a := After.cell y1a
  have k1b := After.cell y1b
  have k2a := After.cell y2a
  have k2b := After.cell y2b
  have i1 : IntKind.i64.wrap (((m + 1 : Nat) : Int) - 1) = (m : Int) := (IntWalk.i64_in _ (by omega)).trans (by omega)
  have i2 : (0 : Int) < ((m + 1 : Nat) : Int) := by omega
  have i3 : (0 : Int) ≤ (m : Int) := by omega
  have i4 : (m : Int) < ((m + 1 : Nat) : Int) := by omega
  have i5 : 0 < m + 1 := by omega
  have i6 : m < m + 1 := by omega
  refine wp_region_after (by kernel_rfl) (by kernel_rfl) ?_
  repeat (go_big_quiet_step (first | (go_at_call 20; first | (with_reducible exact after_call _ (whole_any g0 _)) | (with_reducible exact after_call _ (whole_any gm _))) | (go_at_call 19; first | (with_reducible exact after_call _ (HR1.out _)) | (with_reducible exact after_call _ (HR2.out _)))))
  refine wpQuiet_nil ?_
  intro w99 hw'
  obtain ⟨⟨w99', hb99⟩, hw''⟩ := hw'
  subst hw''
  have HB99 := Lib.hid (HG9.out.trans (hb99.mono HG9.out.size)); clear hb99
  go_wp2_with fail
  go_ret
  exact ⟨rfl, HB99.out⟩
end Go.Proofs.Ytmmnkdjibdlcjaa
