/- The walk of a law over series. -/
import Derived.Test.YtaaiklhkhgennaaDrawSer
import Derived.Test.YtaaiklhkhgennaaMany
import Derived.Test.YtaaiklhkhgennaaSerM
import Derived.Test.YtaaiklhkhgennaaLawKit
namespace Go.Proofs.Ytaaiklhkhgennaa
open Go.RowKit
attribute [local go_sem ↓] Go.wp_at_zero Go.wp_at_succ

set_option maxHeartbeats 2000000 in
theorem fnSeriesLimit_walk (A : Option Addr) (n0 c0 : Nat) (w : World) (hn : n0 ≤ maxLen) (hc : n0 ≤ c0) (hb : Bytes w w.heap.size A n0) :
    Calls Try.prog 13 #[.slice A n0 c0] w fun e w' => e = .returned (.bool true) ∧ Below w.heap.size w w' := by
  unfold maxLen at hn
  have HB := Lib.hid hb; clear hb
  have hB0 := Below.refl w.heap.size w
  by_cases hbig : 1048576 < n0
  · go_enter Try.func13, Try.ntmps13
    go_wp2_with fail
    go_ret
    exact ⟨rfl, hB0⟩
  clear hB0
  go_enter Try.func13, Try.ntmps13
  go_wp2_with fail
  refine (DrawSeriesMany_any A n0 c0 w (by omega) hc HB.out).mono ?_
  rintro e w1 ⟨n, a, b, rfl, hb1⟩
  have HB1 := Lib.hid hb1; clear hb1 HB
  have HG2 := Lib.hid (HB1.out.alloc HB1.out.size (.cells #[.int .i64 a, .int .i64 b] 23))
  have HX2_n := Lib.hid (Blk.new w1 23 #[.int .i64 a, .int .i64 b])
  clear HB1
  have HI := Lib.hid (fun W => implSeriesMany_any n a b W)
  have HS := Lib.hid (fun W => specSeriesMany_any n a b W)
  have hbad := smF_bad (n := n) (x := (a, b))
  obtain ⟨r, hr⟩ : ∃ r, smF n (a, b) = r := ⟨_, rfl⟩
  rw [hr] at HI HS hbad
  have HR := Lib.hid hr; clear hr
  have e1 : (r != r) = false := by simp
  have e2 : (r == r) = true := by simp
  obtain ⟨y0a, y0b, y0c, y0d⟩ := blk2 HX2_n.out
  have q0 := HX2_n.out.lt
  go_wp2_with fail
  refine (HI.out _).mono ?_
  rintro e w3 ⟨rfl, hg3⟩
  clear y0a y0b y0c y0d q0
  have HX3_0 := Lib.hid (HX2_n.out.sub hg3)
  have HG3 := Lib.hid (HG2.out.trans (hg3.mono HG2.out.size)); clear hg3
  clear HX2_n HG2
  have le3 := HG3.out.size
  obtain ⟨y0a, y0b, y0c, y0d⟩ := blk2 HX3_0.out
  have q0 := HX3_0.out.lt
  go_wp2_with fail
  refine (HS.out _).mono ?_
  rintro e w4 ⟨rfl, hg4⟩
  clear y0a y0b y0c y0d q0
  have HX4_0 := Lib.hid (HX3_0.out.sub hg4)
  have HG4 := Lib.hid (HG3.out.trans (hg4.mono HG3.out.size)); clear hg4
  clear HX3_0 HG3
  have le4 := HG4.out.size
  obtain ⟨y0a, y0b, y0c, y0d⟩ := blk2 HX4_0.out
  have q0 := HX4_0.out.lt
  by_cases hneg : r < 0
  · clear hbad
    go_wp2_with fail
    go_ret
    exact ⟨rfl, HG4.out⟩
  obtain ⟨hr1, hr2⟩ := hbad (by omega)
  obtain ⟨k1, k2, k3⟩ := sm_limit hr1
  have hle := sm_le hr1 hr2
  rw [HR.out] at hle
  have bb := ser_sq hr1
  have HRO := Lib.hid (fun W => implRatOf_any 1 (n * n) W)
  rw [k1] at HRO
  have HM1 := Lib.hid (fun W => implSeriesMany_any n 1 (n * n) W)
  have HM2 := Lib.hid (fun W => implSeriesMany_any n 0 1 W)
  rw [k2] at HM1
  rw [k3] at HM2
  clear k1 k2 k3 HR hr2
  go_wp2_with fail
  generalize n * n = nn at *
  go_wp2_with fail
  refine (HRO.out _).mono ?_
  rintro e w5 ⟨rfl, hg5⟩
  rw [okV_form]
  clear y0a y0b y0c y0d q0
  have HX5_0 := Lib.hid (HX4_0.out.sub hg5)
  have HG5 := Lib.hid (HG4.out.trans (hg5.mono HG4.out.size)); clear hg5
  clear HX4_0 HG4
  have le5 := HG5.out.size
  obtain ⟨y0a, y0b, y0c, y0d⟩ := blk2 HX5_0.out
  have q0 := HX5_0.out.lt
  have HG6 := Lib.hid (HG5.out.alloc HG5.out.size (.cells #[.int .i64 1, .int .i64 nn] 23))
  have HX6_0 := Lib.hid (HX5_0.out.alloc (.cells #[.int .i64 1, .int .i64 nn] 23))
  have HX6_n := Lib.hid (Blk.new w5 23 #[.int .i64 1, .int .i64 nn])
  clear HX5_0 HG5
  go_wp2_with fail
  refine (HM1.out _).mono ?_
  rintro e w7 ⟨rfl, hg7⟩
  clear y0a y0b y0c y0d q0
  have HX7_0 := Lib.hid (HX6_0.out.sub hg7)
  have HX7_1 := Lib.hid (HX6_n.out.sub hg7)
  have HG7 := Lib.hid (HG6.out.trans (hg7.mono HG6.out.size)); clear hg7
  clear HX6_0 HX6_n HG6
  have le7 := HG7.out.size
  obtain ⟨y0a, y0b, y0c, y0d⟩ := blk2 HX7_0.out
  have q0 := HX7_0.out.lt
  obtain ⟨y1a, y1b, y1c, y1d⟩ := blk2 HX7_1.out
  have q1 := HX7_1.out.lt
  have f1 : (60 - n == 60 - n) = true := by simp
  go_wp2_with fail
  refine (whole_any 0 _).mono ?_
  rintro e w8 ⟨rfl, hg8⟩
  clear y0a y0b y0c y0d q0 y1a y1b y1c y1d q1
  have HX8_0 := Lib.hid (HX7_0.out.sub hg8)
  have HX8_1 := Lib.hid (HX7_1.out.sub hg8)
  have HG8 := Lib.hid (HG7.out.trans (hg8.mono HG7.out.size)); clear hg8
  clear HX7_0 HX7_1 HG7
  have le8 := HG8.out.size
  obtain ⟨y0a, y0b, y0c, y0d⟩ := blk2 HX8_0.out
  have q0 := HX8_0.out.lt
  obtain ⟨y1a, y1b, y1c, y1d⟩ := blk2 HX8_1.out
  have q1 := HX8_1.out.lt
  go_wp2_with fail
  refine (HM2.out _).mono ?_
  rintro e w9 ⟨rfl, hg9⟩
  clear y0a y0b y0c y0d q0 y1a y1b y1c y1d q1
  have HX9_0 := Lib.hid (HX8_0.out.sub hg9)
  have HX9_1 := Lib.hid (HX8_1.out.sub hg9)
  have HG9 := Lib.hid (HG8.out.trans (hg9.mono HG8.out.size)); clear hg9
  clear HX8_0 HX8_1 HG8
  have le9 := HG9.out.size
  obtain ⟨y0a, y0b, y0c, y0d⟩ := blk2 HX9_0.out
  have q0 := HX9_0.out.lt
  obtain ⟨y1a, y1b, y1c, y1d⟩ := blk2 HX9_1.out
  have q1 := HX9_1.out.lt
  have f2 : decide (r ≤ 60 - n) = true := decide_eq_true hle
  go_wp2_with fail
  go_ret
  exact ⟨rfl, HG9.out⟩
end Go.Proofs.Ytaaiklhkhgennaa
