/- Draws for SeriesFind and SeriesMany. -/
import Derived.Test.YtaaiklhkhgennaaDrawR
import Derived.RegionTactic
namespace Go.Proofs.Ytaaiklhkhgennaa
open Go.RowKit
attribute [local go_sem ↓] Go.wp_at_zero Go.wp_at_succ

theorem bytes_more {w : World} {B B' : Nat} {A : Option Addr} {n : Nat} (h : Bytes w B A n) (hB : B ≤ B') : Bytes w B' A n := fun hn => by
  obtain ⟨b, off, e, hb, hc⟩ := h hn
  exact ⟨b, off, e, by omega, hc⟩
theorem results_irat {P : Program} {fn : Func} {p t1 : Tmp} {ty : TypeId} {a b : Value} (h : fn.results = #[.tmp t1, .cell p ty]) (tmps : Array Value) (w : World) (g : Nat) (t : TypeId) (d : TypeDesc)
    (hp : tmps.getD p undef = .pointer (some ⟨g, 0, none⟩)) (hg : Blk w g t #[a, b])
    (hu : P.underlying ty = some d) (hd : (match d with | .struct _ | .array _ _ => true | _ => false) = true) (hi : (P.info? ty).map (·.size) = some 2) :
    (results fn tmps).run P w = .ok (.tuple #[tmps.getD t1 undef, .agg #[a, b]]) w := by
  have hp' : tmps[p]?.getD undef = .pointer (some ⟨g, 0, none⟩) := by simpa using hp
  simp [results, h, hp', asAddr, run_loadVar_row w g t ty #[a, b] (0, 0) d hg hu hd hi]
def DrawRatPost (w : World) (e : Ending) (w' : World) : Prop := ∃ a b : Int, e = .returned (.agg #[.int .i64 a, .int .i64 b]) ∧ Below w.heap.size w w'
def DrawIRatPost (w : World) (e : Ending) (w' : World) : Prop := ∃ n a b : Int, e = .returned (.tuple #[.int .i64 n, .agg #[.int .i64 a, .int .i64 b]]) ∧ Below w.heap.size w w'

set_option maxHeartbeats 2000000 in
theorem DrawSeriesFind_any (A : Option Addr) (n c : Nat) (w : World) (hm : n ≤ 140737488355328) (hc : n ≤ c) (hb : Bytes w w.heap.size A n) :
    Calls Try.prog 30 #[.slice A n c] w (DrawRatPost w) := by
  have HBY : Hid (Bytes (w.alloc (.cells #[.int .i64 0, .int .i64 0] 23)) (w.alloc (.cells #[.int .i64 0, .int .i64 0] 23)).heap.size A n) :=
    (bytes_more (hb.keep fun p hp => World.cell?_alloc_lt w _ p hp) (by simp))
  have HX := Lib.hid (Blk.new w 23 #[.int .i64 0, .int .i64 0])
  have HB := Lib.hid ((Below.refl w.heap.size w).alloc (Nat.le_refl _) (.cells #[.int .i64 0, .int .i64 0] 23))
  clear hb
  go_enter Try.func30, Try.ntmps30
  go_wp2_with fail
  refine (l6Open_any A n c _ hm hc HBY.out).mono ?_
  rintro e w1 ⟨rfl, hR1, hb1⟩
  rw [World.size_alloc] at hR1
  have HX1 := Lib.hid (HX.out.sub hb1)
  have HG1 := Lib.hid (HB.out.trans (hb1.mono HB.out.size))
  have HR1 := Lib.hid hR1; clear hR1 hb1 HX HB HBY
  simp only [World.size_alloc]
  go_wp2_with fail
  refine (pick_any (w.heap.size + 1) (w.heap.size + 1) _ 8 _ (by omega) (by omega) (by omega) HR1.out).mono ?_
  rintro e w2 ⟨v2, rfl, hv2, hR2, hg2⟩
  have b2 := hv2.lt (by omega)
  have HX2_0 := Lib.hid (HX1.out.gb hg2 (by omega))
  have HR2 := Lib.hid hR2; clear hR2
  have HG2 := Lib.hid (below_of_gb HG1.out hg2 HG1.out.size (by omega)); clear hg2
  clear HX1 HR1 HG1
  have lt2 := HR2.out.lt
  have le2 := HG2.out.size
  clear hv2
  by_cases h0 : v2 = 0
  · subst h0
    go_wp2_with fail
    refine (l91Wrong_any (w.heap.size + 1) (w.heap.size + 1) _ _ (by omega) HR2.out).mono ?_
    rintro e w3 ⟨x1, x2, rfl, hx, hR3, hg3⟩
    have HX3_0 := Lib.hid (HX2_0.out.gb hg3 (by omega))
    have HR3 := Lib.hid hR3; clear hR3
    have HG3 := Lib.hid (below_of_gb HG2.out hg3 HG2.out.size (by omega)); clear hg3
    clear HX2_0 HR2 HG2
    have lt3 := HR3.out.lt
    have le3 := HG3.out.size
    obtain ⟨y0a, y0b, y0c, y0d⟩ := blk2 HX3_0.out
    have q0 := HX3_0.out.lt
    have HZ := Lib.hid (((HX3_0.out.set 0 (.int .i64 x1)).set 1 (.int .i64 x2)))
    have HGZ := Lib.hid ((HG3.out.setCell (p := ⟨w.heap.size, 0, none⟩) (Nat.le_refl _) (.int .i64 x1)).setCell (p := ⟨w.heap.size, 1, none⟩) (Nat.le_refl _) (.int .i64 x2))
    go_wp2_with fail
    refine bodyPost_ret (results_rat1 rfl _ _ w.heap.size _ _ rfl HZ.out Try.underlying23 rfl (by kernel_rfl)) rfl ?_
    exact ⟨_, _, rfl, HGZ.out⟩
  have e0 : (v2 == 0) = false := by simpa using h0
  clear h0
  go_wp2_with fail
  refine (l93Pair_any (w.heap.size + 1) (w.heap.size + 1) _ _ (by omega) HR2.out).mono ?_
  rintro e w3 ⟨n2, m2, rfl, hnm, hR3, hg3⟩
  have HX3_0 := Lib.hid (HX2_0.out.gb hg3 (by omega))
  have HR3 := Lib.hid hR3; clear hR3
  have HG3 := Lib.hid (below_of_gb HG2.out hg3 HG2.out.size (by omega)); clear hg3
  clear HX2_0 HR2 HG2
  have lt3 := HR3.out.lt
  have le3 := HG3.out.size
  obtain ⟨x1, x2, ok, hser⟩ : ∃ x1 x2 ok, serB n2 m2 = ((x1, x2), ok) := ⟨_, _, _, rfl⟩
  have HS := Lib.hid (fun W => specSeriesLine_any n2 m2 W)
  rw [hser] at HS
  clear hser
  go_wp2_with fail
  refine (HS.out _).mono ?_
  rintro e w4 ⟨rfl, hg4⟩
  rw [okV_form]
  have HX4_0 := Lib.hid (HX3_0.out.sub hg4)
  have HR4 := Lib.hid (HR3.out.below hg4)
  have HG4 := Lib.hid (HG3.out.trans (hg4.mono HG3.out.size)); clear hg4
  clear HX3_0 HR3 HG3
  have lt4 := HR4.out.lt
  have le4 := HG4.out.size
  obtain ⟨y0a, y0b, y0c, y0d⟩ := blk2 HX4_0.out
  have q0 := HX4_0.out.lt
  have HZ := Lib.hid (((HX4_0.out.set 0 (.int .i64 x1)).set 1 (.int .i64 x2)).alloc (.cells #[.int .i64 x1, .int .i64 x2] 23))
  have HGY := Lib.hid ((HG4.out.setCell (p := ⟨w.heap.size, 0, none⟩) (Nat.le_refl _) (.int .i64 x1)).setCell (p := ⟨w.heap.size, 1, none⟩) (Nat.le_refl _) (.int .i64 x2))
  have HGZ := Lib.hid (HGY.out.alloc HGY.out.size (.cells #[.int .i64 x1, .int .i64 x2] 23))
  go_wp2_with fail
  refine bodyPost_ret (results_rat1 rfl _ _ w.heap.size _ _ rfl HZ.out Try.underlying23 rfl (by kernel_rfl)) rfl ?_
  exact ⟨_, _, rfl, HGZ.out⟩

set_option maxHeartbeats 2000000 in
theorem DrawSeriesMany_any (A : Option Addr) (n c : Nat) (w : World) (hm : n ≤ 140737488355328) (hc : n ≤ c) (hb : Bytes w w.heap.size A n) :
    Calls Try.prog 31 #[.slice A n c] w (DrawIRatPost w) := by
  have HBY : Hid (Bytes (w.alloc (.cells #[.int .i64 0, .int .i64 0] 23)) (w.alloc (.cells #[.int .i64 0, .int .i64 0] 23)).heap.size A n) :=
    (bytes_more (hb.keep fun p hp => World.cell?_alloc_lt w _ p hp) (by simp))
  have HX := Lib.hid (Blk.new w 23 #[.int .i64 0, .int .i64 0])
  have HB := Lib.hid ((Below.refl w.heap.size w).alloc (Nat.le_refl _) (.cells #[.int .i64 0, .int .i64 0] 23))
  clear hb
  go_enter Try.func31, Try.ntmps31
  go_wp2_with fail
  refine (l6Open_any A n c _ hm hc HBY.out).mono ?_
  rintro e w1 ⟨rfl, hR1, hb1⟩
  rw [World.size_alloc] at hR1
  have HX1 := Lib.hid (HX.out.sub hb1)
  have HG1 := Lib.hid (HB.out.trans (hb1.mono HB.out.size))
  have HR1 := Lib.hid hR1; clear hR1 hb1 HX HB HBY
  simp only [World.size_alloc]
  go_wp2_with fail
  refine (l93Pair_any (w.heap.size + 1) (w.heap.size + 1) _ _ (by omega) HR1.out).mono ?_
  rintro e w2 ⟨n2, m2, rfl, hnm, hR2, hg2⟩
  have HX2_0 := Lib.hid (HX1.out.gb hg2 (by omega))
  have HR2 := Lib.hid hR2; clear hR2
  have HG2 := Lib.hid (below_of_gb HG1.out hg2 HG1.out.size (by omega)); clear hg2
  clear HX1 HR1 HG1
  have lt2 := HR2.out.lt
  have le2 := HG2.out.size
  obtain ⟨x1, x2, ok, hser⟩ : ∃ x1 x2 ok, serB n2 m2 = ((x1, x2), ok) := ⟨_, _, _, rfl⟩
  have HS := Lib.hid (fun W => specSeriesLine_any n2 m2 W)
  rw [hser] at HS
  clear hser
  go_wp2_with fail
  refine (HS.out _).mono ?_
  rintro e w3 ⟨rfl, hg3⟩
  rw [okV_form]
  have HX3_0 := Lib.hid (HX2_0.out.sub hg3)
  have HR3 := Lib.hid (HR2.out.below hg3)
  have HG3 := Lib.hid (HG2.out.trans (hg3.mono HG2.out.size)); clear hg3
  clear HX2_0 HR2 HG2
  have lt3 := HR3.out.lt
  have le3 := HG3.out.size
  have HR4 := Lib.hid (HR3.out.alloc (.cells #[.int .i64 x1, .int .i64 x2] 23))
  have HG4 := Lib.hid (HG3.out.alloc HG3.out.size (.cells #[.int .i64 x1, .int .i64 x2] 23))
  have HX4_0 := Lib.hid (HX3_0.out.alloc (.cells #[.int .i64 x1, .int .i64 x2] 23))
  have HX4_n := Lib.hid (Blk.new w3 23 #[.int .i64 x1, .int .i64 x2])
  clear HX3_0 HR3 HG3
  cases ok
  · go_wp2_with fail
    refine (l91Wrong_any (w.heap.size + 1) (w.heap.size + 1) _ _ (by omega) HR4.out).mono ?_
    rintro e w5 ⟨z1, z2, rfl, hz, hR5, hg5⟩
    have HX5_0 := Lib.hid (HX4_0.out.gb hg5 (by omega))
    have HX5_1 := Lib.hid (HX4_n.out.gb hg5 (by omega))
    have HR5 := Lib.hid hR5; clear hR5
    have HG5 := Lib.hid (below_of_gb HG4.out hg5 HG4.out.size (by omega)); clear hg5
    clear HX4_0 HX4_n HR4 HG4
    have lt5 := HR5.out.lt
    have le5 := HG5.out.size
    obtain ⟨y0a, y0b, y0c, y0d⟩ := blk2 HX5_0.out
    have q0 := HX5_0.out.lt
    obtain ⟨y1a, y1b, y1c, y1d⟩ := blk2 HX5_1.out
    have q1 := HX5_1.out.lt
    have HZ := Lib.hid (((HX5_0.out.set 0 (.int .i64 z1)).set 1 (.int .i64 z2)))
    have HGZ := Lib.hid ((HG5.out.setCell (p := ⟨w.heap.size, 0, none⟩) (Nat.le_refl _) (.int .i64 z1)).setCell (p := ⟨w.heap.size, 1, none⟩) (Nat.le_refl _) (.int .i64 z2))
    go_wp2_with fail
    refine bodyPost_ret (results_irat rfl _ _ w.heap.size _ _ rfl HZ.out Try.underlying23 rfl (by kernel_rfl)) rfl ?_
    exact ⟨_, _, _, rfl, HGZ.out⟩
  go_wp2_with fail
  refine (pick_any (w.heap.size + 1) (w.heap.size + 1) _ 6 _ (by omega) (by omega) (by omega) HR4.out).mono ?_
  rintro e w5 ⟨v5, rfl, hv5, hR5, hg5⟩
  have b5 := hv5.lt (by omega)
  have HX5_0 := Lib.hid (HX4_0.out.gb hg5 (by omega))
  have HX5_1 := Lib.hid (HX4_n.out.gb hg5 (by omega))
  have HR5 := Lib.hid hR5; clear hR5
  have HG5 := Lib.hid (below_of_gb HG4.out hg5 HG4.out.size (by omega)); clear hg5
  clear HX4_0 HX4_n HR4 HG4
  have lt5 := HR5.out.lt
  have le5 := HG5.out.size
  clear hv5
  by_cases h0 : v5 = 0
  · subst h0
    go_wp2_with fail
    refine (l91Wrong_any (w.heap.size + 1) (w.heap.size + 1) _ _ (by omega) HR5.out).mono ?_
    rintro e w6 ⟨z1, z2, rfl, hz, hR6, hg6⟩
    have HX6_0 := Lib.hid (HX5_0.out.gb hg6 (by omega))
    have HX6_1 := Lib.hid (HX5_1.out.gb hg6 (by omega))
    have HR6 := Lib.hid hR6; clear hR6
    have HG6 := Lib.hid (below_of_gb HG5.out hg6 HG5.out.size (by omega)); clear hg6
    clear HX5_0 HX5_1 HR5 HG5
    have lt6 := HR6.out.lt
    have le6 := HG6.out.size
    obtain ⟨y0a, y0b, y0c, y0d⟩ := blk2 HX6_0.out
    have q0 := HX6_0.out.lt
    obtain ⟨y1a, y1b, y1c, y1d⟩ := blk2 HX6_1.out
    have q1 := HX6_1.out.lt
    have HZ := Lib.hid (((HX6_0.out.set 0 (.int .i64 z1)).set 1 (.int .i64 z2)))
    have HGZ := Lib.hid ((HG6.out.setCell (p := ⟨w.heap.size, 0, none⟩) (Nat.le_refl _) (.int .i64 z1)).setCell (p := ⟨w.heap.size, 1, none⟩) (Nat.le_refl _) (.int .i64 z2))
    go_wp2_with fail
    refine bodyPost_ret (results_irat rfl _ _ w.heap.size _ _ rfl HZ.out Try.underlying23 rfl (by kernel_rfl)) rfl ?_
    exact ⟨_, _, _, rfl, HGZ.out⟩
  have e0 : (v5 == 0) = false := by simpa using h0
  clear h0
  obtain ⟨y0a, y0b, y0c, y0d⟩ := blk2 HX5_0.out
  have q0 := HX5_0.out.lt
  obtain ⟨y1a, y1b, y1c, y1d⟩ := blk2 HX5_1.out
  have q1 := HX5_1.out.lt
  go_wp2_with fail
  go_region
  have HZ := Lib.hid ((HX5_0.out.drew.set 0 (.int .i64 x1)).set 1 (.int .i64 x2))
  have HGZ := Lib.hid ((HG5.out.drew.setCell (p := ⟨w.heap.size, 0, none⟩) (Nat.le_refl _) (.int .i64 x1)).setCell (p := ⟨w.heap.size, 1, none⟩) (Nat.le_refl _) (.int .i64 x2))
  all_goals
    go_wp2_with fail
    refine bodyPost_ret (results_irat rfl _ _ w.heap.size _ _ rfl HZ.out Try.underlying23 rfl (by kernel_rfl)) rfl ?_
    exact ⟨_, _, _, rfl, HGZ.out⟩
end Go.Proofs.Ytaaiklhkhgennaa
