/- Draws of nodes. -/
import Derived.Test.YtnljibgjfobkbaaDoorTx2
import Derived.Test.YtnljibgjfobkbaaDoorOpen
import Derived.Test.YtnljibgjfobkbaaDoorWords2
import Derived.RegionTactic
namespace Go.Proofs.YtnljibgjfobkbaaDoor
open Go.RowKit
attribute [local go_sem ↓] Go.wp_at_zero Go.wp_at_succ

theorem bytes_more {w : World} {B B' : Nat} {A : Option Addr} {n : Nat} (h : Bytes w B A n) (hB : B ≤ B') : Bytes w B' A n := fun hn => by
  obtain ⟨b, off, e, hb, hc⟩ := h hn
  exact ⟨b, off, e, by omega, hc⟩
theorem results_one3 {P : Program} {fn : Func} {p : Tmp} {ty : TypeId} {a b c : Value} (h : fn.results = #[.cell p ty]) (tmps : Array Value) (w : World) (g : Nat) (t : TypeId) (d : TypeDesc)
    (hp : tmps.getD p undef = .pointer (some ⟨g, 0, none⟩)) (hg : Blk w g t #[a, b, c])
    (hu : P.underlying ty = some d) (hd : (match d with | .struct _ | .array _ _ => true | _ => false) = true) (hi : (P.info? ty).map (·.size) = some 3) :
    (results fn tmps).run P w = .ok (.agg #[a, b, c]) w := by
  have hp' : tmps[p]?.getD undef = .pointer (some ⟨g, 0, none⟩) := by simpa using hp
  simp [results, h, hp', asAddr, run_loadVar_row w g t ty #[a, b, c] (0, 0) d hg hu hd hi]
def DrawNodePost (w : World) (en : Ending) (w' : World) : Prop := ∃ (e j : Int) (o : Bool), en = .returned (.agg #[.int .i64 e, .int .i64 j, .bool o]) ∧ ((-1 ≤ e ∧ e ≤ 200001) ∧ (-1 ≤ j ∧ j ≤ 25)) ∧ Below w.heap.size w w'

set_option maxHeartbeats 2000000 in
theorem DrawNodeText_any (A : Option Addr) (n c : Nat) (w : World) (hm : n ≤ 140737488355328) (hc : n ≤ c) (hb : Bytes w w.heap.size A n) :
    Calls Tryd.prog 14 #[.slice A n c] w (DrawNodePost w) := by
  have HBY : Hid (Bytes (w.alloc (.cells #[.int .i64 0, .int .i64 0, .bool false] 25)) (w.alloc (.cells #[.int .i64 0, .int .i64 0, .bool false] 25)).heap.size A n) :=
    (bytes_more (hb.keep fun p hp => World.cell?_alloc_lt w _ p hp) (by simp))
  have HX := Lib.hid (Blk.new w 25 #[.int .i64 0, .int .i64 0, .bool false])
  have HB := Lib.hid ((Below.refl w.heap.size w).alloc (Nat.le_refl _) (.cells #[.int .i64 0, .int .i64 0, .bool false] 25))
  clear hb
  go_enter Tryd.func14, Tryd.ntmps14
  go_wp2_with fail
  refine (l6Open_any A n c _ hm hc HBY.out).mono ?_
  rintro e w1 ⟨rfl, hR1, hb1⟩
  rw [World.size_alloc] at hR1
  have HX1 := Lib.hid (HX.out.sub hb1)
  have HG1 := Lib.hid (HB.out.trans (hb1.mono HB.out.size))
  have HR1 := Lib.hid hR1; clear hR1 hb1 HX HB HBY
  simp only [World.size_alloc]
  go_wp2_with fail
  refine (pick_any (w.heap.size + 1) (w.heap.size + 1) _ 200 _ (by omega) (by omega) (by omega) HR1.out).mono ?_
  rintro e w2 ⟨v2, rfl, hv2, hR2, hg2⟩
  have b2 := hv2.lt (by omega)
  have HX2_0 := Lib.hid (HX1.out.gb hg2 (by omega))
  have HR2 := Lib.hid hR2; clear hR2
  have HG2 := Lib.hid (below_of_gb HG1.out hg2 HG1.out.size (by omega)); clear hg2
  clear HX1 HR1 HG1
  have lt2 := HR2.out.lt
  have le2 := HG2.out.size
  clear hv2
  go_wp2_with fail
  refine (pick_any (w.heap.size + 1) (w.heap.size + 1) _ 9 _ (by omega) (by omega) (by omega) HR2.out).mono ?_
  rintro e w3 ⟨v3, rfl, hv3, hR3, hg3⟩
  have b3 := hv3.lt (by omega)
  have HX3_0 := Lib.hid (HX2_0.out.gb hg3 (by omega))
  have HR3 := Lib.hid hR3; clear hR3
  have HG3 := Lib.hid (below_of_gb HG2.out hg3 HG2.out.size (by omega)); clear hg3
  clear HX2_0 HR2 HG2
  have lt3 := HR3.out.lt
  have le3 := HG3.out.size
  clear hv3
  go_wp2_with fail
  refine (pick_any (w.heap.size + 1) (w.heap.size + 1) _ 2 _ (by omega) (by omega) (by omega) HR3.out).mono ?_
  rintro e w4 ⟨v4, rfl, hv4, hR4, hg4⟩
  have b4 := hv4.lt (by omega)
  have HX4_0 := Lib.hid (HX3_0.out.gb hg4 (by omega))
  have HR4 := Lib.hid hR4; clear hR4
  have HG4 := Lib.hid (below_of_gb HG3.out hg4 HG3.out.size (by omega)); clear hg4
  clear HX3_0 HR3 HG3
  have lt4 := HR4.out.lt
  have le4 := HG4.out.size
  clear hv4
  obtain ⟨o, ho⟩ : ∃ o, (v4 == 0) = o := ⟨_, rfl⟩
  have HO := Lib.hid ho
  have h01 : v4 = 0 ∨ v4 = 1 := by omega
  rcases h01 with rfl | rfl
  · have hz0 : w.heap.size < w4.heap.size := HX4_0.out.lt
    clear HO ho
    have HR5 := Lib.hid (HR4.out.alloc (.cells #[.int .i64 (v2 * 50), .int .i64 v3, .bool true] 25))
    have HG5 := Lib.hid (HG4.out.alloc HG4.out.size (.cells #[.int .i64 (v2 * 50), .int .i64 v3, .bool true] 25))
    have HX5_0 := Lib.hid (HX4_0.out.alloc (.cells #[.int .i64 (v2 * 50), .int .i64 v3, .bool true] 25))
    have HX5_n := Lib.hid (Blk.new w4 25 #[.int .i64 (v2 * 50), .int .i64 v3, .bool true])
    clear HX4_0 HR4 HG4
    go_wp2_with fail
    refine (pick_any (w.heap.size + 1) (w.heap.size + 1) _ 20 _ (by omega) (by omega) (by omega) HR5.out).mono ?_
    rintro e w6 ⟨v6, rfl, hv6, hR6, hg6⟩
    have b6 := hv6.lt (by omega)
    have HX6_0 := Lib.hid (HX5_0.out.gb hg6 (by omega))
    have HX6_1 := Lib.hid (HX5_n.out.gb hg6 (by omega))
    have HR6 := Lib.hid hR6; clear hR6
    have HG6 := Lib.hid (below_of_gb HG5.out hg6 HG5.out.size (by omega)); clear hg6
    clear HX5_0 HX5_n HR5 HG5
    have lt6 := HR6.out.lt
    have le6 := HG6.out.size
    clear hv6
    have ltz := HX6_0.out.lt
    have hzx0 : w.heap.size < w4.heap.size := hz0
    by_cases h0 : v6 = 0
    · subst h0
      have HR7 := Lib.hid (HR6.out.alloc (.cells #[.int .i64 (-1), .int .i64 200001] 3))
      have HG7 := Lib.hid (HG6.out.alloc HG6.out.size (.cells #[.int .i64 (-1), .int .i64 200001] 3))
      have HX7_0 := Lib.hid (HX6_0.out.alloc (.cells #[.int .i64 (-1), .int .i64 200001] 3))
      have HX7_1 := Lib.hid (HX6_1.out.alloc (.cells #[.int .i64 (-1), .int .i64 200001] 3))
      have HX7_n := Lib.hid (Blk.new w6 3 #[.int .i64 (-1), .int .i64 200001])
      clear HX6_0 HX6_1 HR6 HG6
      go_wp2_with fail
      refine (pick_any (w.heap.size + 1) (w.heap.size + 1) _ 2 _ (by omega) (by omega) (by omega) HR7.out).mono ?_
      rintro e w8 ⟨v8, rfl, hv8, hR8, hg8⟩
      have b8 := hv8.lt (by omega)
      have HX8_0 := Lib.hid (HX7_0.out.gb hg8 (by omega))
      have HX8_1 := Lib.hid (HX7_1.out.gb hg8 (by omega))
      have HX8_2 := Lib.hid (HX7_n.out.gb hg8 (by omega))
      have HR8 := Lib.hid hR8; clear hR8
      have HG8 := Lib.hid (below_of_gb HG7.out hg8 HG7.out.size (by omega)); clear hg8
      clear HX7_0 HX7_1 HX7_n HR7 HG7
      have lt8 := HR8.out.lt
      have le8 := HG8.out.size
      clear hv8
      obtain ⟨j8, rfl⟩ : ∃ j8 : Nat, v8 = j8 := ⟨v8.toNat, by omega⟩
      obtain ⟨n1, hn1, kn1⟩ : ∃ x : Int, w8.cell? ⟨w6.heap.size, j8, none⟩ = some (.int .i64 x) ∧ (-1 ≤ x ∧ x ≤ 200001) := by
        rw [HX8_2.out.cell]
        have hj : j8 = 0 ∨ j8 = 1 := by omega
        rcases hj with rfl | rfl <;> exact ⟨_, rfl, by omega, by omega⟩
      have ij8a : (0 : Int) ≤ (j8 : Int) := by omega
      have ij8b : (j8 : Int) < 2 := by omega
      obtain ⟨y0a, y0b, y0e, y0c, y0d, y0f⟩ := blk3 HX8_0.out
      have q0 := HX8_0.out.lt
      obtain ⟨y1a, y1b, y1e, y1c, y1d, y1f⟩ := blk3 HX8_1.out
      have q1 := HX8_1.out.lt
      have q2 := HX8_2.out.lt
      have leX : w.heap.size ≤ w4.heap.size := by omega
      have hzx : w.heap.size ≠ w4.heap.size := by omega
      have HZ := Lib.hid ((((HX8_0.out.far (p := ⟨w4.heap.size, 0, none⟩) hzx (.int .i64 n1)).set 0 (.int .i64 (n1))).set 1 (.int .i64 (v3))).set 2 (.bool true))
      have HGZ := Lib.hid ((((HG8.out.setCell (p := ⟨w4.heap.size, 0, none⟩) leX (.int .i64 n1)).setCell (p := ⟨w.heap.size, 0, none⟩) (Nat.le_refl _) (.int .i64 (n1))).setCell (p := ⟨w.heap.size, 1, none⟩) (Nat.le_refl _) (.int .i64 (v3))).setCell (p := ⟨w.heap.size, 2, none⟩) (Nat.le_refl _) (.bool true))
      go_wp2_with fail
      refine bodyPost_ret (results_one3 rfl _ _ w.heap.size _ _ rfl HZ.out Tryd.underlying25 rfl (by kernel_rfl)) rfl ?_
      exact ⟨_, _, _, rfl, by omega, HGZ.out⟩
    by_cases h1 : v6 = 1
    · subst h1
      have HR7 := Lib.hid (HR6.out.alloc (.cells #[.int .i64 (-1), .int .i64 25] 3))
      have HG7 := Lib.hid (HG6.out.alloc HG6.out.size (.cells #[.int .i64 (-1), .int .i64 25] 3))
      have HX7_0 := Lib.hid (HX6_0.out.alloc (.cells #[.int .i64 (-1), .int .i64 25] 3))
      have HX7_1 := Lib.hid (HX6_1.out.alloc (.cells #[.int .i64 (-1), .int .i64 25] 3))
      have HX7_n := Lib.hid (Blk.new w6 3 #[.int .i64 (-1), .int .i64 25])
      clear HX6_0 HX6_1 HR6 HG6
      go_wp2_with fail
      refine (pick_any (w.heap.size + 1) (w.heap.size + 1) _ 2 _ (by omega) (by omega) (by omega) HR7.out).mono ?_
      rintro e w8 ⟨v8, rfl, hv8, hR8, hg8⟩
      have b8 := hv8.lt (by omega)
      have HX8_0 := Lib.hid (HX7_0.out.gb hg8 (by omega))
      have HX8_1 := Lib.hid (HX7_1.out.gb hg8 (by omega))
      have HX8_2 := Lib.hid (HX7_n.out.gb hg8 (by omega))
      have HR8 := Lib.hid hR8; clear hR8
      have HG8 := Lib.hid (below_of_gb HG7.out hg8 HG7.out.size (by omega)); clear hg8
      clear HX7_0 HX7_1 HX7_n HR7 HG7
      have lt8 := HR8.out.lt
      have le8 := HG8.out.size
      clear hv8
      obtain ⟨j8, rfl⟩ : ∃ j8 : Nat, v8 = j8 := ⟨v8.toNat, by omega⟩
      obtain ⟨n1, hn1, kn1⟩ : ∃ x : Int, w8.cell? ⟨w6.heap.size, j8, none⟩ = some (.int .i64 x) ∧ (-1 ≤ x ∧ x ≤ 25) := by
        rw [HX8_2.out.cell]
        have hj : j8 = 0 ∨ j8 = 1 := by omega
        rcases hj with rfl | rfl <;> exact ⟨_, rfl, by omega, by omega⟩
      have ij8a : (0 : Int) ≤ (j8 : Int) := by omega
      have ij8b : (j8 : Int) < 2 := by omega
      obtain ⟨y0a, y0b, y0e, y0c, y0d, y0f⟩ := blk3 HX8_0.out
      have q0 := HX8_0.out.lt
      obtain ⟨y1a, y1b, y1e, y1c, y1d, y1f⟩ := blk3 HX8_1.out
      have q1 := HX8_1.out.lt
      have q2 := HX8_2.out.lt
      have leX : w.heap.size ≤ w4.heap.size := by omega
      have hzx : w.heap.size ≠ w4.heap.size := by omega
      have HZ := Lib.hid ((((HX8_0.out.far (p := ⟨w4.heap.size, 1, none⟩) hzx (.int .i64 n1)).set 0 (.int .i64 (v2 * 50))).set 1 (.int .i64 (n1))).set 2 (.bool true))
      have HGZ := Lib.hid ((((HG8.out.setCell (p := ⟨w4.heap.size, 1, none⟩) leX (.int .i64 n1)).setCell (p := ⟨w.heap.size, 0, none⟩) (Nat.le_refl _) (.int .i64 (v2 * 50))).setCell (p := ⟨w.heap.size, 1, none⟩) (Nat.le_refl _) (.int .i64 (n1))).setCell (p := ⟨w.heap.size, 2, none⟩) (Nat.le_refl _) (.bool true))
      go_wp2_with fail
      refine bodyPost_ret (results_one3 rfl _ _ w.heap.size _ _ rfl HZ.out Tryd.underlying25 rfl (by kernel_rfl)) rfl ?_
      exact ⟨_, _, _, rfl, by omega, HGZ.out⟩
    have e0 : (v6 == 0) = false := by simpa using h0
    have e1 : (v6 == 1) = false := by simpa using h1
    obtain ⟨y0a, y0b, y0e, y0c, y0d, y0f⟩ := blk3 HX6_0.out
    have q0 := HX6_0.out.lt
    obtain ⟨y1a, y1b, y1e, y1c, y1d, y1f⟩ := blk3 HX6_1.out
    have q1 := HX6_1.out.lt
    have HZ := Lib.hid (((HX6_0.out.set 0 (.int .i64 (v2 * 50))).set 1 (.int .i64 (v3))).set 2 (.bool true))
    have HGZ := Lib.hid (((HG6.out.setCell (p := ⟨w.heap.size, 0, none⟩) (Nat.le_refl _) (.int .i64 (v2 * 50))).setCell (p := ⟨w.heap.size, 1, none⟩) (Nat.le_refl _) (.int .i64 (v3))).setCell (p := ⟨w.heap.size, 2, none⟩) (Nat.le_refl _) (.bool true))
    go_wp2_with fail
    refine bodyPost_ret (results_one3 rfl _ _ w.heap.size _ _ rfl HZ.out Tryd.underlying25 rfl (by kernel_rfl)) rfl ?_
    exact ⟨_, _, _, rfl, by omega, HGZ.out⟩
  · have hz0 : w.heap.size < w4.heap.size := HX4_0.out.lt
    clear HO ho
    have HR5 := Lib.hid (HR4.out.alloc (.cells #[.int .i64 (v2 * 50), .int .i64 v3, .bool false] 25))
    have HG5 := Lib.hid (HG4.out.alloc HG4.out.size (.cells #[.int .i64 (v2 * 50), .int .i64 v3, .bool false] 25))
    have HX5_0 := Lib.hid (HX4_0.out.alloc (.cells #[.int .i64 (v2 * 50), .int .i64 v3, .bool false] 25))
    have HX5_n := Lib.hid (Blk.new w4 25 #[.int .i64 (v2 * 50), .int .i64 v3, .bool false])
    clear HX4_0 HR4 HG4
    go_wp2_with fail
    refine (pick_any (w.heap.size + 1) (w.heap.size + 1) _ 20 _ (by omega) (by omega) (by omega) HR5.out).mono ?_
    rintro e w6 ⟨v6, rfl, hv6, hR6, hg6⟩
    have b6 := hv6.lt (by omega)
    have HX6_0 := Lib.hid (HX5_0.out.gb hg6 (by omega))
    have HX6_1 := Lib.hid (HX5_n.out.gb hg6 (by omega))
    have HR6 := Lib.hid hR6; clear hR6
    have HG6 := Lib.hid (below_of_gb HG5.out hg6 HG5.out.size (by omega)); clear hg6
    clear HX5_0 HX5_n HR5 HG5
    have lt6 := HR6.out.lt
    have le6 := HG6.out.size
    clear hv6
    have ltz := HX6_0.out.lt
    have hzx0 : w.heap.size < w4.heap.size := hz0
    by_cases h0 : v6 = 0
    · subst h0
      have HR7 := Lib.hid (HR6.out.alloc (.cells #[.int .i64 (-1), .int .i64 200001] 3))
      have HG7 := Lib.hid (HG6.out.alloc HG6.out.size (.cells #[.int .i64 (-1), .int .i64 200001] 3))
      have HX7_0 := Lib.hid (HX6_0.out.alloc (.cells #[.int .i64 (-1), .int .i64 200001] 3))
      have HX7_1 := Lib.hid (HX6_1.out.alloc (.cells #[.int .i64 (-1), .int .i64 200001] 3))
      have HX7_n := Lib.hid (Blk.new w6 3 #[.int .i64 (-1), .int .i64 200001])
      clear HX6_0 HX6_1 HR6 HG6
      go_wp2_with fail
      refine (pick_any (w.heap.size + 1) (w.heap.size + 1) _ 2 _ (by omega) (by omega) (by omega) HR7.out).mono ?_
      rintro e w8 ⟨v8, rfl, hv8, hR8, hg8⟩
      have b8 := hv8.lt (by omega)
      have HX8_0 := Lib.hid (HX7_0.out.gb hg8 (by omega))
      have HX8_1 := Lib.hid (HX7_1.out.gb hg8 (by omega))
      have HX8_2 := Lib.hid (HX7_n.out.gb hg8 (by omega))
      have HR8 := Lib.hid hR8; clear hR8
      have HG8 := Lib.hid (below_of_gb HG7.out hg8 HG7.out.size (by omega)); clear hg8
      clear HX7_0 HX7_1 HX7_n HR7 HG7
      have lt8 := HR8.out.lt
      have le8 := HG8.out.size
      clear hv8
      obtain ⟨j8, rfl⟩ : ∃ j8 : Nat, v8 = j8 := ⟨v8.toNat, by omega⟩
      obtain ⟨n1, hn1, kn1⟩ : ∃ x : Int, w8.cell? ⟨w6.heap.size, j8, none⟩ = some (.int .i64 x) ∧ (-1 ≤ x ∧ x ≤ 200001) := by
        rw [HX8_2.out.cell]
        have hj : j8 = 0 ∨ j8 = 1 := by omega
        rcases hj with rfl | rfl <;> exact ⟨_, rfl, by omega, by omega⟩
      have ij8a : (0 : Int) ≤ (j8 : Int) := by omega
      have ij8b : (j8 : Int) < 2 := by omega
      obtain ⟨y0a, y0b, y0e, y0c, y0d, y0f⟩ := blk3 HX8_0.out
      have q0 := HX8_0.out.lt
      obtain ⟨y1a, y1b, y1e, y1c, y1d, y1f⟩ := blk3 HX8_1.out
      have q1 := HX8_1.out.lt
      have q2 := HX8_2.out.lt
      have leX : w.heap.size ≤ w4.heap.size := by omega
      have hzx : w.heap.size ≠ w4.heap.size := by omega
      have HZ := Lib.hid ((((HX8_0.out.far (p := ⟨w4.heap.size, 0, none⟩) hzx (.int .i64 n1)).set 0 (.int .i64 (n1))).set 1 (.int .i64 (v3))).set 2 (.bool false))
      have HGZ := Lib.hid ((((HG8.out.setCell (p := ⟨w4.heap.size, 0, none⟩) leX (.int .i64 n1)).setCell (p := ⟨w.heap.size, 0, none⟩) (Nat.le_refl _) (.int .i64 (n1))).setCell (p := ⟨w.heap.size, 1, none⟩) (Nat.le_refl _) (.int .i64 (v3))).setCell (p := ⟨w.heap.size, 2, none⟩) (Nat.le_refl _) (.bool false))
      go_wp2_with fail
      refine bodyPost_ret (results_one3 rfl _ _ w.heap.size _ _ rfl HZ.out Tryd.underlying25 rfl (by kernel_rfl)) rfl ?_
      exact ⟨_, _, _, rfl, by omega, HGZ.out⟩
    by_cases h1 : v6 = 1
    · subst h1
      have HR7 := Lib.hid (HR6.out.alloc (.cells #[.int .i64 (-1), .int .i64 25] 3))
      have HG7 := Lib.hid (HG6.out.alloc HG6.out.size (.cells #[.int .i64 (-1), .int .i64 25] 3))
      have HX7_0 := Lib.hid (HX6_0.out.alloc (.cells #[.int .i64 (-1), .int .i64 25] 3))
      have HX7_1 := Lib.hid (HX6_1.out.alloc (.cells #[.int .i64 (-1), .int .i64 25] 3))
      have HX7_n := Lib.hid (Blk.new w6 3 #[.int .i64 (-1), .int .i64 25])
      clear HX6_0 HX6_1 HR6 HG6
      go_wp2_with fail
      refine (pick_any (w.heap.size + 1) (w.heap.size + 1) _ 2 _ (by omega) (by omega) (by omega) HR7.out).mono ?_
      rintro e w8 ⟨v8, rfl, hv8, hR8, hg8⟩
      have b8 := hv8.lt (by omega)
      have HX8_0 := Lib.hid (HX7_0.out.gb hg8 (by omega))
      have HX8_1 := Lib.hid (HX7_1.out.gb hg8 (by omega))
      have HX8_2 := Lib.hid (HX7_n.out.gb hg8 (by omega))
      have HR8 := Lib.hid hR8; clear hR8
      have HG8 := Lib.hid (below_of_gb HG7.out hg8 HG7.out.size (by omega)); clear hg8
      clear HX7_0 HX7_1 HX7_n HR7 HG7
      have lt8 := HR8.out.lt
      have le8 := HG8.out.size
      clear hv8
      obtain ⟨j8, rfl⟩ : ∃ j8 : Nat, v8 = j8 := ⟨v8.toNat, by omega⟩
      obtain ⟨n1, hn1, kn1⟩ : ∃ x : Int, w8.cell? ⟨w6.heap.size, j8, none⟩ = some (.int .i64 x) ∧ (-1 ≤ x ∧ x ≤ 25) := by
        rw [HX8_2.out.cell]
        have hj : j8 = 0 ∨ j8 = 1 := by omega
        rcases hj with rfl | rfl <;> exact ⟨_, rfl, by omega, by omega⟩
      have ij8a : (0 : Int) ≤ (j8 : Int) := by omega
      have ij8b : (j8 : Int) < 2 := by omega
      obtain ⟨y0a, y0b, y0e, y0c, y0d, y0f⟩ := blk3 HX8_0.out
      have q0 := HX8_0.out.lt
      obtain ⟨y1a, y1b, y1e, y1c, y1d, y1f⟩ := blk3 HX8_1.out
      have q1 := HX8_1.out.lt
      have q2 := HX8_2.out.lt
      have leX : w.heap.size ≤ w4.heap.size := by omega
      have hzx : w.heap.size ≠ w4.heap.size := by omega
      have HZ := Lib.hid ((((HX8_0.out.far (p := ⟨w4.heap.size, 1, none⟩) hzx (.int .i64 n1)).set 0 (.int .i64 (v2 * 50))).set 1 (.int .i64 (n1))).set 2 (.bool false))
      have HGZ := Lib.hid ((((HG8.out.setCell (p := ⟨w4.heap.size, 1, none⟩) leX (.int .i64 n1)).setCell (p := ⟨w.heap.size, 0, none⟩) (Nat.le_refl _) (.int .i64 (v2 * 50))).setCell (p := ⟨w.heap.size, 1, none⟩) (Nat.le_refl _) (.int .i64 (n1))).setCell (p := ⟨w.heap.size, 2, none⟩) (Nat.le_refl _) (.bool false))
      go_wp2_with fail
      refine bodyPost_ret (results_one3 rfl _ _ w.heap.size _ _ rfl HZ.out Tryd.underlying25 rfl (by kernel_rfl)) rfl ?_
      exact ⟨_, _, _, rfl, by omega, HGZ.out⟩
    have e0 : (v6 == 0) = false := by simpa using h0
    have e1 : (v6 == 1) = false := by simpa using h1
    obtain ⟨y0a, y0b, y0e, y0c, y0d, y0f⟩ := blk3 HX6_0.out
    have q0 := HX6_0.out.lt
    obtain ⟨y1a, y1b, y1e, y1c, y1d, y1f⟩ := blk3 HX6_1.out
    have q1 := HX6_1.out.lt
    have HZ := Lib.hid (((HX6_0.out.set 0 (.int .i64 (v2 * 50))).set 1 (.int .i64 (v3))).set 2 (.bool false))
    have HGZ := Lib.hid (((HG6.out.setCell (p := ⟨w.heap.size, 0, none⟩) (Nat.le_refl _) (.int .i64 (v2 * 50))).setCell (p := ⟨w.heap.size, 1, none⟩) (Nat.le_refl _) (.int .i64 (v3))).setCell (p := ⟨w.heap.size, 2, none⟩) (Nat.le_refl _) (.bool false))
    go_wp2_with fail
    refine bodyPost_ret (results_one3 rfl _ _ w.heap.size _ _ rfl HZ.out Tryd.underlying25 rfl (by kernel_rfl)) rfl ?_
    exact ⟨_, _, _, rfl, by omega, HGZ.out⟩
end Go.Proofs.YtnljibgjfobkbaaDoor
