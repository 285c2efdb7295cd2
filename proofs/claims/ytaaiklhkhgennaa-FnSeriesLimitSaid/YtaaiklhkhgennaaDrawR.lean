/- Draws of rationals. -/
import Derived.Test.YtaaiklhkhgennaaFind
import Derived.Test.YtaaiklhkhgennaaSer3
namespace Go.Proofs.Ytaaiklhkhgennaa
open Go.RowKit
attribute [local go_sem ↓] Go.wp_at_zero Go.wp_at_succ

theorem ratOf_ok {n d x1 x2 : Int} {ok : Bool} (h : ratOf n d = ((x1, x2), ok)) : ok = true → (1 ≤ x2 ∧ x2 ≤ 1000000000) ∧ (-1000000000 ≤ x1 ∧ x1 ≤ 1000000000) := by
  rintro rfl
  unfold ratOf at h
  split at h
  · cases h
  · unfold mkB at h
    split at h
    · rename_i hv
      injection h with h1 _
      rw [h1] at hv
      exact rvB_bd hv
    · cases h
theorem results_rat1 {P : Program} {fn : Func} {p : Tmp} {ty : TypeId} {a b : Value} (h : fn.results = #[.cell p ty]) (tmps : Array Value) (w : World) (g : Nat) (t : TypeId) (d : TypeDesc)
    (hp : tmps.getD p undef = .pointer (some ⟨g, 0, none⟩)) (hg : Blk w g t #[a, b])
    (hu : P.underlying ty = some d) (hd : (match d with | .struct _ | .array _ _ => true | _ => false) = true) (hi : (P.info? ty).map (·.size) = some 2) :
    (results fn tmps).run P w = .ok (.agg #[a, b]) w := by
  have hp' : tmps[p]?.getD undef = .pointer (some ⟨g, 0, none⟩) := by simpa using hp
  simp [results, h, hp', asAddr, run_loadVar_row w g t ty #[a, b] (0, 0) d hg hu hd hi]

def SmallPost (T : TypeId) (w : World) (B R N : Nat) (e : Ending) (w' : World) : Prop :=
  ∃ n : Int, e = .returned (.int .i64 n) ∧ (-20 ≤ n ∧ n ≤ 20) ∧ Rd T w' B R N ∧ w.grownBy w' (some R)
theorem l91Small_any (B R N : Nat) (w : World) (hN : N ≤ 900000) (hR : Rd 61 w B R N) :
    Calls Try.prog 55 #[.pointer (some ⟨R, 0, none⟩)] w (SmallPost 61 w B R (N + 1)) := by
  have HR0 := Lib.hid hR; clear hR
  go_enter Try.func55, Try.ntmps55
  go_wp2_with fail
  refine (pick_any B R N 41 _ (by omega) (by omega) (by omega) HR0.out).mono ?_
  rintro e w1 ⟨v1, rfl, hv1, hR1, hg1⟩
  have b1 := hv1.lt (by omega)
  have HR1 := Lib.hid hR1; have HG := Lib.hid hg1; clear hR1 hv1 HR0 hg1
  go_wp2_with fail
  go_ret
  exact ⟨_, rfl, by omega, HR1.out, HG.out⟩

def RatPost (T : TypeId) (w : World) (B R N : Nat) (e : Ending) (w' : World) : Prop :=
  ∃ a b : Int, e = .returned (.agg #[.int .i64 a, .int .i64 b]) ∧ ((-1000000001 ≤ a ∧ a ≤ 1000000001) ∧ (-1000000000 ≤ b ∧ b ≤ 1000000000)) ∧ Rd T w' B R N ∧ w.grownBy w' (some R)
set_option maxHeartbeats 4000000 in
theorem l91Rat_any (B R N : Nat) (w : World) (hN : N ≤ 800000) (hR : Rd 61 w B R N) :
    Calls Try.prog 53 #[.pointer (some ⟨R, 0, none⟩)] w (RatPost 61 w B R (N + 6)) := by
  have ltw := hR.lt
  have lew := hR.le
  have HR0 := Lib.hid hR; clear hR
  have HG0 := Lib.hid (gb_refl w (some R))
  go_enter Try.func53, Try.ntmps53
  have HR1 := Lib.hid (HR0.out.alloc (.cells #[.int .i64 0, .int .i64 0] 23))
  have HG1 := Lib.hid (gb_alloc HG0.out (.cells #[.int .i64 0, .int .i64 0] 23))
  have HX1_n := Lib.hid (Blk.new w 23 #[.int .i64 0, .int .i64 0])
  clear HR0 HG0
  go_wp2_with fail
  refine (l91Small_any B R N _ (by omega) HR1.out).mono ?_
  rintro e w2 ⟨n0, rfl, hn0, hR2, hg2⟩
  have HX2_0 := Lib.hid (HX1_n.out.gb hg2 (by omega))
  have HR2 := Lib.hid hR2; clear hR2
  have HG2 := Lib.hid (gb_trans HG1.out hg2); clear hg2
  clear HX1_n HR1 HG1
  have lt2 := HR2.out.lt
  have le2 := HG2.out.size
  go_wp2_with fail
  refine (pick_any B R _ 12 _ (by omega) (by omega) (by omega) HR2.out).mono ?_
  rintro e w3 ⟨v3, rfl, hv3, hR3, hg3⟩
  have b3 := hv3.lt (by omega)
  have HX3_0 := Lib.hid (HX2_0.out.gb hg3 (by omega))
  have HR3 := Lib.hid hR3; clear hR3
  have HG3 := Lib.hid (gb_trans HG2.out hg3); clear hg3
  clear HX2_0 HR2 HG2
  have lt3 := HR3.out.lt
  have le3 := HG3.out.size
  clear hv3
  by_cases h0 : v3 = 0
  · subst h0
    have HR4 := Lib.hid (HR3.out.alloc (.cells #[.int .i64 999999999, .int .i64 1000000000, .int .i64 (-1000000000), .int .i64 500000000] 3))
    have HG4 := Lib.hid (gb_alloc HG3.out (.cells #[.int .i64 999999999, .int .i64 1000000000, .int .i64 (-1000000000), .int .i64 500000000] 3))
    have HX4_0 := Lib.hid (HX3_0.out.alloc (.cells #[.int .i64 999999999, .int .i64 1000000000, .int .i64 (-1000000000), .int .i64 500000000] 3))
    have HX4_n := Lib.hid (Blk.new w3 3 #[.int .i64 999999999, .int .i64 1000000000, .int .i64 (-1000000000), .int .i64 500000000])
    clear HX3_0 HR3 HG3
    go_wp2_with fail
    refine (pick_any B R _ 4 _ (by omega) (by omega) (by omega) HR4.out).mono ?_
    rintro e w5 ⟨v5, rfl, hv5, hR5, hg5⟩
    have b5 := hv5.lt (by omega)
    have HX5_0 := Lib.hid (HX4_0.out.gb hg5 (by omega))
    have HX5_1 := Lib.hid (HX4_n.out.gb hg5 (by omega))
    have HR5 := Lib.hid hR5; clear hR5
    have HG5 := Lib.hid (gb_trans HG4.out hg5); clear hg5
    clear HX4_0 HX4_n HR4 HG4
    have lt5 := HR5.out.lt
    have le5 := HG5.out.size
    clear hv5
    obtain ⟨j5, rfl⟩ : ∃ j5 : Nat, v5 = j5 := ⟨v5.toNat, by omega⟩
    obtain ⟨n1, hn1, kn1⟩ : ∃ x : Int, w5.cell? ⟨w3.heap.size, j5, none⟩ = some (.int .i64 x) ∧ (-1000000000 ≤ x ∧ x ≤ 1000000000) := by
      rw [HX5_1.out.cell]
      have hj : j5 = 0 ∨ j5 = 1 ∨ j5 = 2 ∨ j5 = 3 := by omega
      rcases hj with rfl | rfl | rfl | rfl <;> exact ⟨_, rfl, by omega, by omega⟩
    have ij5a : (0 : Int) ≤ (j5 : Int) := by omega
    have ij5b : (j5 : Int) < 4 := by omega
    go_wp2_with fail
    refine (pick_any B R _ 24 _ (by omega) (by omega) (by omega) HR5.out).mono ?_
    rintro e w6 ⟨v6, rfl, hv6, hR6, hg6⟩
    have b6 := hv6.lt (by omega)
    clear hn1 ij5a ij5b
    have HX6_0 := Lib.hid (HX5_0.out.gb hg6 (by omega))
    have HX6_1 := Lib.hid (HX5_1.out.gb hg6 (by omega))
    have HR6 := Lib.hid hR6; clear hR6
    have HG6 := Lib.hid (gb_trans HG5.out hg6); clear hg6
    clear HX5_0 HX5_1 HR5 HG5
    have lt6 := HR6.out.lt
    have le6 := HG6.out.size
    clear hv6
    go_wp2_with fail
    refine (pick_any B R _ 12 _ (by omega) (by omega) (by omega) HR6.out).mono ?_
    rintro e w7 ⟨v7, rfl, hv7, hR7, hg7⟩
    have b7 := hv7.lt (by omega)
    have HX7_0 := Lib.hid (HX6_0.out.gb hg7 (by omega))
    have HX7_1 := Lib.hid (HX6_1.out.gb hg7 (by omega))
    have HR7 := Lib.hid hR7; clear hR7
    have HG7 := Lib.hid (gb_trans HG6.out hg7); clear hg7
    clear HX6_0 HX6_1 HR6 HG6
    have lt7 := HR7.out.lt
    have le7 := HG7.out.size
    clear hv7
    by_cases hd : v7 = 0
    · subst hd
      have HR8 := Lib.hid (HR7.out.alloc (.cells #[.int .i64 1000000000, .int .i64 999999999, .int .i64 999999937, .int .i64 65536] 3))
      have HG8 := Lib.hid (gb_alloc HG7.out (.cells #[.int .i64 1000000000, .int .i64 999999999, .int .i64 999999937, .int .i64 65536] 3))
      have HX8_0 := Lib.hid (HX7_0.out.alloc (.cells #[.int .i64 1000000000, .int .i64 999999999, .int .i64 999999937, .int .i64 65536] 3))
      have HX8_1 := Lib.hid (HX7_1.out.alloc (.cells #[.int .i64 1000000000, .int .i64 999999999, .int .i64 999999937, .int .i64 65536] 3))
      have HX8_n := Lib.hid (Blk.new w7 3 #[.int .i64 1000000000, .int .i64 999999999, .int .i64 999999937, .int .i64 65536])
      clear HX7_0 HX7_1 HR7 HG7
      go_wp2_with fail
      refine (pick_any B R _ 4 _ (by omega) (by omega) (by omega) HR8.out).mono ?_
      rintro e w9 ⟨v9, rfl, hv9, hR9, hg9⟩
      have b9 := hv9.lt (by omega)
      have HX9_0 := Lib.hid (HX8_0.out.gb hg9 (by omega))
      have HX9_1 := Lib.hid (HX8_1.out.gb hg9 (by omega))
      have HX9_2 := Lib.hid (HX8_n.out.gb hg9 (by omega))
      have HR9 := Lib.hid hR9; clear hR9
      have HG9 := Lib.hid (gb_trans HG8.out hg9); clear hg9
      clear HX8_0 HX8_1 HX8_n HR8 HG8
      have lt9 := HR9.out.lt
      have le9 := HG9.out.size
      clear hv9
      obtain ⟨j9, rfl⟩ : ∃ j9 : Nat, v9 = j9 := ⟨v9.toNat, by omega⟩
      obtain ⟨d1, hd1, kd1⟩ : ∃ x : Int, w9.cell? ⟨w7.heap.size, j9, none⟩ = some (.int .i64 x) ∧ (65536 ≤ x ∧ x ≤ 1000000000) := by
        rw [HX9_2.out.cell]
        have hj : j9 = 0 ∨ j9 = 1 ∨ j9 = 2 ∨ j9 = 3 := by omega
        rcases hj with rfl | rfl | rfl | rfl <;> exact ⟨_, rfl, by omega, by omega⟩
      have ij9a : (0 : Int) ≤ (j9 : Int) := by omega
      have ij9b : (j9 : Int) < 4 := by omega
      have HO := Lib.hid (fun W => specRatOf_any (n1) (d1) W (by omega) (by omega) (by omega))
      obtain ⟨x1, x2, ok, hx⟩ : ∃ x1 x2 ok, ratOf (n1) (d1) = ((x1, x2), ok) := ⟨_, _, _, rfl⟩
      have hbx := ratOf_ok hx
      rw [hx] at HO
      clear hx
      go_wp2_with fail
      refine (HO.out _).mono ?_
      rintro e w10 ⟨rfl, hg10⟩
      rw [okV_form]
      clear hd1 ij9a ij9b
      have HX10_0 := Lib.hid (HX9_0.out.sub hg10)
      have HX10_1 := Lib.hid (HX9_1.out.sub hg10)
      have HX10_2 := Lib.hid (HX9_2.out.sub hg10)
      have HR10 := Lib.hid (HR9.out.below hg10)
      have HG10 := Lib.hid (gb_below HG9.out hg10); clear hg10
      clear HX9_0 HX9_1 HX9_2 HR9 HG9
      have lt10 := HR10.out.lt
      have le10 := HG10.out.size
      obtain ⟨y0a, y0b, y0c, y0d⟩ := blk2 HX10_0.out
      have q0 := HX10_0.out.lt
      have q1 := HX10_1.out.lt
      have q2 := HX10_2.out.lt
      cases ok
      · clear hbx
        have HZ := Lib.hid (((HX10_0.out.set 0 (.int .i64 1)).set 1 (.int .i64 2)).alloc (.cells #[.int .i64 x1, .int .i64 x2] 23))
        have HGZ := Lib.hid (gb_alloc (gb_setCell (p := ⟨w.heap.size, 1, none⟩) (gb_setCell (p := ⟨w.heap.size, 0, none⟩) HG10.out (.inr (Nat.le_refl _)) (.int .i64 1)) (.inr (Nat.le_refl _)) (.int .i64 2)) (.cells #[.int .i64 x1, .int .i64 x2] 23))
        have HRZ := Lib.hid (((HR10.out.setCell (p := ⟨w.heap.size, 0, none⟩) (by show B ≤ w.heap.size; omega) (by show w.heap.size ≠ R; omega) (.int .i64 1)).setCell (p := ⟨w.heap.size, 1, none⟩) (by show B ≤ w.heap.size; omega) (by show w.heap.size ≠ R; omega) (.int .i64 2)).alloc (.cells #[.int .i64 x1, .int .i64 x2] 23))
        go_wp2_with fail
        refine bodyPost_ret (results_rat1 rfl _ _ w.heap.size _ _ rfl HZ.out Try.underlying23 rfl (by kernel_rfl)) rfl ?_
        exact ⟨_, _, rfl, by omega, HRZ.out.more (by omega), HGZ.out⟩
      · replace hbx := hbx rfl
        have HZ := Lib.hid (((HX10_0.out.set 0 (.int .i64 x1)).set 1 (.int .i64 x2)).alloc (.cells #[.int .i64 x1, .int .i64 x2] 23))
        have HGZ := Lib.hid (gb_alloc (gb_setCell (p := ⟨w.heap.size, 1, none⟩) (gb_setCell (p := ⟨w.heap.size, 0, none⟩) HG10.out (.inr (Nat.le_refl _)) (.int .i64 x1)) (.inr (Nat.le_refl _)) (.int .i64 x2)) (.cells #[.int .i64 x1, .int .i64 x2] 23))
        have HRZ := Lib.hid (((HR10.out.setCell (p := ⟨w.heap.size, 0, none⟩) (by show B ≤ w.heap.size; omega) (by show w.heap.size ≠ R; omega) (.int .i64 x1)).setCell (p := ⟨w.heap.size, 1, none⟩) (by show B ≤ w.heap.size; omega) (by show w.heap.size ≠ R; omega) (.int .i64 x2)).alloc (.cells #[.int .i64 x1, .int .i64 x2] 23))
        go_wp2_with fail
        refine bodyPost_ret (results_rat1 rfl _ _ w.heap.size _ _ rfl HZ.out Try.underlying23 rfl (by kernel_rfl)) rfl ?_
        exact ⟨_, _, rfl, by omega, HRZ.out.more (by omega), HGZ.out⟩
    · have e12 : (v7 == 0) = false := by simpa using hd
      clear hd
      have HO := Lib.hid (fun W => specRatOf_any (n1) (1 + v6) W (by omega) (by omega) (by omega))
      obtain ⟨x1, x2, ok, hx⟩ : ∃ x1 x2 ok, ratOf (n1) (1 + v6) = ((x1, x2), ok) := ⟨_, _, _, rfl⟩
      have hbx := ratOf_ok hx
      rw [hx] at HO
      clear hx
      go_wp2_with fail
      refine (HO.out _).mono ?_
      rintro e w8 ⟨rfl, hg8⟩
      rw [okV_form]
      have HX8_0 := Lib.hid (HX7_0.out.sub hg8)
      have HX8_1 := Lib.hid (HX7_1.out.sub hg8)
      have HR8 := Lib.hid (HR7.out.below hg8)
      have HG8 := Lib.hid (gb_below HG7.out hg8); clear hg8
      clear HX7_0 HX7_1 HR7 HG7
      have lt8 := HR8.out.lt
      have le8 := HG8.out.size
      obtain ⟨y0a, y0b, y0c, y0d⟩ := blk2 HX8_0.out
      have q0 := HX8_0.out.lt
      have q1 := HX8_1.out.lt
      cases ok
      · clear hbx
        have HZ := Lib.hid (((HX8_0.out.set 0 (.int .i64 1)).set 1 (.int .i64 2)).alloc (.cells #[.int .i64 x1, .int .i64 x2] 23))
        have HGZ := Lib.hid (gb_alloc (gb_setCell (p := ⟨w.heap.size, 1, none⟩) (gb_setCell (p := ⟨w.heap.size, 0, none⟩) HG8.out (.inr (Nat.le_refl _)) (.int .i64 1)) (.inr (Nat.le_refl _)) (.int .i64 2)) (.cells #[.int .i64 x1, .int .i64 x2] 23))
        have HRZ := Lib.hid (((HR8.out.setCell (p := ⟨w.heap.size, 0, none⟩) (by show B ≤ w.heap.size; omega) (by show w.heap.size ≠ R; omega) (.int .i64 1)).setCell (p := ⟨w.heap.size, 1, none⟩) (by show B ≤ w.heap.size; omega) (by show w.heap.size ≠ R; omega) (.int .i64 2)).alloc (.cells #[.int .i64 x1, .int .i64 x2] 23))
        go_wp2_with fail
        refine bodyPost_ret (results_rat1 rfl _ _ w.heap.size _ _ rfl HZ.out Try.underlying23 rfl (by kernel_rfl)) rfl ?_
        exact ⟨_, _, rfl, by omega, HRZ.out.more (by omega), HGZ.out⟩
      · replace hbx := hbx rfl
        have HZ := Lib.hid (((HX8_0.out.set 0 (.int .i64 x1)).set 1 (.int .i64 x2)).alloc (.cells #[.int .i64 x1, .int .i64 x2] 23))
        have HGZ := Lib.hid (gb_alloc (gb_setCell (p := ⟨w.heap.size, 1, none⟩) (gb_setCell (p := ⟨w.heap.size, 0, none⟩) HG8.out (.inr (Nat.le_refl _)) (.int .i64 x1)) (.inr (Nat.le_refl _)) (.int .i64 x2)) (.cells #[.int .i64 x1, .int .i64 x2] 23))
        have HRZ := Lib.hid (((HR8.out.setCell (p := ⟨w.heap.size, 0, none⟩) (by show B ≤ w.heap.size; omega) (by show w.heap.size ≠ R; omega) (.int .i64 x1)).setCell (p := ⟨w.heap.size, 1, none⟩) (by show B ≤ w.heap.size; omega) (by show w.heap.size ≠ R; omega) (.int .i64 x2)).alloc (.cells #[.int .i64 x1, .int .i64 x2] 23))
        go_wp2_with fail
        refine bodyPost_ret (results_rat1 rfl _ _ w.heap.size _ _ rfl HZ.out Try.underlying23 rfl (by kernel_rfl)) rfl ?_
        exact ⟨_, _, rfl, by omega, HRZ.out.more (by omega), HGZ.out⟩
  by_cases h1 : v3 = 1
  · subst h1
    go_wp2_with fail
    refine (pick_any B R _ 24 _ (by omega) (by omega) (by omega) HR3.out).mono ?_
    rintro e w4 ⟨v4, rfl, hv4, hR4, hg4⟩
    have b4 := hv4.lt (by omega)
    have HX4_0 := Lib.hid (HX3_0.out.gb hg4 (by omega))
    have HR4 := Lib.hid hR4; clear hR4
    have HG4 := Lib.hid (gb_trans HG3.out hg4); clear hg4
    clear HX3_0 HR3 HG3
    have lt4 := HR4.out.lt
    have le4 := HG4.out.size
    clear hv4
    go_wp2_with fail
    refine (pick_any B R _ 12 _ (by omega) (by omega) (by omega) HR4.out).mono ?_
    rintro e w5 ⟨v5, rfl, hv5, hR5, hg5⟩
    have b5 := hv5.lt (by omega)
    have HX5_0 := Lib.hid (HX4_0.out.gb hg5 (by omega))
    have HR5 := Lib.hid hR5; clear hR5
    have HG5 := Lib.hid (gb_trans HG4.out hg5); clear hg5
    clear HX4_0 HR4 HG4
    have lt5 := HR5.out.lt
    have le5 := HG5.out.size
    clear hv5
    by_cases hd : v5 = 0
    · subst hd
      have HR6 := Lib.hid (HR5.out.alloc (.cells #[.int .i64 1000000000, .int .i64 999999999, .int .i64 999999937, .int .i64 65536] 3))
      have HG6 := Lib.hid (gb_alloc HG5.out (.cells #[.int .i64 1000000000, .int .i64 999999999, .int .i64 999999937, .int .i64 65536] 3))
      have HX6_0 := Lib.hid (HX5_0.out.alloc (.cells #[.int .i64 1000000000, .int .i64 999999999, .int .i64 999999937, .int .i64 65536] 3))
      have HX6_n := Lib.hid (Blk.new w5 3 #[.int .i64 1000000000, .int .i64 999999999, .int .i64 999999937, .int .i64 65536])
      clear HX5_0 HR5 HG5
      go_wp2_with fail
      refine (pick_any B R _ 4 _ (by omega) (by omega) (by omega) HR6.out).mono ?_
      rintro e w7 ⟨v7, rfl, hv7, hR7, hg7⟩
      have b7 := hv7.lt (by omega)
      have HX7_0 := Lib.hid (HX6_0.out.gb hg7 (by omega))
      have HX7_1 := Lib.hid (HX6_n.out.gb hg7 (by omega))
      have HR7 := Lib.hid hR7; clear hR7
      have HG7 := Lib.hid (gb_trans HG6.out hg7); clear hg7
      clear HX6_0 HX6_n HR6 HG6
      have lt7 := HR7.out.lt
      have le7 := HG7.out.size
      clear hv7
      obtain ⟨j7, rfl⟩ : ∃ j7 : Nat, v7 = j7 := ⟨v7.toNat, by omega⟩
      obtain ⟨d1, hd1, kd1⟩ : ∃ x : Int, w7.cell? ⟨w5.heap.size, j7, none⟩ = some (.int .i64 x) ∧ (65536 ≤ x ∧ x ≤ 1000000000) := by
        rw [HX7_1.out.cell]
        have hj : j7 = 0 ∨ j7 = 1 ∨ j7 = 2 ∨ j7 = 3 := by omega
        rcases hj with rfl | rfl | rfl | rfl <;> exact ⟨_, rfl, by omega, by omega⟩
      have ij7a : (0 : Int) ≤ (j7 : Int) := by omega
      have ij7b : (j7 : Int) < 4 := by omega
      have HO := Lib.hid (fun W => specRatOf_any (n0 * 50000000) (d1) W (by omega) (by omega) (by omega))
      obtain ⟨x1, x2, ok, hx⟩ : ∃ x1 x2 ok, ratOf (n0 * 50000000) (d1) = ((x1, x2), ok) := ⟨_, _, _, rfl⟩
      have hbx := ratOf_ok hx
      rw [hx] at HO
      clear hx
      go_wp2_with fail
      refine (HO.out _).mono ?_
      rintro e w8 ⟨rfl, hg8⟩
      rw [okV_form]
      clear hd1 ij7a ij7b
      have HX8_0 := Lib.hid (HX7_0.out.sub hg8)
      have HX8_1 := Lib.hid (HX7_1.out.sub hg8)
      have HR8 := Lib.hid (HR7.out.below hg8)
      have HG8 := Lib.hid (gb_below HG7.out hg8); clear hg8
      clear HX7_0 HX7_1 HR7 HG7
      have lt8 := HR8.out.lt
      have le8 := HG8.out.size
      obtain ⟨y0a, y0b, y0c, y0d⟩ := blk2 HX8_0.out
      have q0 := HX8_0.out.lt
      have q1 := HX8_1.out.lt
      cases ok
      · clear hbx
        have HZ := Lib.hid (((HX8_0.out.set 0 (.int .i64 1)).set 1 (.int .i64 2)).alloc (.cells #[.int .i64 x1, .int .i64 x2] 23))
        have HGZ := Lib.hid (gb_alloc (gb_setCell (p := ⟨w.heap.size, 1, none⟩) (gb_setCell (p := ⟨w.heap.size, 0, none⟩) HG8.out (.inr (Nat.le_refl _)) (.int .i64 1)) (.inr (Nat.le_refl _)) (.int .i64 2)) (.cells #[.int .i64 x1, .int .i64 x2] 23))
        have HRZ := Lib.hid (((HR8.out.setCell (p := ⟨w.heap.size, 0, none⟩) (by show B ≤ w.heap.size; omega) (by show w.heap.size ≠ R; omega) (.int .i64 1)).setCell (p := ⟨w.heap.size, 1, none⟩) (by show B ≤ w.heap.size; omega) (by show w.heap.size ≠ R; omega) (.int .i64 2)).alloc (.cells #[.int .i64 x1, .int .i64 x2] 23))
        go_wp2_with fail
        refine bodyPost_ret (results_rat1 rfl _ _ w.heap.size _ _ rfl HZ.out Try.underlying23 rfl (by kernel_rfl)) rfl ?_
        exact ⟨_, _, rfl, by omega, HRZ.out.more (by omega), HGZ.out⟩
      · replace hbx := hbx rfl
        have HZ := Lib.hid (((HX8_0.out.set 0 (.int .i64 x1)).set 1 (.int .i64 x2)).alloc (.cells #[.int .i64 x1, .int .i64 x2] 23))
        have HGZ := Lib.hid (gb_alloc (gb_setCell (p := ⟨w.heap.size, 1, none⟩) (gb_setCell (p := ⟨w.heap.size, 0, none⟩) HG8.out (.inr (Nat.le_refl _)) (.int .i64 x1)) (.inr (Nat.le_refl _)) (.int .i64 x2)) (.cells #[.int .i64 x1, .int .i64 x2] 23))
        have HRZ := Lib.hid (((HR8.out.setCell (p := ⟨w.heap.size, 0, none⟩) (by show B ≤ w.heap.size; omega) (by show w.heap.size ≠ R; omega) (.int .i64 x1)).setCell (p := ⟨w.heap.size, 1, none⟩) (by show B ≤ w.heap.size; omega) (by show w.heap.size ≠ R; omega) (.int .i64 x2)).alloc (.cells #[.int .i64 x1, .int .i64 x2] 23))
        go_wp2_with fail
        refine bodyPost_ret (results_rat1 rfl _ _ w.heap.size _ _ rfl HZ.out Try.underlying23 rfl (by kernel_rfl)) rfl ?_
        exact ⟨_, _, rfl, by omega, HRZ.out.more (by omega), HGZ.out⟩
    · have e12 : (v5 == 0) = false := by simpa using hd
      clear hd
      have HO := Lib.hid (fun W => specRatOf_any (n0 * 50000000) (1 + v4) W (by omega) (by omega) (by omega))
      obtain ⟨x1, x2, ok, hx⟩ : ∃ x1 x2 ok, ratOf (n0 * 50000000) (1 + v4) = ((x1, x2), ok) := ⟨_, _, _, rfl⟩
      have hbx := ratOf_ok hx
      rw [hx] at HO
      clear hx
      go_wp2_with fail
      refine (HO.out _).mono ?_
      rintro e w6 ⟨rfl, hg6⟩
      rw [okV_form]
      have HX6_0 := Lib.hid (HX5_0.out.sub hg6)
      have HR6 := Lib.hid (HR5.out.below hg6)
      have HG6 := Lib.hid (gb_below HG5.out hg6); clear hg6
      clear HX5_0 HR5 HG5
      have lt6 := HR6.out.lt
      have le6 := HG6.out.size
      obtain ⟨y0a, y0b, y0c, y0d⟩ := blk2 HX6_0.out
      have q0 := HX6_0.out.lt
      cases ok
      · clear hbx
        have HZ := Lib.hid (((HX6_0.out.set 0 (.int .i64 1)).set 1 (.int .i64 2)).alloc (.cells #[.int .i64 x1, .int .i64 x2] 23))
        have HGZ := Lib.hid (gb_alloc (gb_setCell (p := ⟨w.heap.size, 1, none⟩) (gb_setCell (p := ⟨w.heap.size, 0, none⟩) HG6.out (.inr (Nat.le_refl _)) (.int .i64 1)) (.inr (Nat.le_refl _)) (.int .i64 2)) (.cells #[.int .i64 x1, .int .i64 x2] 23))
        have HRZ := Lib.hid (((HR6.out.setCell (p := ⟨w.heap.size, 0, none⟩) (by show B ≤ w.heap.size; omega) (by show w.heap.size ≠ R; omega) (.int .i64 1)).setCell (p := ⟨w.heap.size, 1, none⟩) (by show B ≤ w.heap.size; omega) (by show w.heap.size ≠ R; omega) (.int .i64 2)).alloc (.cells #[.int .i64 x1, .int .i64 x2] 23))
        go_wp2_with fail
        refine bodyPost_ret (results_rat1 rfl _ _ w.heap.size _ _ rfl HZ.out Try.underlying23 rfl (by kernel_rfl)) rfl ?_
        exact ⟨_, _, rfl, by omega, HRZ.out.more (by omega), HGZ.out⟩
      · replace hbx := hbx rfl
        have HZ := Lib.hid (((HX6_0.out.set 0 (.int .i64 x1)).set 1 (.int .i64 x2)).alloc (.cells #[.int .i64 x1, .int .i64 x2] 23))
        have HGZ := Lib.hid (gb_alloc (gb_setCell (p := ⟨w.heap.size, 1, none⟩) (gb_setCell (p := ⟨w.heap.size, 0, none⟩) HG6.out (.inr (Nat.le_refl _)) (.int .i64 x1)) (.inr (Nat.le_refl _)) (.int .i64 x2)) (.cells #[.int .i64 x1, .int .i64 x2] 23))
        have HRZ := Lib.hid (((HR6.out.setCell (p := ⟨w.heap.size, 0, none⟩) (by show B ≤ w.heap.size; omega) (by show w.heap.size ≠ R; omega) (.int .i64 x1)).setCell (p := ⟨w.heap.size, 1, none⟩) (by show B ≤ w.heap.size; omega) (by show w.heap.size ≠ R; omega) (.int .i64 x2)).alloc (.cells #[.int .i64 x1, .int .i64 x2] 23))
        go_wp2_with fail
        refine bodyPost_ret (results_rat1 rfl _ _ w.heap.size _ _ rfl HZ.out Try.underlying23 rfl (by kernel_rfl)) rfl ?_
        exact ⟨_, _, rfl, by omega, HRZ.out.more (by omega), HGZ.out⟩
  have e0 : (v3 == 0) = false := by simpa using h0
  have e1 : (v3 == 1) = false := by simpa using h1
  clear h0 h1
  go_wp2_with fail
  refine (pick_any B R _ 24 _ (by omega) (by omega) (by omega) HR3.out).mono ?_
  rintro e w4 ⟨v4, rfl, hv4, hR4, hg4⟩
  have b4 := hv4.lt (by omega)
  have HX4_0 := Lib.hid (HX3_0.out.gb hg4 (by omega))
  have HR4 := Lib.hid hR4; clear hR4
  have HG4 := Lib.hid (gb_trans HG3.out hg4); clear hg4
  clear HX3_0 HR3 HG3
  have lt4 := HR4.out.lt
  have le4 := HG4.out.size
  clear hv4
  go_wp2_with fail
  refine (pick_any B R _ 12 _ (by omega) (by omega) (by omega) HR4.out).mono ?_
  rintro e w5 ⟨v5, rfl, hv5, hR5, hg5⟩
  have b5 := hv5.lt (by omega)
  have HX5_0 := Lib.hid (HX4_0.out.gb hg5 (by omega))
  have HR5 := Lib.hid hR5; clear hR5
  have HG5 := Lib.hid (gb_trans HG4.out hg5); clear hg5
  clear HX4_0 HR4 HG4
  have lt5 := HR5.out.lt
  have le5 := HG5.out.size
  clear hv5
  by_cases hd : v5 = 0
  · subst hd
    have HR6 := Lib.hid (HR5.out.alloc (.cells #[.int .i64 1000000000, .int .i64 999999999, .int .i64 999999937, .int .i64 65536] 3))
    have HG6 := Lib.hid (gb_alloc HG5.out (.cells #[.int .i64 1000000000, .int .i64 999999999, .int .i64 999999937, .int .i64 65536] 3))
    have HX6_0 := Lib.hid (HX5_0.out.alloc (.cells #[.int .i64 1000000000, .int .i64 999999999, .int .i64 999999937, .int .i64 65536] 3))
    have HX6_n := Lib.hid (Blk.new w5 3 #[.int .i64 1000000000, .int .i64 999999999, .int .i64 999999937, .int .i64 65536])
    clear HX5_0 HR5 HG5
    go_wp2_with fail
    refine (pick_any B R _ 4 _ (by omega) (by omega) (by omega) HR6.out).mono ?_
    rintro e w7 ⟨v7, rfl, hv7, hR7, hg7⟩
    have b7 := hv7.lt (by omega)
    have HX7_0 := Lib.hid (HX6_0.out.gb hg7 (by omega))
    have HX7_1 := Lib.hid (HX6_n.out.gb hg7 (by omega))
    have HR7 := Lib.hid hR7; clear hR7
    have HG7 := Lib.hid (gb_trans HG6.out hg7); clear hg7
    clear HX6_0 HX6_n HR6 HG6
    have lt7 := HR7.out.lt
    have le7 := HG7.out.size
    clear hv7
    obtain ⟨j7, rfl⟩ : ∃ j7 : Nat, v7 = j7 := ⟨v7.toNat, by omega⟩
    obtain ⟨d1, hd1, kd1⟩ : ∃ x : Int, w7.cell? ⟨w5.heap.size, j7, none⟩ = some (.int .i64 x) ∧ (65536 ≤ x ∧ x ≤ 1000000000) := by
      rw [HX7_1.out.cell]
      have hj : j7 = 0 ∨ j7 = 1 ∨ j7 = 2 ∨ j7 = 3 := by omega
      rcases hj with rfl | rfl | rfl | rfl <;> exact ⟨_, rfl, by omega, by omega⟩
    have ij7a : (0 : Int) ≤ (j7 : Int) := by omega
    have ij7b : (j7 : Int) < 4 := by omega
    have HO := Lib.hid (fun W => specRatOf_any (n0) (d1) W (by omega) (by omega) (by omega))
    obtain ⟨x1, x2, ok, hx⟩ : ∃ x1 x2 ok, ratOf (n0) (d1) = ((x1, x2), ok) := ⟨_, _, _, rfl⟩
    have hbx := ratOf_ok hx
    rw [hx] at HO
    clear hx
    go_wp2_with fail
    refine (HO.out _).mono ?_
    rintro e w8 ⟨rfl, hg8⟩
    rw [okV_form]
    clear hd1 ij7a ij7b
    have HX8_0 := Lib.hid (HX7_0.out.sub hg8)
    have HX8_1 := Lib.hid (HX7_1.out.sub hg8)
    have HR8 := Lib.hid (HR7.out.below hg8)
    have HG8 := Lib.hid (gb_below HG7.out hg8); clear hg8
    clear HX7_0 HX7_1 HR7 HG7
    have lt8 := HR8.out.lt
    have le8 := HG8.out.size
    obtain ⟨y0a, y0b, y0c, y0d⟩ := blk2 HX8_0.out
    have q0 := HX8_0.out.lt
    have q1 := HX8_1.out.lt
    cases ok
    · clear hbx
      have HZ := Lib.hid (((HX8_0.out.set 0 (.int .i64 1)).set 1 (.int .i64 2)).alloc (.cells #[.int .i64 x1, .int .i64 x2] 23))
      have HGZ := Lib.hid (gb_alloc (gb_setCell (p := ⟨w.heap.size, 1, none⟩) (gb_setCell (p := ⟨w.heap.size, 0, none⟩) HG8.out (.inr (Nat.le_refl _)) (.int .i64 1)) (.inr (Nat.le_refl _)) (.int .i64 2)) (.cells #[.int .i64 x1, .int .i64 x2] 23))
      have HRZ := Lib.hid (((HR8.out.setCell (p := ⟨w.heap.size, 0, none⟩) (by show B ≤ w.heap.size; omega) (by show w.heap.size ≠ R; omega) (.int .i64 1)).setCell (p := ⟨w.heap.size, 1, none⟩) (by show B ≤ w.heap.size; omega) (by show w.heap.size ≠ R; omega) (.int .i64 2)).alloc (.cells #[.int .i64 x1, .int .i64 x2] 23))
      go_wp2_with fail
      refine bodyPost_ret (results_rat1 rfl _ _ w.heap.size _ _ rfl HZ.out Try.underlying23 rfl (by kernel_rfl)) rfl ?_
      exact ⟨_, _, rfl, by omega, HRZ.out.more (by omega), HGZ.out⟩
    · replace hbx := hbx rfl
      have HZ := Lib.hid (((HX8_0.out.set 0 (.int .i64 x1)).set 1 (.int .i64 x2)).alloc (.cells #[.int .i64 x1, .int .i64 x2] 23))
      have HGZ := Lib.hid (gb_alloc (gb_setCell (p := ⟨w.heap.size, 1, none⟩) (gb_setCell (p := ⟨w.heap.size, 0, none⟩) HG8.out (.inr (Nat.le_refl _)) (.int .i64 x1)) (.inr (Nat.le_refl _)) (.int .i64 x2)) (.cells #[.int .i64 x1, .int .i64 x2] 23))
      have HRZ := Lib.hid (((HR8.out.setCell (p := ⟨w.heap.size, 0, none⟩) (by show B ≤ w.heap.size; omega) (by show w.heap.size ≠ R; omega) (.int .i64 x1)).setCell (p := ⟨w.heap.size, 1, none⟩) (by show B ≤ w.heap.size; omega) (by show w.heap.size ≠ R; omega) (.int .i64 x2)).alloc (.cells #[.int .i64 x1, .int .i64 x2] 23))
      go_wp2_with fail
      refine bodyPost_ret (results_rat1 rfl _ _ w.heap.size _ _ rfl HZ.out Try.underlying23 rfl (by kernel_rfl)) rfl ?_
      exact ⟨_, _, rfl, by omega, HRZ.out.more (by omega), HGZ.out⟩
  · have e12 : (v5 == 0) = false := by simpa using hd
    clear hd
    have HO := Lib.hid (fun W => specRatOf_any (n0) (1 + v4) W (by omega) (by omega) (by omega))
    obtain ⟨x1, x2, ok, hx⟩ : ∃ x1 x2 ok, ratOf (n0) (1 + v4) = ((x1, x2), ok) := ⟨_, _, _, rfl⟩
    have hbx := ratOf_ok hx
    rw [hx] at HO
    clear hx
    go_wp2_with fail
    refine (HO.out _).mono ?_
    rintro e w6 ⟨rfl, hg6⟩
    rw [okV_form]
    have HX6_0 := Lib.hid (HX5_0.out.sub hg6)
    have HR6 := Lib.hid (HR5.out.below hg6)
    have HG6 := Lib.hid (gb_below HG5.out hg6); clear hg6
    clear HX5_0 HR5 HG5
    have lt6 := HR6.out.lt
    have le6 := HG6.out.size
    obtain ⟨y0a, y0b, y0c, y0d⟩ := blk2 HX6_0.out
    have q0 := HX6_0.out.lt
    cases ok
    · clear hbx
      have HZ := Lib.hid (((HX6_0.out.set 0 (.int .i64 1)).set 1 (.int .i64 2)).alloc (.cells #[.int .i64 x1, .int .i64 x2] 23))
      have HGZ := Lib.hid (gb_alloc (gb_setCell (p := ⟨w.heap.size, 1, none⟩) (gb_setCell (p := ⟨w.heap.size, 0, none⟩) HG6.out (.inr (Nat.le_refl _)) (.int .i64 1)) (.inr (Nat.le_refl _)) (.int .i64 2)) (.cells #[.int .i64 x1, .int .i64 x2] 23))
      have HRZ := Lib.hid (((HR6.out.setCell (p := ⟨w.heap.size, 0, none⟩) (by show B ≤ w.heap.size; omega) (by show w.heap.size ≠ R; omega) (.int .i64 1)).setCell (p := ⟨w.heap.size, 1, none⟩) (by show B ≤ w.heap.size; omega) (by show w.heap.size ≠ R; omega) (.int .i64 2)).alloc (.cells #[.int .i64 x1, .int .i64 x2] 23))
      go_wp2_with fail
      refine bodyPost_ret (results_rat1 rfl _ _ w.heap.size _ _ rfl HZ.out Try.underlying23 rfl (by kernel_rfl)) rfl ?_
      exact ⟨_, _, rfl, by omega, HRZ.out.more (by omega), HGZ.out⟩
    · replace hbx := hbx rfl
      have HZ := Lib.hid (((HX6_0.out.set 0 (.int .i64 x1)).set 1 (.int .i64 x2)).alloc (.cells #[.int .i64 x1, .int .i64 x2] 23))
      have HGZ := Lib.hid (gb_alloc (gb_setCell (p := ⟨w.heap.size, 1, none⟩) (gb_setCell (p := ⟨w.heap.size, 0, none⟩) HG6.out (.inr (Nat.le_refl _)) (.int .i64 x1)) (.inr (Nat.le_refl _)) (.int .i64 x2)) (.cells #[.int .i64 x1, .int .i64 x2] 23))
      have HRZ := Lib.hid (((HR6.out.setCell (p := ⟨w.heap.size, 0, none⟩) (by show B ≤ w.heap.size; omega) (by show w.heap.size ≠ R; omega) (.int .i64 x1)).setCell (p := ⟨w.heap.size, 1, none⟩) (by show B ≤ w.heap.size; omega) (by show w.heap.size ≠ R; omega) (.int .i64 x2)).alloc (.cells #[.int .i64 x1, .int .i64 x2] 23))
      go_wp2_with fail
      refine bodyPost_ret (results_rat1 rfl _ _ w.heap.size _ _ rfl HZ.out Try.underlying23 rfl (by kernel_rfl)) rfl ?_
      exact ⟨_, _, rfl, by omega, HRZ.out.more (by omega), HGZ.out⟩

set_option maxHeartbeats 4000000 in
theorem l91Wrong_any (B R N : Nat) (w : World) (hN : N ≤ 700000) (hR : Rd 61 w B R N) :
    Calls Try.prog 46 #[.pointer (some ⟨R, 0, none⟩)] w (RatPost 61 w B R (N + 7)) := by
  have ltw := hR.lt
  have lew := hR.le
  have HR0 := Lib.hid hR; clear hR
  have HG0 := Lib.hid (gb_refl w (some R))
  go_enter Try.func46, Try.ntmps46
  have HR1 := Lib.hid (HR0.out.alloc (.cells #[.int .i64 0, .int .i64 0] 23))
  have HG1 := Lib.hid (gb_alloc HG0.out (.cells #[.int .i64 0, .int .i64 0] 23))
  have HX1_n := Lib.hid (Blk.new w 23 #[.int .i64 0, .int .i64 0])
  clear HR0 HG0
  go_wp2_with fail
  refine (l91Rat_any B R N _ (by omega) HR1.out).mono ?_
  rintro e w2 ⟨x1, x2, rfl, hx, hR2, hg2⟩
  have HX2_0 := Lib.hid (HX1_n.out.gb hg2 (by omega))
  have HR2 := Lib.hid hR2; clear hR2
  have HG2 := Lib.hid (gb_trans HG1.out hg2); clear hg2
  clear HX1_n HR1 HG1
  have lt2 := HR2.out.lt
  have le2 := HG2.out.size
  have ltz := HX2_0.out.lt
  have HR3 := Lib.hid (HR2.out.alloc (.cells #[.int .i64 x1, .int .i64 x2] 23))
  have HG3 := Lib.hid (gb_alloc HG2.out (.cells #[.int .i64 x1, .int .i64 x2] 23))
  have HX3_0 := Lib.hid (HX2_0.out.alloc (.cells #[.int .i64 x1, .int .i64 x2] 23))
  have HX3_n := Lib.hid (Blk.new w2 23 #[.int .i64 x1, .int .i64 x2])
  clear HX2_0 HR2 HG2
  go_wp2_with fail
  refine (pick_any B R _ 40 _ (by omega) (by omega) (by omega) HR3.out).mono ?_
  rintro e w4 ⟨v4, rfl, hv4, hR4, hg4⟩
  have b4 := hv4.lt (by omega)
  have HX4_0 := Lib.hid (HX3_0.out.gb hg4 (by omega))
  have HX4_1 := Lib.hid (HX3_n.out.gb hg4 (by omega))
  have HR4 := Lib.hid hR4; clear hR4
  have HG4 := Lib.hid (gb_trans HG3.out hg4); clear hg4
  clear HX3_0 HX3_n HR3 HG3
  have lt4 := HR4.out.lt
  have le4 := HG4.out.size
  clear hv4
  obtain ⟨y0a, y0b, y0c, y0d⟩ := blk2 HX4_0.out
  have q0 := HX4_0.out.lt
  obtain ⟨y1a, y1b, y1c, y1d⟩ := blk2 HX4_1.out
  have q1 := HX4_1.out.lt
  have lew0 : B ≤ w.heap.size := by omega
  by_cases h0 : v4 = 0
  · subst h0
    have HZ := Lib.hid ((HX4_0.out.set 0 (.int .i64 (2))).set 1 (.int .i64 (4)))
    have HGZ := Lib.hid (gb_setCell (p := ⟨w.heap.size, 1, none⟩) (gb_setCell (p := ⟨w.heap.size, 0, none⟩) HG4.out (.inr (Nat.le_refl _)) (.int .i64 (2))) (.inr (Nat.le_refl _)) (.int .i64 (4)))
    have HRZ := Lib.hid ((HR4.out.setCell (p := ⟨w.heap.size, 0, none⟩) (by show B ≤ w.heap.size; omega) (by show w.heap.size ≠ R; omega) (.int .i64 (2))).setCell (p := ⟨w.heap.size, 1, none⟩) (by show B ≤ w.heap.size; omega) (by show w.heap.size ≠ R; omega) (.int .i64 (4)))
    go_wp2_with fail
    refine bodyPost_ret (results_rat1 rfl _ _ w.heap.size _ _ rfl HZ.out Try.underlying23 rfl (by kernel_rfl)) rfl ?_
    exact ⟨_, _, rfl, by omega, HRZ.out.more (by omega), HGZ.out⟩
  by_cases h1 : v4 = 1
  · subst h1
    have HZ := Lib.hid ((HX4_0.out.set 0 (.int .i64 (1))).set 1 (.int .i64 (0)))
    have HGZ := Lib.hid (gb_setCell (p := ⟨w.heap.size, 1, none⟩) (gb_setCell (p := ⟨w.heap.size, 0, none⟩) HG4.out (.inr (Nat.le_refl _)) (.int .i64 (1))) (.inr (Nat.le_refl _)) (.int .i64 (0)))
    have HRZ := Lib.hid ((HR4.out.setCell (p := ⟨w.heap.size, 0, none⟩) (by show B ≤ w.heap.size; omega) (by show w.heap.size ≠ R; omega) (.int .i64 (1))).setCell (p := ⟨w.heap.size, 1, none⟩) (by show B ≤ w.heap.size; omega) (by show w.heap.size ≠ R; omega) (.int .i64 (0)))
    go_wp2_with fail
    refine bodyPost_ret (results_rat1 rfl _ _ w.heap.size _ _ rfl HZ.out Try.underlying23 rfl (by kernel_rfl)) rfl ?_
    exact ⟨_, _, rfl, by omega, HRZ.out.more (by omega), HGZ.out⟩
  by_cases h2 : v4 = 2
  · subst h2
    have leX : w.heap.size ≤ w2.heap.size := by omega
    have hzx : w.heap.size ≠ w2.heap.size := by omega
    have hRx : w2.heap.size ≠ R := by omega
    have HZ := Lib.hid (((HX4_0.out.far (p := ⟨w2.heap.size, 1, none⟩) hzx (.int .i64 (-x2))).set 0 (.int .i64 (x1))).set 1 (.int .i64 (-x2)))
    have HGZ := Lib.hid (gb_setCell (p := ⟨w.heap.size, 1, none⟩) (gb_setCell (p := ⟨w.heap.size, 0, none⟩) (gb_setCell (p := ⟨w2.heap.size, 1, none⟩) HG4.out (.inr leX) (.int .i64 (-x2))) (.inr (Nat.le_refl _)) (.int .i64 (x1))) (.inr (Nat.le_refl _)) (.int .i64 (-x2)))
    have HRZ := Lib.hid (((HR4.out.setCell (p := ⟨w2.heap.size, 1, none⟩) (Nat.le_trans lew0 leX) hRx (.int .i64 (-x2))).setCell (p := ⟨w.heap.size, 0, none⟩) (by show B ≤ w.heap.size; omega) (by show w.heap.size ≠ R; omega) (.int .i64 (x1))).setCell (p := ⟨w.heap.size, 1, none⟩) (by show B ≤ w.heap.size; omega) (by show w.heap.size ≠ R; omega) (.int .i64 (-x2)))
    go_wp2_with fail
    refine bodyPost_ret (results_rat1 rfl _ _ w.heap.size _ _ rfl HZ.out Try.underlying23 rfl (by kernel_rfl)) rfl ?_
    exact ⟨_, _, rfl, by omega, HRZ.out.more (by omega), HGZ.out⟩
  by_cases h3 : v4 = 3
  · subst h3
    have HZ := Lib.hid ((HX4_0.out.set 0 (.int .i64 (1000000001))).set 1 (.int .i64 (1)))
    have HGZ := Lib.hid (gb_setCell (p := ⟨w.heap.size, 1, none⟩) (gb_setCell (p := ⟨w.heap.size, 0, none⟩) HG4.out (.inr (Nat.le_refl _)) (.int .i64 (1000000001))) (.inr (Nat.le_refl _)) (.int .i64 (1)))
    have HRZ := Lib.hid ((HR4.out.setCell (p := ⟨w.heap.size, 0, none⟩) (by show B ≤ w.heap.size; omega) (by show w.heap.size ≠ R; omega) (.int .i64 (1000000001))).setCell (p := ⟨w.heap.size, 1, none⟩) (by show B ≤ w.heap.size; omega) (by show w.heap.size ≠ R; omega) (.int .i64 (1)))
    go_wp2_with fail
    refine bodyPost_ret (results_rat1 rfl _ _ w.heap.size _ _ rfl HZ.out Try.underlying23 rfl (by kernel_rfl)) rfl ?_
    exact ⟨_, _, rfl, by omega, HRZ.out.more (by omega), HGZ.out⟩
  have e0 : (v4 == 0) = false := by simpa using h0
  have e1 : (v4 == 1) = false := by simpa using h1
  have e2 : (v4 == 2) = false := by simpa using h2
  have e3 : (v4 == 3) = false := by simpa using h3
  clear h0 h1 h2 h3
  have HZ := Lib.hid ((HX4_0.out.set 0 (.int .i64 (x1))).set 1 (.int .i64 (x2)))
  have HGZ := Lib.hid (gb_setCell (p := ⟨w.heap.size, 1, none⟩) (gb_setCell (p := ⟨w.heap.size, 0, none⟩) HG4.out (.inr (Nat.le_refl _)) (.int .i64 (x1))) (.inr (Nat.le_refl _)) (.int .i64 (x2)))
  have HRZ := Lib.hid ((HR4.out.setCell (p := ⟨w.heap.size, 0, none⟩) (by show B ≤ w.heap.size; omega) (by show w.heap.size ≠ R; omega) (.int .i64 (x1))).setCell (p := ⟨w.heap.size, 1, none⟩) (by show B ≤ w.heap.size; omega) (by show w.heap.size ≠ R; omega) (.int .i64 (x2)))
  go_wp2_with fail
  refine bodyPost_ret (results_rat1 rfl _ _ w.heap.size _ _ rfl HZ.out Try.underlying23 rfl (by kernel_rfl)) rfl ?_
  exact ⟨_, _, rfl, by omega, HRZ.out.more (by omega), HGZ.out⟩
end Go.Proofs.Ytaaiklhkhgennaa
