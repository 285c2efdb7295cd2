/- The reference's triangle, valid levels, factor. -/
import Derived.Test.YtgmhdgfokljggaaGreatDoorFa2
namespace Go.Proofs.YtgmhdgfokljggaaGreatDoor
open Go.RowKit
attribute [local go_sem ↓] Go.wp_at_zero Go.wp_at_succ

set_option maxHeartbeats 1000000 in
theorem specTriangle_all (a b c : Int) (w : World) :
    Calls Tryz.prog 96 #[.int .i64 a, .int .i64 b, .int .i64 c] w fun e w' => e = .returned (.bool (triB a b c)) ∧ w = w' := by
  have HA := Lib.hid (specSpinValid_any a w)
  have HBv := Lib.hid (specSpinValid_any b w)
  have HC := Lib.hid (specSpinValid_any c w)
  obtain ⟨r, hr⟩ : ∃ r, triB a b c = r := ⟨_, rfl⟩
  rw [hr]
  have HR := Lib.hid hr; clear hr
  cases ia : inB a 0 24
  · have he : r = false := by rw [← HR.out]; simp [triB, ia]
    have HE := Lib.hid he; clear he HR
    rw [ia] at HA
    clear ia
    go_enter Tryz.func96, Tryz.ntmps96
    go_wp2_with fail
    refine HA.out.mono ?_
    rintro e w1 ⟨rfl, rfl⟩
    go_wp2_with fail
    go_ret
    exact ⟨ret_bool HE.out.symm, rfl⟩
  cases ib : inB b 0 24
  · have he : r = false := by rw [← HR.out]; simp [triB, ib]
    have HE := Lib.hid he; clear he HR
    rw [ia] at HA
    rw [ib] at HBv
    clear ia ib
    go_enter Tryz.func96, Tryz.ntmps96
    go_wp2_with fail
    refine HA.out.mono ?_
    rintro e w1 ⟨rfl, rfl⟩
    go_wp2_with fail
    refine HBv.out.mono ?_
    rintro e w1 ⟨rfl, rfl⟩
    go_wp2_with fail
    go_ret
    exact ⟨ret_bool HE.out.symm, rfl⟩
  cases ic : inB c 0 24
  · have he : r = false := by rw [← HR.out]; simp [triB, ic]
    have HE := Lib.hid he; clear he HR
    rw [ia] at HA
    rw [ib] at HBv
    rw [ic] at HC
    clear ia ib ic
    go_enter Tryz.func96, Tryz.ntmps96
    go_wp2_with fail
    refine HA.out.mono ?_
    rintro e w1 ⟨rfl, rfl⟩
    go_wp2_with fail
    refine HBv.out.mono ?_
    rintro e w1 ⟨rfl, rfl⟩
    go_wp2_with fail
    refine HC.out.mono ?_
    rintro e w1 ⟨rfl, rfl⟩
    go_wp2_with fail
    go_ret
    exact ⟨ret_bool HE.out.symm, rfl⟩
  have ha := inB_iff.1 ia
  have hb := inB_iff.1 ib
  have hc := inB_iff.1 ic
  have he : r = (decide ((a + b + c) % 2 = 0) && decide (a ≤ b + c) && decide (b ≤ a + c) && decide (c ≤ a + b)) := by rw [← HR.out]; simp only [triB, ia, ib, ic, Bool.and_self, Bool.true_and]
  have HE := Lib.hid he; clear he HR
  rw [ia] at HA; rw [ib] at HBv; rw [ic] at HC; clear ia ib ic
  have u1 : IntKind.i64.wrap (a + b) = a + b := IntWalk.i64_in _ (by omega)
  have u2 : IntKind.i64.wrap (a + b + c) = a + b + c := IntWalk.i64_in _ (by omega)
  have u3 : IntKind.i64.wrap (b + c) = b + c := IntWalk.i64_in _ (by omega)
  have u4 : IntKind.i64.wrap (a + c) = a + c := IntWalk.i64_in _ (by omega)
  go_enter Tryz.func96, Tryz.ntmps96
  go_wp2_with fail
  refine HA.out.mono ?_
  rintro e w1 ⟨rfl, rfl⟩
  go_wp2_with fail
  refine HBv.out.mono ?_
  rintro e w1 ⟨rfl, rfl⟩
  go_wp2_with fail
  refine HC.out.mono ?_
  rintro e w1 ⟨rfl, rfl⟩
  go_wp2_with fail
  all_goals
    go_ret
    refine ⟨ret_bool ?_, rfl⟩
    rw [HE.out]
    (simp_all <;> try omega)

set_option maxHeartbeats 1000000 in
theorem specLevelValid_all (t : T2) (j : Int) (w : World) :
    Calls Tryz.prog 65 #[.agg #[.int .i64 t.1, .int .i64 t.2, .int .i64 j]] w fun e w' => e = .returned (.bool (lvB t j)) ∧ Below w.heap.size w w' := by
  have HT := Lib.hid (specTermValid_any t (w.alloc (.cells #[.int .i64 t.1, .int .i64 t.2, .int .i64 j] 31)))
  obtain ⟨r, hr⟩ : ∃ r, lvB t j = r := ⟨_, rfl⟩
  rw [hr]
  have HR := Lib.hid hr; clear hr
  have HB := Lib.hid ((Below.refl w.heap.size w).alloc (Nat.le_refl _) (.cells #[.int .i64 t.1, .int .i64 t.2, .int .i64 j] 31))
  have HD := Lib.hid (Blk.new w 31 #[.int .i64 t.1, .int .i64 t.2, .int .i64 j])
  cases hv : tvB t
  · have he : r = false := by rw [← HR.out]; simp [lvB, hv]
    have HE := Lib.hid he; clear he HR
    rw [hv] at HT; clear hv
    generalize t.1 = s at *
    generalize t.2 = l at *
    go_enter Tryz.func65, Tryz.ntmps65
    go_wp2_with fail
    refine HT.out.mono ?_
    rintro e w1 ⟨rfl, hb1⟩
    have HB1 := Lib.hid (HB.out.trans (hb1.mono HB.out.size)); clear hb1
    go_wp2_with fail
    go_ret
    exact ⟨ret_bool HE.out.symm, HB1.out⟩
  have hb := tvB_iff.1 hv
  have he : r = triB (2 * t.2) t.1 j := by rw [← HR.out]; simp [lvB, hv]
  have HE := Lib.hid he; clear he HR
  rw [hv] at HT; clear hv
  have HS := Lib.hid (fun W => specTriangle_all (2 * t.2) t.1 j W)
  rw [← HE.out] at HS
  obtain ⟨s, l⟩ := t
  simp only at *
  clear HE
  go_enter Tryz.func65, Tryz.ntmps65
  go_wp2_with fail
  refine HT.out.mono ?_
  rintro e w1 ⟨rfl, hb1⟩
  have HB1 := Lib.hid (HB.out.trans (hb1.mono HB.out.size))
  obtain ⟨d1, d2, d3⟩ := Level3 (HD.out.sub hb1); clear hb1
  go_wp2_with fail
  refine (HS.out _).mono ?_
  rintro e w2 ⟨rfl, rfl⟩
  go_wp2_with fail
  go_ret
  exact ⟨rfl, HB1.out⟩

set_option maxHeartbeats 4000000 in
theorem specFactorOf_any (t : T2) (j : Int) (w : World) :
    Calls Tryz.prog 24 #[.agg #[.int .i64 t.1, .int .i64 t.2, .int .i64 j]] w fun e w' => e = .returned (okV (facR t j)) ∧ Below w.heap.size w w' := by
  have HV := Lib.hid (fun W => specLevelValid_all t j W)
  have HB := Lib.hid (bel_alloc (bel_alloc (Below.refl w.heap.size w) (.cells #[.int .i64 t.1, .int .i64 t.2, .int .i64 j] 31)) (.cells #[.int .i64 0, .int .i64 0] 45))
  have HX := Lib.hid ((Blk.new w 31 #[.int .i64 t.1, .int .i64 t.2, .int .i64 j]).alloc (.cells #[.int .i64 0, .int .i64 0] 45))
  have hy := Blk.new (w.alloc (.cells #[.int .i64 t.1, .int .i64 t.2, .int .i64 j] 31)) 45 #[.int .i64 0, .int .i64 0]
  rw [World.size_alloc] at hy
  have HY := Lib.hid hy; clear hy
  by_cases hok : lvB t j = true ∧ j ≠ 0
  case neg =>
    have hr : facR t j = ((0, 0), false) := by unfold facR; rw [if_neg hok]
    have hk : lvB t j = false ∨ (lvB t j = true ∧ j = 0) := by
      cases h : lvB t j
      · exact .inl rfl
      · exact .inr ⟨rfl, by rw [h] at hok; simpa using hok⟩
    rw [hr]; clear hr hok
    unfold okV ratV
    obtain ⟨s, l⟩ := t
    rcases hk with hv | ⟨hv, hj⟩
    · rw [hv] at HV; clear hv
      simp only at *
      go_enter Tryz.func24, Tryz.ntmps24
      go_wp2_with fail
      refine (HV.out _).mono ?_
      rintro e w1 ⟨rfl, hb1⟩
      have HY1 := Lib.hid (HY.out.sub hb1)
      have HB1 := Lib.hid (bel_sub HB.out hb1); clear hb1
      obtain ⟨y1, y2, f1, f2⟩ := blk2 HY1.out
      have HZ1 := Lib.hid ((HY1.out.set 0 (.int .i64 0)).set 1 (.int .i64 0))
      have HBZ := Lib.hid (bel_set (g := w.heap.size + 1) (i := 1) (u := .int .i64 0) (bel_set (g := w.heap.size + 1) (i := 0) (u := .int .i64 0) HB1.out (by simp)) (by simp))
      go_wp2_with fail
      refine bodyPost_ret (results_ct0 rfl _ _ (w.heap.size + 1) _ _ rfl HZ1.out Tryz.underlying45 rfl (by kernel_rfl)) rfl ?_
      exact ⟨rfl, HBZ.out⟩
    · subst hj
      rw [hv] at HV; clear hv
      simp only at *
      go_enter Tryz.func24, Tryz.ntmps24
      go_wp2_with fail
      refine (HV.out _).mono ?_
      rintro e w1 ⟨rfl, hb1⟩
      have HY1 := Lib.hid (HY.out.sub hb1)
      have HB1 := Lib.hid (bel_sub HB.out hb1)
      obtain ⟨x1, x2, x3⟩ := Level3 (HX.out.sub hb1); clear hb1
      obtain ⟨y1, y2, f1, f2⟩ := blk2 HY1.out
      have HZ1 := Lib.hid ((HY1.out.set 0 (.int .i64 0)).set 1 (.int .i64 0))
      have HBZ := Lib.hid (bel_set (g := w.heap.size + 1) (i := 1) (u := .int .i64 0) (bel_set (g := w.heap.size + 1) (i := 0) (u := .int .i64 0) HB1.out (by simp)) (by simp))
      go_wp2_with fail
      refine bodyPost_ret (results_ct0 rfl _ _ (w.heap.size + 1) _ _ rfl HZ1.out Tryz.underlying45 rfl (by kernel_rfl)) rfl ?_
      exact ⟨rfl, HBZ.out⟩
  obtain ⟨hv, hj0⟩ := hok
  have hr : facR t j = ratOf (facN t j) (2 * sq j) := by unfold facR; rw [if_pos ⟨hv, hj0⟩]
  have hb := lvB_iff.1 hv
  have hb1 := tvB_iff.1 hb.1
  have hb2 := (triB_iff.1 hb.2).1
  rw [hr]; rw [hv] at HV
  clear hr hv hb
  obtain ⟨s, l⟩ := t
  simp only at *
  have m1 := mul_bd (x := j) (y := j + 2) (A := 24) (B := 26) (by omega) (by omega)
  have m2 := mul_bd (x := s) (y := s + 2) (A := 8) (B := 10) (by omega) (by omega)
  have m3 := mul_bd (x := 2 * l) (y := 2 * l + 2) (A := 16) (B := 18) (by omega) (by omega)
  have m4 : 0 < j * (j + 2) := Int.mul_pos (by omega) (by omega)
  have e0 : (j == 0) = false := by simpa using hj0
  have HT := Lib.hid (fun W => l16Twice_any s l j W (by omega) (by omega) (by omega))
  have HQ := Lib.hid (fun W => l15Square_any j W (by omega) (by omega))
  have hn : -4000000000000000000 ≤ facN (s, l) j ∧ facN (s, l) j ≤ 4000000000000000000 := by unfold facN sq; simp only; omega
  have HR := Lib.hid (fun W => specRatOf_any (facN (s, l) j) (2 * sq j) W (by unfold sq; omega) hn (by unfold sq; omega))
  obtain ⟨r, hr⟩ : ∃ r, ratOf (facN (s, l) j) (2 * sq j) = r := ⟨_, rfl⟩
  rw [hr] at HR ⊢
  rw [okV_form] at HR
  unfold sq at HR
  clear hr
  have u1 : IntKind.i64.wrap (2 * (j * (j + 2))) = 2 * (j * (j + 2)) := IntWalk.i64_in _ (by omega)
  generalize facN (s, l) j = N at *
  go_enter Tryz.func24, Tryz.ntmps24
  go_wp2_with fail
  refine (HV.out _).mono ?_
  rintro e w1 ⟨rfl, hc1⟩
  have HY1 := Lib.hid (HY.out.sub hc1)
  have HB1 := Lib.hid (bel_sub HB.out hc1)
  obtain ⟨x1, x2, x3⟩ := Level3 (HX.out.sub hc1)
  have k1 := After.cell x1
  have k2 := After.cell x2
  have k3 := After.cell x3
  clear hc1
  go_wp2_with fail
  obtain ⟨y1, y2, f1, f2⟩ := blk2 HY1.out
  have hlt := HY1.out.lt
  go_region_held3 (fun w' => w'.cell? ⟨w.heap.size, 0, none⟩ = some (.int .i64 s) ∧ w'.cell? ⟨w.heap.size, 1, none⟩ = some (.int .i64 l) ∧ w'.cell? ⟨w.heap.size, 2, none⟩ = some (.int .i64 j))
    (first | (refine ⟨?_, ?_, ?_⟩ <;> ((repeat (first | assumption | apply cell_past | rw [World.cell?_drew] | refine cell_sub hb9 ?_ | refine cell_sub hb8 ?_ | refine cell_far (by simp <;> omega) ?_)); done)) | go_keep)
    (first | (go_at_call 67; refine (HT.out _).mono ?_; rintro e w8 ⟨rfl, hb8⟩) | (go_at_call 68; refine (HQ.out _).mono ?_; rintro e w' ⟨rfl, rfl⟩) | (go_at_call 66; refine (HR.out _).mono ?_; rintro e w9 ⟨rfl, hb9⟩; have hy9 := (HY1.out.drew.sub hb8).sub hb9; obtain ⟨y1, y2, f1, f2⟩ := blk2 hy9))
  all_goals
    have HZ := Lib.hid ((hy9.set 0 (.int .i64 r.1.1)).set 1 (.int .i64 r.1.2))
    have HBZ := Lib.hid (bel_set2 (g := w.heap.size + 1) (x := .int .i64 r.1.1) (y := .int .i64 r.1.2) (bel_sub (bel_sub (bel_drew HB1.out) hb8) hb9) (by simp))
    go_wp2_with fail
    refine bodyPost_ret (results_ct0 rfl _ _ (w.heap.size + 1) _ _ rfl HZ.out Tryz.underlying45 rfl (by kernel_rfl)) rfl ?_
    exact ⟨rfl, HBZ.out⟩
end Go.Proofs.YtgmhdgfokljggaaGreatDoor
