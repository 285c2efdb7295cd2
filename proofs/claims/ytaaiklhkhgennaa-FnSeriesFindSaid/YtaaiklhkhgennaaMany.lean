/- SeriesMany of both. -/
import Derived.Test.YtaaiklhkhgennaaFind
import Derived.Test.YtaaiklhkhgennaaSearch
namespace Go.Proofs.Ytaaiklhkhgennaa
open Go.RowKit
attribute [local go_sem ↓] Go.wp_at_zero Go.wp_at_succ

theorem l1Two_any (a b c d : Int) (w : World) :
    Calls Try.prog 52 #[.agg #[.int .i64 a, .int .i64 b], .agg #[.int .i64 c, .int .i64 d]] w fun e w' => e = .returned (.bool (rvB (a, b) && rvB (c, d))) ∧ Below w.heap.size w w' := by
  have HB1 := Lib.hid (((Below.refl w.heap.size w).alloc (Nat.le_refl _) (.cells #[.int .i64 a, .int .i64 b] 23)).alloc (by simp) (.cells #[.int .i64 c, .int .i64 d] 23))
  have hy := Blk.new (w.alloc (.cells #[.int .i64 a, .int .i64 b] 23)) 23 #[.int .i64 c, .int .i64 d]
  rw [World.size_alloc] at hy
  have HY := Lib.hid hy; clear hy
  have H1 := Lib.hid (fun W => specRatValid_any a b W)
  have H2 := Lib.hid (fun W => specRatValid_any c d W)
  cases v1 : rvB (a, b)
  · rw [v1] at H1
    clear v1 H2
    go_enter Try.func52, Try.ntmps52
    go_wp2_with fail
    refine (H1.out _).mono ?_
    rintro e w1 ⟨rfl, hb1⟩
    have HB2 := Lib.hid (HB1.out.trans (hb1.mono HB1.out.size)); clear hb1
    go_wp2_with fail
    go_ret
    exact ⟨rfl, HB2.out⟩
  rw [v1] at H1
  clear v1
  obtain ⟨r, hr⟩ : ∃ r, rvB (c, d) = r := ⟨_, rfl⟩
  rw [hr, Bool.true_and]
  rw [hr] at H2
  clear hr
  go_enter Try.func52, Try.ntmps52
  go_wp2_with fail
  refine (H1.out _).mono ?_
  rintro e w1 ⟨rfl, hb1⟩
  have HB2 := Lib.hid (HB1.out.trans (hb1.mono HB1.out.size))
  obtain ⟨y1, y2, _, _⟩ := blk2 (HY.out.sub hb1)
  clear hb1
  go_wp2_with fail
  refine (H2.out _).mono ?_
  rintro e w2 ⟨rfl, hb2⟩
  have HB3 := Lib.hid (HB2.out.trans (hb2.mono HB2.out.size)); clear hb2
  go_wp2_with fail
  go_ret
  exact ⟨rfl, HB3.out⟩

set_option maxHeartbeats 1000000 in
theorem specRatLess_any (a b c d : Int) (w : World) :
    Calls Try.prog 41 #[.agg #[.int .i64 a, .int .i64 b], .agg #[.int .i64 c, .int .i64 d]] w fun e w' => e = .returned (.bool (rlB (a, b) (c, d))) ∧ Below w.heap.size w w' := by
  have HB1 := Lib.hid (((Below.refl w.heap.size w).alloc (Nat.le_refl _) (.cells #[.int .i64 a, .int .i64 b] 23)).alloc (by simp) (.cells #[.int .i64 c, .int .i64 d] 23))
  have HX := Lib.hid ((Blk.new w 23 #[.int .i64 a, .int .i64 b]).alloc (.cells #[.int .i64 c, .int .i64 d] 23))
  have hy := Blk.new (w.alloc (.cells #[.int .i64 a, .int .i64 b] 23)) 23 #[.int .i64 c, .int .i64 d]
  rw [World.size_alloc] at hy
  have HY := Lib.hid hy; clear hy
  have H1 := Lib.hid (fun W => l1Two_any a b c d W)
  obtain ⟨r, hr⟩ : ∃ r, rlB (a, b) (c, d) = r := ⟨_, rfl⟩
  rw [hr]
  have HR := Lib.hid hr; clear hr
  cases v : (rvB (a, b) && rvB (c, d))
  · have he : r = false := by rw [← HR.out]; simp [rlB, v]
    have HE := Lib.hid he; clear he HR
    rw [v] at H1
    clear v
    go_enter Try.func41, Try.ntmps41
    go_wp2_with fail
    refine (H1.out _).mono ?_
    rintro e w1 ⟨rfl, hb1⟩
    have HB2 := Lib.hid (HB1.out.trans (hb1.mono HB1.out.size)); clear hb1
    go_wp2_with fail
    go_ret
    exact ⟨ret_bool HE.out.symm, HB2.out⟩
  rw [v] at H1
  have hvv := v
  rw [Bool.and_eq_true] at hvv
  have e1 := rvB_bd hvv.1
  have e2 := rvB_bd hvv.2
  have m1 := mul_bd (A := 1000000000) (B := 1000000000) (x := a) (y := d) (by omega) (by omega)
  have m2 := mul_bd (A := 1000000000) (B := 1000000000) (x := c) (y := b) (by omega) (by omega)
  have he : r = decide (a * d < c * b) := by rw [← HR.out]; unfold rlB; rw [v, Bool.true_and]
  have HE := Lib.hid he; clear he HR v hvv
  go_enter Try.func41, Try.ntmps41
  go_wp2_with fail
  refine (H1.out _).mono ?_
  rintro e w1 ⟨rfl, hb1⟩
  have HB2 := Lib.hid (HB1.out.trans (hb1.mono HB1.out.size))
  obtain ⟨y1, y2, _, _⟩ := blk2 (HY.out.sub hb1)
  obtain ⟨x1, x2, _, _⟩ := blk2 (HX.out.sub hb1)
  clear hb1 HX HY
  go_wp2_with fail
  go_ret
  exact ⟨ret_bool HE.out.symm, HB2.out⟩

/-! How many lines lie below x. -/
def lnB (n : Int) (x : T2) (i : Nat) : Bool := rlB (serB n (n + 1 + (i : Int))).1 x
def cntF (n : Int) (x : T2) : Nat → Nat
  | 0 => 0
  | k + 1 => cntF n x k + (if lnB n x k = true then 1 else 0)
def smF (n : Int) (x : T2) : Int := if (inB n 1 60 && rvB x) = true then (cntF n x (60 - n).toNat : Nat) else -1
theorem cntF_le (n : Int) (x : T2) (k : Nat) : cntF n x k ≤ k := by
  induction k with
  | zero => exact Nat.le_refl _
  | succ k ih => unfold cntF; split <;> omega
theorem lnB_mono {n : Int} {x : T2} {i j : Nat} (hn : 1 ≤ n) (h : lnB n x j = true) (hij : i < j) (hj : n + 1 + (j : Int) ≤ 60) : lnB n x i = true :=
  rlB_trans (ser_lt (n := n) (m := n + 1 + (i : Int)) (k := n + 1 + (j : Int)) (by omega) (by omega)) h
theorem cntF_cut {n : Int} {x : T2} (hn : 1 ≤ n) (k : Nat) (hk : n + (k : Int) ≤ 60) : ∀ i, i < k → lnB n x i = decide (i < cntF n x k) := by
  induction k with
  | zero => intro i hi; omega
  | succ k ih =>
    intro i hi
    have ih := ih (by omega)
    have hle := cntF_le n x k
    cases hl : lnB n x k
    · have e : cntF n x (k + 1) = cntF n x k := by
        show cntF n x k + (if lnB n x k = true then 1 else 0) = _
        rw [hl]; simp
      rw [e]
      rcases Nat.lt_or_ge i k with h | h
      · exact ih i h
      · obtain rfl : i = k := by omega
        rw [hl, decide_eq_false (by omega)]
    · have e : cntF n x (k + 1) = cntF n x k + 1 := by
        show cntF n x k + (if lnB n x k = true then 1 else 0) = _
        rw [hl]; simp
      have hk' : cntF n x k = k := by
        rcases Nat.lt_or_ge (cntF n x k) k with h | h
        · have h1 := ih _ h
          rw [lnB_mono hn hl h (by omega)] at h1
          simp at h1
        · omega
      rw [e, hk', decide_eq_true (show i < k + 1 by omega)]
      rcases Nat.lt_or_ge i k with h | h
      · exact lnB_mono hn hl h (by omega)
      · obtain rfl : i = k := by omega
        exact hl

set_option maxHeartbeats 2000000 in
theorem specSeriesMany_any (n a b : Int) (w : World) :
    Calls Try.prog 27 #[.int .i64 n, .agg #[.int .i64 a, .int .i64 b]] w fun e w' => e = .returned (.int .i64 (smF n (a, b))) ∧ Below w.heap.size w w' := by
  have HB0 := Lib.hid ((Below.refl w.heap.size w).alloc (Nat.le_refl _) (.cells #[.int .i64 a, .int .i64 b] 23))
  have HX0 := Lib.hid (Blk.new w 23 #[.int .i64 a, .int .i64 b])
  have H2 := Lib.hid (fun W => specRatValid_any a b W)
  obtain ⟨r, hr⟩ : ∃ r, smF n (a, b) = r := ⟨_, rfl⟩
  rw [hr]
  have HR := Lib.hid hr; clear hr
  cases hv : inB n 1 60
  · have he : r = -1 := by rw [← HR.out]; unfold smF; rw [hv]; simp
    have HE := Lib.hid he; clear he HR
    have HV := Lib.hid hv; clear hv
    go_enter Try.func27, Try.ntmps27
    go_wp2_with fail
    refine (l6In_any _ _ _ _).mono ?_
    rintro e w1 ⟨rfl, rfl⟩
    rw [HV.out]
    go_wp2_with fail
    go_ret
    exact ⟨ret_int HE.out.symm, HB0.out⟩
  have b1 := inB_iff.1 hv
  cases hr : rvB (a, b)
  · have he : r = -1 := by rw [← HR.out]; unfold smF; rw [hr]; simp
    have HE := Lib.hid he; clear he HR
    have HV := Lib.hid hv; clear hv
    rw [hr] at H2
    clear hr
    go_enter Try.func27, Try.ntmps27
    go_wp2_with fail
    refine (l6In_any _ _ _ _).mono ?_
    rintro e w1 ⟨rfl, rfl⟩
    rw [HV.out]
    go_wp2_with fail
    refine (H2.out _).mono ?_
    rintro e w1 ⟨rfl, hb1⟩
    have HB1 := Lib.hid (HB0.out.trans (hb1.mono HB0.out.size)); clear hb1
    go_wp2_with fail
    go_ret
    exact ⟨ret_int HE.out.symm, HB1.out⟩
  have he : r = (cntF n (a, b) (60 - n).toNat : Nat) := by rw [← HR.out]; unfold smF; rw [hv, hr]; simp
  have HE := Lib.hid he; clear he HR
  have HV := Lib.hid hv; clear hv
  rw [hr] at H2
  clear hr
  go_enter Try.func27, Try.ntmps27
  go_wp2_with fail
  refine (l6In_any _ _ _ _).mono ?_
  rintro e w1 ⟨rfl, rfl⟩
  rw [HV.out]
  go_wp2_with fail
  refine (H2.out _).mono ?_
  rintro e w1 ⟨rfl, hb1⟩
  have HB1 := Lib.hid (HB0.out.trans (hb1.mono HB0.out.size))
  have HX1 := Lib.hid (HX0.out.sub hb1); clear hb1 HX0 HB0 H2 HV
  go_wp2_with fail
  go_loopw [5, 6] (fun u v wr => ∃ k : Nat, n + (k : Int) ≤ 60 ∧ u = .int .i64 (cntF n (a, b) k : Nat) ∧ v = .int .i64 (n + 1 + (k : Int)) ∧ Hid (Below w.heap.size w wr) ∧ Hid (Blk wr w.heap.size 23 #[.int .i64 a, .int .i64 b])) (fun _ v _ => (61 - intOf v).toNat)
  case atStart => exact ⟨0, by omega, rfl, by simp, HB1.out, HX1.out⟩
  case round =>
    clear HB1 HX1
    obtain ⟨k, hk, rfl, rfl, HB, HX⟩ := hrel
    have hck := cntF_le n (a, b) k
    by_cases hlt : n + (k : Int) < 60
    · have HL := Lib.hid (fun W => specSeriesLine_any n (n + 1 + (k : Int)) W)
      obtain ⟨r1, r2, hser⟩ : ∃ r1 r2, serB n (n + 1 + (k : Int)) = ((r1, r2), true) := ⟨_, _, ser_yes (by omega)⟩
      rw [hser] at HL
      have HRL := Lib.hid (fun W => specRatLess_any r1 r2 a b W)
      have hln : lnB n (a, b) k = rlB (r1, r2) (a, b) := by unfold lnB; rw [hser]
      rw [← hln] at HRL
      have HC : Hid (cntF n (a, b) (k + 1) = cntF n (a, b) k + (if lnB n (a, b) k = true then 1 else 0)) := rfl
      clear hln hser
      go_wp2_with fail
      refine (HL.out _).mono ?_
      rintro e w2 ⟨rfl, hb2⟩
      rw [okV_form]
      have HX2 := Lib.hid (HX.out.sub hb2)
      have HB2 := Lib.hid (HB.out.trans (hb2.mono HB.out.size)); clear hb2 HX HB HL
      have HX3 := Lib.hid (HX2.out.alloc (.cells #[.int .i64 r1, .int .i64 r2] 23))
      have HB3 := Lib.hid (HB2.out.alloc HB2.out.size (.cells #[.int .i64 r1, .int .i64 r2] 23))
      obtain ⟨x1, x2, _, _⟩ := blk2 HX2.out
      have q0 := HX2.out.lt
      go_wp2_with fail
      refine (HRL.out _).mono ?_
      rintro e w3 ⟨rfl, hb3⟩
      have HX4 := Lib.hid (HX3.out.sub hb3)
      have HB4 := Lib.hid (HB3.out.trans (hb3.mono HB3.out.size)); clear hb3 HX3 HB3 HX2 HB2 HRL x1 x2 q0
      cases hl : lnB n (a, b) k
      · rw [hl] at HC
        clear hl
        go_wp2_with fail
        go_roundw
        case rel => exact ⟨k + 1, by omega, by rw [show cntF n (a, b) (k + 1) = cntF n (a, b) k by have := HC.out; simpa using this], by simp; omega, HB4.out, HX4.out⟩
        case measure => simp [intOf]; omega
      · rw [hl] at HC
        clear hl
        go_wp2_with fail
        go_roundw
        case rel => exact ⟨k + 1, by omega, by rw [show cntF n (a, b) (k + 1) = cntF n (a, b) k + 1 by have := HC.out; simpa using this]; simp, by simp; omega, HB4.out, HX4.out⟩
        case measure => simp [intOf]; omega
    · go_wp2_with fail
      go_ret
      exact ⟨ret_int (by rw [HE.out]; congr 2; omega), HB.out⟩

/-! The program's: a binary search. -/
theorem enters43 : ∀ args w, (callFunc 43 args).run Try.prog w = .ok (.enter 43 args) w :=
  enters_of Try.func43 (by kernel_rfl) rfl
theorem lnB_cmp {n : Int} {x : T2} {i : Nat} (hn : 1 ≤ n) (hi : n + 1 + (i : Int) ≤ 60) (hx : rvB x = true) {r1 r2 : Int} (hser : serB n (n + 1 + (i : Int)) = ((r1, r2), true)) :
    decide (0 ≤ cmpI (r1 * x.2) (x.1 * r2)) = !lnB n x i := by
  have hv := (ser1 (n := n) (m := n + 1 + (i : Int)) (by omega)).2.1
  unfold lnB
  rw [hser] at hv ⊢
  simp only at hv
  unfold rlB
  rw [hv, hx]
  simp only [Bool.and_self, Bool.true_and]
  unfold cmpI
  generalize r1 * x.2 = u
  generalize x.1 * r2 = v
  by_cases h : u < v
  · rw [if_pos h, decide_eq_true h]; rfl
  · rw [if_neg h, decide_eq_false h]
    split <;> rfl
set_option maxHeartbeats 2000000 in
theorem many1_any (i : Nat) (n a b : Int) (D1 D2 : Nat) (w : World) (hn : 1 ≤ n) (hi : n + 1 + (i : Int) ≤ 60) (hx : rvB (a, b) = true) (hc : w.cell? ⟨D1, 0, none⟩ = some (.int .i64 n)) (hX : Blk w D2 23 #[.int .i64 a, .int .i64 b]) :
    Calls Try.prog 43 #[.int .i64 i, .pointer (some ⟨D1, 0, none⟩), .pointer (some ⟨D2, 0, none⟩)] w fun e w' => e = .returned (.bool (!lnB n (a, b) i)) ∧ Below w.heap.size w w' := by
  have HB0 := Below.refl w.heap.size w
  have HX := Lib.hid hX; clear hX
  have HL := Lib.hid (fun W => line_any n (n + 1 + (i : Int)) W hn (by omega) hi)
  obtain ⟨r1, r2, hser⟩ : ∃ r1 r2, serB n (n + 1 + (i : Int)) = ((r1, r2), true) := ⟨_, _, ser_yes (by omega)⟩
  have HQ := Lib.hid (lnB_cmp hn hi hx hser)
  have hbd := rvB_bd hx
  have hbs : (1 ≤ r2 ∧ r2 ≤ 1000000000) ∧ (-1000000000 ≤ r1 ∧ r1 ≤ 1000000000) := by
    have := (ser1 (n := n) (m := n + 1 + (i : Int)) (by omega)).2.1
    rw [hser] at this
    exact rvB_bd this
  have HC := Lib.hid (fun W => compare_any r1 r2 a b W (by omega) (by omega) (by omega) (by omega))
  rw [hser] at HL
  clear hser hx
  simp only at HQ
  generalize cmpI (r1 * b) (a * r2) = q at *
  go_enter Try.func43, Try.ntmps43
  go_wp2_with fail
  refine (HL.out _).mono ?_
  rintro e w2 ⟨rfl, hb2⟩
  rw [okV_form]
  have HX2 := Lib.hid (HX.out.sub hb2)
  have HB2 := Lib.hid (HB0.trans (hb2.mono HB0.size)); clear hb2
  have HB3 := Lib.hid (HB2.out.alloc HB2.out.size (.cells #[.int .i64 r1, .int .i64 r2] 23))
  obtain ⟨x1, x2, _, _⟩ := blk2 HX2.out
  have q0 := HX2.out.lt
  go_wp2_with fail
  refine (HC.out _).mono ?_
  rintro e w3 ⟨rfl, hb3⟩
  have HB4 := Lib.hid (HB3.out.trans (hb3.mono HB3.out.size)); clear hb3
  go_wp2_with fail
  go_ret
  exact ⟨ret_bool HQ.out, HB4.out⟩

set_option maxHeartbeats 2000000 in
theorem implSeriesMany_any (n a b : Int) (w : World) :
    Calls Try.prog 28 #[.int .i64 n, .agg #[.int .i64 a, .int .i64 b]] w fun e w' => e = .returned (.int .i64 (smF n (a, b))) ∧ Below w.heap.size w w' := by
  obtain ⟨W0, hW0⟩ : ∃ W0, W0 = (w.alloc (.cells #[.int .i64 n] 3)).alloc (.cells #[.int .i64 a, .int .i64 b] 23) := ⟨_, rfl⟩
  have HB0 : Hid (Below w.heap.size w W0) := by rw [hW0]; exact ((Below.refl w.heap.size w).alloc (Nat.le_refl _) _).alloc (by simp) _
  have HN0 : Hid (Blk W0 w.heap.size 3 #[.int .i64 n]) := by rw [hW0]; exact (Blk.new w _ _).alloc _
  have HX0 : Hid (Blk W0 (w.heap.size + 1) 23 #[.int .i64 a, .int .i64 b]) := by rw [hW0]; have := Blk.new (w.alloc (.cells #[.int .i64 n] 3)) 23 #[.int .i64 a, .int .i64 b]; rwa [World.size_alloc] at this
  have HW := Lib.hid hW0; clear hW0
  have H2 := Lib.hid (fun W => implRatValid_any a b W)
  obtain ⟨r, hr⟩ : ∃ r, smF n (a, b) = r := ⟨_, rfl⟩
  rw [hr]
  have HR := Lib.hid hr; clear hr
  by_cases c1 : n < 1
  · have he : r = -1 := by rw [← HR.out]; unfold smF; rw [inB_not.2 (.inl c1)]; simp
    have HE := Lib.hid he; clear he HR
    go_enter Try.func28, Try.ntmps28
    go_wp2_with fail
    go_ret
    exact ⟨ret_int HE.out.symm, by rw [← HW.out]; exact HB0.out⟩
  by_cases c2 : 60 < n
  · have he : r = -1 := by rw [← HR.out]; unfold smF; rw [inB_not.2 (.inr c2)]; simp
    have HE := Lib.hid he; clear he HR
    go_enter Try.func28, Try.ntmps28
    go_wp2_with fail
    go_ret
    exact ⟨ret_int HE.out.symm, by rw [← HW.out]; exact HB0.out⟩
  cases hr : rvB (a, b)
  · have he : r = -1 := by rw [← HR.out]; unfold smF; rw [hr]; simp
    have HE := Lib.hid he; clear he HR
    rw [hr] at H2
    clear hr
    go_enter Try.func28, Try.ntmps28
    go_wp2_with fail
    rw [← HW.out]
    refine (H2.out _).mono ?_
    rintro e w1 ⟨rfl, hb1⟩
    have HB1 := Lib.hid (HB0.out.trans (hb1.mono HB0.out.size)); clear hb1
    go_wp2_with fail
    go_ret
    exact ⟨ret_int HE.out.symm, HB1.out⟩
  have he : r = (cntF n (a, b) (60 - n).toNat : Nat) := by rw [← HR.out]; unfold smF; rw [inB_iff.2 (by omega), hr]; simp
  have HE := Lib.hid he; clear he HR
  have HRV := Lib.hid hr
  rw [hr] at H2
  clear hr
  go_enter Try.func28, Try.ntmps28
  go_wp2_with fail
  rw [← HW.out]
  refine (H2.out _).mono ?_
  rintro e w1 ⟨rfl, hb1⟩
  have HN1 := Lib.hid (HN0.out.sub hb1)
  have HX1 := Lib.hid (HX0.out.sub hb1)
  have HB1 := Lib.hid (HB0.out.trans (hb1.mono HB0.out.size)); clear hb1 HN0 HX0 HB0
  obtain ⟨n1, _⟩ := blk1 HN1.out
  go_wp2_with fail
  rw [show (60 - n) = (((60 - n).toNat : Nat) : Int) by omega]
  refine (search_any 43 _ (60 - n).toNat (cntF n (a, b) (60 - n).toNat) _ enters43 (cntF_le _ _ _) (by omega) ?hf).mono ?_
  case hf =>
    intro i W hi hB
    refine (many1_any i n a b _ _ W (by omega) (by omega) HRV.out (blk1 (HN1.out.sub hB)).1 (HX1.out.sub hB)).mono ?_
    rintro e w2 ⟨rfl, hb2⟩
    refine ⟨ret_bool ?_, hb2⟩
    rw [cntF_cut (by omega) (60 - n).toNat (by omega) i hi]
    generalize cntF n (a, b) (60 - n).toNat = c
    rcases Nat.lt_or_ge i c with h | h
    · rw [decide_eq_true h, decide_eq_false (by omega)]; rfl
    · rw [decide_eq_false (by omega), decide_eq_true h]; rfl
  rintro e w2 ⟨rfl, hb2⟩
  have HB2 := Lib.hid (HB1.out.trans (hb2.mono HB1.out.size)); clear hb2
  go_wp2_with fail
  go_ret
  exact ⟨ret_int HE.out.symm, HB2.out⟩
end Go.Proofs.Ytaaiklhkhgennaa
