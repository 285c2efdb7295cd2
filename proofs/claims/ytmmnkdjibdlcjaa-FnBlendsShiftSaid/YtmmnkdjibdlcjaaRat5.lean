/- Rationals are compared; plain facts of rationals; whole. -/
import Derived.Test.YtmmnkdjibdlcjaaRat4
namespace Go.Proofs.Ytmmnkdjibdlcjaa
open Go.RowKit
attribute [local go_sem ↓] Go.wp_at_zero Go.wp_at_succ

theorem isNaN_any (n : Int) (w : World) : Calls Try.prog 41 #[.int .i64 n] w fun e w' => e = .returned (.bool false) ∧ w' = w := by
  have e1 : (n != n) = false := by simp
  go_enter Try.func41, Try.ntmps41
  go_wp2_with fail
  go_ret
  exact ⟨rfl, rfl⟩
def cmpI (a b : Int) : Int := if a < b then -1 else if b < a then 1 else 0
theorem cmp_any (a b : Int) (w : World) : Calls Try.prog 36 #[.int .i64 a, .int .i64 b] w fun e w' => e = .returned (.int .i64 (cmpI a b)) ∧ w' = w := by
  by_cases h1 : a < b
  · go_enter Try.func36, Try.ntmps36
    go_wp2_with (go_at_call 41; refine (isNaN_any _ _).mono ?_; rintro e w' ⟨rfl, rfl⟩)
    go_ret
    exact ⟨ret_int (by unfold cmpI; rw [if_pos h1]), rfl⟩
  · by_cases h2 : b < a
    · go_enter Try.func36, Try.ntmps36
      go_wp2_with (go_at_call 41; refine (isNaN_any _ _).mono ?_; rintro e w' ⟨rfl, rfl⟩)
      go_ret
      exact ⟨ret_int (by unfold cmpI; rw [if_neg (by omega), if_pos h2]), rfl⟩
    · go_enter Try.func36, Try.ntmps36
      go_wp2_with (go_at_call 41; refine (isNaN_any _ _).mono ?_; rintro e w' ⟨rfl, rfl⟩)
      go_ret
      exact ⟨ret_int (by unfold cmpI; rw [if_neg (by omega), if_neg (by omega)]), rfl⟩
theorem mul_bd {x y A B : Int} (hx : -A ≤ x ∧ x ≤ A) (hy : -B ≤ y ∧ y ≤ B) : -(A * B) ≤ x * y ∧ x * y ≤ A * B := by
  have h : (x * y).natAbs = x.natAbs * y.natAbs := Int.natAbs_mul x y
  have h1 : x.natAbs ≤ A.natAbs := by omega
  have h2 : y.natAbs ≤ B.natAbs := by omega
  have h3 : x.natAbs * y.natAbs ≤ A.natAbs * B.natAbs := Nat.mul_le_mul h1 h2
  have h4 : (A * B).natAbs = A.natAbs * B.natAbs := Int.natAbs_mul A B
  have h5 : 0 ≤ A * B := Int.mul_nonneg (by omega) (by omega)
  omega
theorem rvB_bd {a b : Int} (h : rvB (a, b) = true) : (1 ≤ b ∧ b ≤ 1000000000) ∧ (-1000000000 ≤ a ∧ a ≤ 1000000000) := by
  simp only [rvB, Bool.and_eq_true, inB_iff] at h
  exact h.1

set_option maxHeartbeats 1000000 in
theorem compare_any (a b c d : Int) (w : World) (ha : -1000000000 ≤ a ∧ a ≤ 1000000000) (hb : -1000000000 ≤ b ∧ b ≤ 1000000000) (hc : -1000000000 ≤ c ∧ c ≤ 1000000000) (hd : -1000000000 ≤ d ∧ d ≤ 1000000000) :
    Calls Try.prog 32 #[.agg #[.int .i64 a, .int .i64 b], .agg #[.int .i64 c, .int .i64 d]] w fun e w' => e = .returned (.int .i64 (cmpI (a * d) (c * b))) ∧ Below w.heap.size w w' := by
  have HB : Hid (∀ o1 o2, Below w.heap.size w ((w.alloc o1).alloc o2)) := fun o1 o2 => (((Below.refl _ _).alloc (Nat.le_refl _) _).alloc (by simp) _)
  have m1 := mul_bd ha hd
  have m2 := mul_bd hc hb
  have HC := Lib.hid (fun W => cmp_any (a * d) (c * b) W)
  generalize cmpI (a * d) (c * b) = r at *
  go_enter Try.func32, Try.ntmps32
  go_wp2_with fail
  refine (HC.out _).mono ?_
  rintro e w1 ⟨rfl, rfl⟩
  go_wp2_with fail
  go_ret
  exact ⟨rfl, HB.out _ _⟩

def rlB (a b : T2) : Bool := (rvB a && rvB b) && decide (a.1 * b.2 < b.1 * a.2)
set_option maxHeartbeats 1000000 in
theorem implRatLess_any (a b c d : Int) (w : World) :
    Calls Try.prog 19 #[.agg #[.int .i64 a, .int .i64 b], .agg #[.int .i64 c, .int .i64 d]] w fun e w' => e = .returned (.bool (rlB (a, b) (c, d))) ∧ Below w.heap.size w w' := by
  have HB1 := Lib.hid (((Below.refl w.heap.size w).alloc (Nat.le_refl _) (.cells #[.int .i64 a, .int .i64 b] 36)).alloc (by simp) (.cells #[.int .i64 c, .int .i64 d] 36))
  have HX := Lib.hid ((Blk.new w 36 #[.int .i64 a, .int .i64 b]).alloc (.cells #[.int .i64 c, .int .i64 d] 36))
  have hy := Blk.new (w.alloc (.cells #[.int .i64 a, .int .i64 b] 36)) 36 #[.int .i64 c, .int .i64 d]
  rw [World.size_alloc] at hy
  have HY := Lib.hid hy; clear hy
  have H1 := Lib.hid (fun W => implRatValid_any a b W)
  have H2 := Lib.hid (fun W => implRatValid_any c d W)
  obtain ⟨r, hr⟩ : ∃ r, rlB (a, b) (c, d) = r := ⟨_, rfl⟩
  rw [hr]
  have HR := Lib.hid hr; clear hr
  cases v1 : rvB (a, b)
  · have he : r = false := by rw [← HR.out]; simp [rlB, v1]
    have HE := Lib.hid he; clear he HR
    rw [v1] at H1
    clear v1
    go_enter Try.func19, Try.ntmps19
    go_wp2_with fail
    refine (H1.out _).mono ?_
    rintro e w1 ⟨rfl, hb1⟩
    have HB2 := Lib.hid (HB1.out.trans (hb1.mono HB1.out.size)); clear hb1
    go_wp2_with fail
    go_ret
    exact ⟨ret_bool HE.out.symm, HB2.out⟩
  rw [v1] at H1
  cases v2 : rvB (c, d)
  · have he : r = false := by rw [← HR.out]; simp [rlB, v2]
    have HE := Lib.hid he; clear he HR
    rw [v2] at H2
    clear v1 v2
    go_enter Try.func19, Try.ntmps19
    go_wp2_with fail
    refine (H1.out _).mono ?_
    rintro e w1 ⟨rfl, hb1⟩
    have HB2 := Lib.hid (HB1.out.trans (hb1.mono HB1.out.size))
    obtain ⟨y1, y2, _, _⟩ := blk2 (HY.out.sub hb1)
    clear hb1
    go_wp2_with fail
    refine (H2.out _).mono ?_
    rintro e w2 ⟨rfl, hb2⟩
    have HB3 := Lib.hid (HB2.out.trans (hb2.mono HB2.out.size)); clear hb2
    go_wp2_with fail
    go_ret
    exact ⟨ret_bool HE.out.symm, HB3.out⟩
  rw [v2] at H2
  have e1 := rvB_bd v1
  have e2 := rvB_bd v2
  have HC := Lib.hid (fun W => compare_any a b c d W (by omega) (by omega) (by omega) (by omega))
  have he : r = decide (cmpI (a * d) (c * b) < 0) := by
    rw [← HR.out]
    simp only [rlB, v1, v2, Bool.and_self, Bool.true_and]
    apply decide_eq_decide.2
    unfold cmpI
    generalize a * d = x
    generalize c * b = y
    split
    · constructor <;> intro h <;> omega
    · split <;> constructor <;> intro h <;> omega
  have HE := Lib.hid he; clear he HR v1 v2
  generalize cmpI (a * d) (c * b) = q at *
  go_enter Try.func19, Try.ntmps19
  go_wp2_with fail
  refine (H1.out _).mono ?_
  rintro e w1 ⟨rfl, hb1⟩
  have HB2 := Lib.hid (HB1.out.trans (hb1.mono HB1.out.size))
  have HX1 := Lib.hid (HX.out.sub hb1)
  have HY1 := Lib.hid (HY.out.sub hb1)
  obtain ⟨y1, y2, _, _⟩ := blk2 HY1.out
  clear hb1 HX HY
  go_wp2_with fail
  refine (H2.out _).mono ?_
  rintro e w2 ⟨rfl, hb2⟩
  have HB3 := Lib.hid (HB2.out.trans (hb2.mono HB2.out.size))
  clear y1 y2
  obtain ⟨y1, y2, _, _⟩ := blk2 (HY1.out.sub hb2)
  obtain ⟨x1, x2, _, _⟩ := blk2 (HX1.out.sub hb2)
  clear hb2
  go_wp2_with fail
  refine (HC.out _).mono ?_
  rintro e w3 ⟨rfl, hb3⟩
  have HB4 := Lib.hid (HB3.out.trans (hb3.mono HB3.out.size)); clear hb3
  go_wp2_with fail
  go_ret
  exact ⟨ret_bool HE.out.symm, HB4.out⟩
theorem ratOf_val {num den : Int} {x : T2} (h : ratOf num den = (x, true)) (hd : 0 < den) : x.1 * den = num * x.2 ∧ rvB x = true := by
  unfold ratOf at h
  split at h
  · cases h
  · unfold mkB at h
    split at h
    · rename_i hv
      injection h with h1 _
      subst h1
      refine ⟨?_, hv⟩
      have hs : sg num den = (Nat.gcd num.natAbs den.natAbs : Nat) := by unfold sg; rw [if_neg (by omega)]
      have hgp : 0 < Nat.gcd num.natAbs den.natAbs := Nat.gcd_pos_of_pos_right _ (by omega)
      have d1 : ((Nat.gcd num.natAbs den.natAbs : Nat) : Int) ∣ num := Int.gcd_dvd_left num den
      have d2 : ((Nat.gcd num.natAbs den.natAbs : Nat) : Int) ∣ den := Int.gcd_dvd_right num den
      unfold mk0
      rw [hs]
      generalize Nat.gcd num.natAbs den.natAbs = g at *
      obtain ⟨a, rfl⟩ := d1
      obtain ⟨b, rfl⟩ := d2
      simp only
      rw [Int.mul_tdiv_cancel_left _ (by omega), Int.mul_tdiv_cancel_left _ (by omega)]
      rw [← Int.mul_assoc, Int.mul_comm a]
    · cases h
theorem rvB_gcd {x : T2} (h : rvB x = true) : Nat.gcd x.1.natAbs x.2.natAbs = 1 ∧ 1 ≤ x.2 := by
  simp only [rvB, Bool.and_eq_true, inB_iff, decide_eq_true_eq] at h
  exact ⟨h.2, h.1.1.1⟩
theorem rat_unique {x y : T2} (hx : rvB x = true) (hy : rvB y = true) (h : x.1 * y.2 = y.1 * x.2) : x = y := by
  obtain ⟨gx, px⟩ := rvB_gcd hx
  obtain ⟨gy, py⟩ := rvB_gcd hy
  obtain ⟨x1, x2⟩ := x
  obtain ⟨y1, y2⟩ := y
  simp only at *
  have hn : x1.natAbs * y2.natAbs = y1.natAbs * x2.natAbs := by rw [← Int.natAbs_mul, ← Int.natAbs_mul, h]
  have a1 : x2.natAbs ∣ y2.natAbs := (Nat.Coprime.symm gx).dvd_of_dvd_mul_left (hn ▸ Nat.dvd_mul_left _ _)
  have a2 : y2.natAbs ∣ x2.natAbs := (Nat.Coprime.symm gy).dvd_of_dvd_mul_left (hn.symm ▸ Nat.dvd_mul_left _ _)
  have e2 : x2 = y2 := by have := Nat.dvd_antisymm a1 a2; omega
  subst e2
  have e1 : x1 = y1 := Int.eq_of_mul_eq_mul_right (by omega) h
  rw [e1]
theorem ratOf_ok {n d x1 x2 : Int} {ok : Bool} (h : ratOf n d = ((x1, x2), ok)) : ok = true → (1 ≤ x2 ∧ x2 ≤ 1000000000) ∧ (-1000000000 ≤ x1 ∧ x1 ≤ 1000000000) := by
  rintro rfl
  unfold ratOf at h
  split at h
  · cases h
  · unfold mkB at h
    split at h
    · rename_i hv
      injection h with h1 _
      rw [h1] at hv
      exact rvB_bd hv
    · cases h
theorem rlB_iff {a b : T2} : rlB a b = true ↔ rvB a = true ∧ rvB b = true ∧ a.1 * b.2 < b.1 * a.2 := by
  simp [rlB, and_assoc]
theorem whole_any (n : Int) (w : World) :
    Calls Try.prog 20 #[.int .i64 n] w fun e w' => e = .returned (.agg #[.int .i64 n, .int .i64 1]) ∧ Below w.heap.size w w' := by
  go_enter Try.func20, Try.ntmps20
  go_wp2_with fail
  refine bodyPost_ret (v := .agg #[.int .i64 n, .int .i64 1]) (by simp [results, Try.results20, go_sem]) rfl ⟨rfl, ?_⟩
  repeat (first | exact Below.refl _ _ | refine Below.alloc ?_ (by simp; try omega) _ | refine Below.setCell ?_ (by simp; try omega) _)
end Go.Proofs.Ytmmnkdjibdlcjaa
