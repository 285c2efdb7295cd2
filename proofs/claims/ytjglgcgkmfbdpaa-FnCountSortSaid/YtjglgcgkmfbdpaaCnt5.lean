/- Weights of terms; sums over all angular momenta. -/
import Derived.Test.YtjglgcgkmfbdpaaCnt4
namespace Go.Proofs.Ytjglgcgkmfbdpaa
open Go.RowKit

def wt1 (t : T2) : Int := (t.1 + 1) * (2 * t.2 + 1)
def wtSum (ts : List T2) : Int := (ts.map wt1).sum
def wtS (ts : List T2) : Int := if ts.all tvB then wtSum ts else -1
theorem wtSum_snoc (ts : List T2) (t : T2) : wtSum (ts ++ [t]) = wtSum ts + wt1 t := by simp [wtSum]

def sumTo (f : Nat → Int) (m : Nat) : Int := ((List.range m).map f).sum
theorem sumTo_succ (f : Nat → Int) (m : Nat) : sumTo f (m + 1) = sumTo f m + f m := by simp [sumTo, List.range_succ]
theorem sumTo_add (f g : Nat → Int) (m : Nat) : sumTo (fun k => f k + g k) m = sumTo f m + sumTo g m := by
  induction m with
  | zero => simp [sumTo]
  | succ m ih => rw [sumTo_succ, sumTo_succ, sumTo_succ, ih]; omega
theorem sumTo_congr (f g : Nat → Int) (m : Nat) (h : ∀ k, k < m → f k = g k) : sumTo f m = sumTo g m := by
  induction m with
  | zero => rfl
  | succ m ih => rw [sumTo_succ, sumTo_succ, ih (fun k hk => h k (by omega)), h m (by omega)]

theorem valid_cases {t : T2} (h : tvB t = true) : ∃ a b : Fin 9, t = ((a.val : Int), (b.val : Int)) := by
  have h2 := tvB_iff.1 h
  obtain ⟨s, l⟩ := t
  simp only at h2
  obtain ⟨⟨s0, s1⟩, l0, l1⟩ := h2
  obtain ⟨s, rfl⟩ := Int.eq_ofNat_of_zero_le s0
  obtain ⟨l, rfl⟩ := Int.eq_ofNat_of_zero_le l0
  exact ⟨⟨s, by omega⟩, ⟨l, by omega⟩, rfl⟩
theorem one_wt : ∀ a b : Fin 9, sumTo (fun k => if (k : Int) ∈ lvJs ((a.val : Int), (b.val : Int)) then (k : Int) + 1 else 0) 25 = wt1 ((a.val : Int), (b.val : Int)) := by decide +kernel
theorem one_lev : ∀ a b : Fin 9, sumTo (fun k => if (k : Int) ∈ lvJs ((a.val : Int), (b.val : Int)) then 1 else 0) 25 = (lvJs ((a.val : Int), (b.val : Int))).length := by decide +kernel
theorem one_spin : ∀ a : Fin 9, sumTo (fun k => if ((a.val : Int) == (k : Int)) then 1 else 0) 9 = 1 := by decide +kernel

theorem cntJ_cons (t : T2) (ts : List T2) (j : Int) : cntJ (t :: ts) j = cntJ ts j + if j ∈ lvJs t then 1 else 0 := by
  unfold cntJ; rw [List.countP_cons]; by_cases h : j ∈ lvJs t <;> simp [h]
theorem sum_wt (ts : List T2) (h : ts.all tvB = true) : sumTo (fun k => ((k : Int) + 1) * cntJ ts k) 25 = wtSum ts := by
  induction ts with
  | nil => exact (sumTo_congr _ (fun _ => 0) 25 (fun k _ => by simp [cntJ])).trans (by decide)
  | cons t ts ih =>
    simp only [List.all_cons, Bool.and_eq_true] at h
    obtain ⟨a, b, rfl⟩ := valid_cases h.1
    rw [sumTo_congr _ (fun k => ((k : Int) + 1) * cntJ ts k + (if (k : Int) ∈ lvJs ((a.val : Int), (b.val : Int)) then (k : Int) + 1 else 0)) 25 (fun k _ => by
      rw [cntJ_cons, Int.mul_add]; split <;> simp), sumTo_add, ih h.2, one_wt]
    simp [wtSum]; omega
theorem sum_lev (ts : List T2) (h : ts.all tvB = true) : sumTo (fun k => cntJ ts k) 25 = cntLev ts := by
  induction ts with
  | nil => exact (sumTo_congr _ (fun _ => 0) 25 (fun k _ => by simp [cntJ])).trans (by decide)
  | cons t ts ih =>
    simp only [List.all_cons, Bool.and_eq_true] at h
    obtain ⟨a, b, rfl⟩ := valid_cases h.1
    rw [sumTo_congr _ (fun k => cntJ ts k + (if (k : Int) ∈ lvJs ((a.val : Int), (b.val : Int)) then 1 else 0)) 25 (fun k _ => by rw [cntJ_cons]), sumTo_add, ih h.2, one_lev]
    simp [cntLev]; omega
theorem sum_spin (ts : List T2) (h : ts.all tvB = true) : sumTo (fun k => cntSpin ts k) 9 = ts.length := by
  induction ts with
  | nil => exact (sumTo_congr _ (fun _ => 0) 9 (fun k _ => by simp [cntSpin])).trans (by decide)
  | cons t ts ih =>
    simp only [List.all_cons, Bool.and_eq_true] at h
    obtain ⟨a, b, rfl⟩ := valid_cases h.1
    rw [sumTo_congr _ (fun k => cntSpin ts k + (if ((a.val : Int) == (k : Int)) then 1 else 0)) 9 (fun k _ => by
      unfold cntSpin; rw [List.countP_cons]; split <;> simp), sumTo_add, ih h.2, one_spin]
    simp
theorem lev_ge (ts : List T2) (h : ts.all tvB = true) : (ts.length : Int) ≤ cntLev ts := by
  induction ts with
  | nil => simp [cntLev]
  | cons t ts ih =>
    simp only [List.all_cons, Bool.and_eq_true] at h
    have := ih h.2
    have h1 : 1 ≤ (lvJs t).length := by
      unfold lvJs; rw [if_pos h.1, cpl_len]; omega
    simp only [cntLev, List.map_cons, List.sum_cons, List.length_cons] at this ⊢
    omega
theorem wt1_bd {t : T2} (h : tvB t = true) : 0 ≤ wt1 t ∧ wt1 t ≤ 153 := by
  obtain ⟨a, b, rfl⟩ := valid_cases h
  have : ∀ a b : Fin 9, 0 ≤ wt1 ((a.val : Int), (b.val : Int)) ∧ wt1 ((a.val : Int), (b.val : Int)) ≤ 153 := by decide +kernel
  exact this a b
theorem wtSum_bd (ts : List T2) (h : ts.all tvB = true) : 0 ≤ wtSum ts ∧ wtSum ts ≤ ts.length * 153 := by
  induction ts with
  | nil => simp [wtSum]
  | cons t ts ih =>
    simp only [List.all_cons, Bool.and_eq_true] at h
    have h1 := ih h.2
    have h2 := wt1_bd h.1
    simp only [wtSum, List.map_cons, List.sum_cons, List.length_cons] at h1 ⊢
    omega

set_option maxHeartbeats 1000000 in
theorem implTermWeight_any (t : T2) (w : World) (hv : tvB t = true) :
    Calls Try.prog 40 #[.agg #[.int .i64 t.1, .int .i64 t.2]] w fun e w' => e = .returned (.int .i64 (wt1 t)) ∧ Below w.heap.size w w' := by
  have HQ := Lib.hid (fun W => implTermValid_any t W)
  obtain ⟨s, l⟩ := t
  have hv2 := tvB_iff.1 hv
  simp only at hv2
  obtain ⟨⟨s0, s1⟩, l0, l1⟩ := hv2
  have HV := Lib.hid hv; clear hv
  have HB := Lib.hid ((Below.refl w.heap.size w).alloc (Nat.le_refl _) (.cells #[.int .i64 s, .int .i64 l] 38))
  have HD := Lib.hid (Blk.new w 38 #[.int .i64 s, .int .i64 l])
  have hs : s = 0 ∨ s = 1 ∨ s = 2 ∨ s = 3 ∨ s = 4 ∨ s = 5 ∨ s = 6 ∨ s = 7 ∨ s = 8 := by omega
  rcases hs with rfl | rfl | rfl | rfl | rfl | rfl | rfl | rfl | rfl
  all_goals
    go_enter Try.func40, Try.ntmps40
    go_wp2_with fail
    refine (HQ.out _).mono ?_
    rintro e w2 ⟨rfl, hb2⟩
    rw [HV.out]
    have HB2 := Lib.hid (HB.out.trans (hb2.mono HB.out.size))
    obtain ⟨d1, d2, _, _⟩ := blk2 (HD.out.sub hb2)
    clear hb2
    go_wp2_with fail
    go_ret
    exact ⟨ret_int (by unfold wt1; simp), HB2.out⟩

set_option maxHeartbeats 1000000 in
theorem implTermsWeight_any (A : Option Addr) (n c : Nat) (ts : List T2) (w : World) (hn : n ≤ 1048576) (hts : ts.length = n) (hr : Reads w w.heap.size 2 A n (tcells ts)) :
    Calls Try.prog 24 #[.slice A n c] w fun e w' => e = .returned (.int .i64 (wtS ts)) ∧ Below w.heap.size w w' := by
  have HR := Lib.hid hr; clear hr
  have HT := Lib.hid hts; clear hts
  have hB0 := Below.refl w.heap.size w
  go_enter Try.func24, Try.ntmps24
  go_wp2_with fail
  go_loopw [3, 8] (fun v i wr => ∃ (k : Nat), k ≤ n ∧ i = .int .i64 k ∧ v = .int .i64 (wtSum (ts.take k)) ∧ (ts.take k).all tvB = true ∧ Below w.heap.size w wr) (fun _ i _ => n - (intOf i).toNat)
  case atStart => exact ⟨0, Nat.zero_le _, rfl, rfl, rfl, hB0⟩
  case round =>
    clear hB0
    obtain ⟨k, hk, rfl, rfl, hall, hB⟩ := hrel
    have hc := wtSum_bd (ts.take k) hall
    have HA := Lib.hid hall; clear hall
    have HB := Lib.hid hB; clear hB
    have hlk : (ts.take k).length ≤ k := List.length_take_le _ _
    have hc1 := hc.1
    have hc2 : wtSum (ts.take k) ≤ 1000000000 := by have := hc.2; omega
    clear hc
    by_cases hlt : k < n
    · obtain ⟨b, off, x, y, rfl, hb, h1, h2, H3, H4⟩ := (HR.out.below HB.out).term hlt
      have HC := Lib.hid (wtSum_snoc (ts.take k) (x, y))
      have HQ := Lib.hid (fun W => implTermValid_any (x, y) W)
      have HZ := Lib.hid (HB.out.alloc HB.out.size (.cells #[.int .i64 x, .int .i64 y] 38))
      have HD := Lib.hid (Blk.new wr 38 #[.int .i64 x, .int .i64 y])
      generalize wtSum (ts.take k) = q at *
      cases hv : tvB (x, y)
      · have HV := Lib.hid (ctL_snoc_bad ts k (x, y) H3.out hv); rw [hv] at HQ; clear hv
        go_wp2_with fail
        refine (HQ.out _).mono ?_
        rintro e w2 ⟨rfl, hb2⟩
        have HB2 := Lib.hid (HZ.out.trans (hb2.mono HZ.out.size)); clear hb2
        go_wp2_with fail
        go_ret
        exact ⟨ret_int (by unfold wtS; rw [HV.out]; rfl), HB2.out⟩
      · have HW := Lib.hid (fun W => implTermWeight_any (x, y) W hv)
        have hw1 := wt1_bd hv
        have HV := Lib.hid hv; rw [hv] at HQ; clear hv
        generalize wt1 (x, y) = z at *
        go_wp2_with fail
        refine (HQ.out _).mono ?_
        rintro e w2 ⟨rfl, hb2⟩
        have HB2 := Lib.hid (HZ.out.trans (hb2.mono HZ.out.size))
        obtain ⟨d1, d2, _, _⟩ := blk2 (HD.out.sub hb2)
        clear hb2 h1 h2
        go_wp2_with fail
        refine (HW.out _).mono ?_
        rintro e w3 ⟨rfl, hb3⟩
        have HB3 := Lib.hid (HB2.out.trans (hb3.mono HB2.out.size))
        clear hb3
        go_wp2_with fail
        go_roundw
        case rel => exact ⟨k + 1, by omega, by go_num, by rw [H4.out, HC.out], by rw [H4.out, List.all_append, HA.out]; simp [HV.out], HB3.out⟩
        case measure => simp [intOf]; omega
    · go_wp2_with fail
      go_ret
      have hkn : k = n := by omega
      subst hkn
      have HX := Lib.hid (show ts.take k = ts from List.take_of_length_le (by rw [HT.out]; exact Nat.le_refl _))
      rw [HX.out] at HA
      exact ⟨ret_int (by unfold wtS; rw [HA.out, HX.out]; rfl), HB.out⟩
end Go.Proofs.Ytjglgcgkmfbdpaa
