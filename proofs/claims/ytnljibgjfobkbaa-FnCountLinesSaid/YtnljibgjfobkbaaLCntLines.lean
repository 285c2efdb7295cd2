/- The walk of the law FnCountLines. -/
import Derived.Test.YtnljibgjfobkbaaLn8
import Derived.Test.YtnljibgjfobkbaaScDp
import Derived.Test.YtnljibgjfobkbaaLawKit
namespace Go.Proofs.Ytnljibgjfobkbaa
open Go.RowKit
attribute [local go_sem ↓] Go.wp_at_zero Go.wp_at_succ

def sumU (L : List L3) : Nat → Nat
  | 0 => 0
  | i + 1 => sumU L i + (upF i L).length
theorem lt_step (L : List L3) (m : Nat) : (L.filter fun t => decide (t.1 < (m : Int) + 1)).length = (L.filter fun t => decide (t.1 < (m : Int))).length + (upF m L).length := by
  induction L with
  | nil => rfl
  | cons t L ih =>
    unfold upF at *
    rw [List.filter_cons, List.filter_cons, List.filter_cons]
    by_cases h1 : t.1 < (m : Int)
    · rw [if_pos (decide_eq_true (by omega)), if_pos (decide_eq_true h1), if_neg (by simp; omega), List.length_cons, List.length_cons, ih]; omega
    · by_cases h2 : t.1 = (m : Int)
      · rw [if_pos (decide_eq_true (by omega)), if_neg (by simpa using h1), if_pos (decide_eq_true h2), List.length_cons, List.length_cons, ih]; omega
      · rw [if_neg (by simp; omega), if_neg (by simpa using h1), if_neg (by simpa using h2), ih]
theorem sumU_lt (L : List L3) (h : ∀ t ∈ L, 0 ≤ t.1) (m : Nat) : sumU L m = (L.filter fun t => decide (t.1 < (m : Int))).length := by
  induction m with
  | zero =>
    have : (L.filter fun t => decide (t.1 < ((0 : Nat) : Int))) = [] := by
      rw [List.filter_eq_nil_iff]
      intro t ht hd
      have h0 := h t ht
      simp at hd
      omega
    rw [this]; rfl
  | succ m ih =>
    show sumU L m + _ = _
    rw [ih, show ((m + 1 : Nat) : Int) = (m : Int) + 1 by omega, lt_step]
theorem rowL_mem {ns : List T3} {i k : Nat} {t : L3} (h : t ∈ rowL ns i k) : t.1 = (i : Int) := by
  induction k with
  | zero => simp [rowL] at h
  | succ k ih =>
    simp only [rowL, List.mem_append] at h
    rcases h with h | h
    · exact ih h
    · split at h
      · simp only [List.mem_singleton] at h; rw [h]
      · simp at h
theorem allL_mem {ns : List T3} {n : Nat} {t : L3} (h : t ∈ allL ns n) : 0 ≤ t.1 ∧ t.1 < (n : Int) := by
  induction n with
  | zero => simp [allL] at h
  | succ n ih =>
    simp only [allL, List.mem_append] at h
    rcases h with h | h
    · have := ih h; omega
    · have := rowL_mem h; omega
theorem sumU_all (ns : List T3) (n : Nat) : sumU (allL ns n) n = (allL ns n).length := by
  rw [sumU_lt _ (fun t ht => (allL_mem ht).1), List.filter_eq_self.2]
  intro t ht
  exact decide_eq_true (allL_mem ht).2
theorem sumU_le (L : List L3) (m : Nat) : sumU L m ≤ L.length * m := by
  induction m with
  | zero => simp [sumU]
  | succ m ih => have := upF_len m L; show sumU L m + _ ≤ L.length * (m + 1); rw [Nat.mul_add]; omega

set_option maxHeartbeats 2000000 in
theorem fnCountLines_walk (A : Option Addr) (n0 c0 : Nat) (w : World) (hn : n0 ≤ maxLen) (hc : n0 ≤ c0) (hb : Bytes w w.heap.size A n0) :
    Calls Try.prog 4 #[.slice A n0 c0] w fun e w' => e = .returned (.bool true) ∧ Below w.heap.size w w' := by
  unfold maxLen at hn
  have HB := Lib.hid hb; clear hb
  have hB0 := Below.refl w.heap.size w
  by_cases hbig : 1048576 < n0
  · go_enter Try.func4, Try.ntmps4
    go_wp2_with fail
    go_ret
    exact ⟨rfl, hB0⟩
  clear hB0
  go_enter Try.func4, Try.ntmps4
  go_wp2_with fail
  refine (DrawCountLines_any A n0 c0 w (by omega) hc HB.out).mono ?_
  rintro e w1 ⟨A2, n, c2, ns, rfl, hL, hb1⟩
  have HB1 := Lib.hid hb1; clear hb1 HB
  obtain ⟨hnc, hts, h8, hr⟩ := hL
  have HR := Lib.hid (fun W (hB : Below w1.heap.size w1 W) => (hr.below hB).more hB.size); clear hr
  have HI := Lib.hid (fun W hB => implCountLines_any A2 c2 n ns W (by omega) hnc hts (HR.out W hB))
  have HS := Lib.hid (fun W hB => specCountLines_any A2 c2 n ns W (by omega) hts (HR.out W hB))
  cases hv : svB ns
  · have he : clF ns = -1 := by unfold clF; rw [hv]; simp
    rw [he] at HI HS; clear he hv hts
    go_wp2_with fail
    refine (HI.out _ (Below.refl _ _)).mono ?_
    rintro e w2 ⟨rfl, hb2⟩
    have HC2 := Lib.hid hb2; clear hb2
    go_wp2_with fail
    refine (HS.out _ HC2.out).mono ?_
    rintro e w3 ⟨rfl, hb3⟩
    have HC3 := Lib.hid (HC2.out.trans (hb3.mono HC2.out.size)); clear hb3 HC2
    have HB3 := Lib.hid (HB1.out.trans (HC3.out.mono HB1.out.size))
    go_wp2_with fail
    go_ret
    exact ⟨rfl, HB3.out⟩
  have he : clF ns = ((allL ns c2).length : Int) := by unfold clF; rw [if_pos hv, hts]
  have hal := allL_len ns c2 (by omega)
  have HD := Lib.hid (fun i W hB => decays_any A2 c2 n ns i W (by omega) hnc hts hv (HR.out W hB))
  have HSU := Lib.hid (sumU_all ns c2)
  have HSL := Lib.hid (sumU_le (allL ns c2))
  rw [he] at HI HS
  clear he hv hts
  obtain ⟨T, hT⟩ : ∃ T, (allL ns c2).length = T := ⟨_, rfl⟩
  rw [hT] at HI HS HSU HSL hal
  clear hT
  go_wp2_with fail
  refine (HI.out _ (Below.refl _ _)).mono ?_
  rintro e w2 ⟨rfl, hb2⟩
  have HC2 := Lib.hid hb2; clear hb2
  go_wp2_with fail
  refine (HS.out _ HC2.out).mono ?_
  rintro e w3 ⟨rfl, hb3⟩
  have HC3 := Lib.hid (HC2.out.trans (hb3.mono HC2.out.size)); clear hb3 HC2 HI HS
  go_wp2_with fail
  go_loopw [6, 7] (fun s i wr => ∃ k : Nat, k ≤ c2 ∧ i = .int .i64 k ∧ s = .int .i64 (sumU (allL ns c2) k : Nat) ∧ Hid (Below w1.heap.size w1 wr)) (fun _ i _ => c2 - (intOf i).toNat)
  case atStart => exact ⟨0, Nat.zero_le _, rfl, rfl, HC3.out⟩
  case round =>
    clear HC3
    obtain ⟨k, hk, rfl, rfl, HC⟩ := hrel
    by_cases hlt : k < c2
    · have hs1 := HSL.out k
      have hs2 := HSL.out (k + 1)
      have hm1 : T * k ≤ 96 * 8 := Nat.mul_le_mul (by omega) (by omega)
      have hm2 : T * (k + 1) ≤ 96 * 8 := Nat.mul_le_mul (by omega) (by omega)
      have HST : Hid (sumU (allL ns c2) (k + 1) = sumU (allL ns c2) k + (upF k (allL ns c2)).length) := rfl
      rw [HST.out] at hs2
      have i3 : (0 : Int) ≤ (k : Int) := by omega
      have i4 : (k : Int) < (c2 : Int) := by omega
      generalize sumU (allL ns c2) k = S at *
      have HDk := Lib.hid (fun W hB => HD.out k W hB)
      obtain ⟨U, hU⟩ : ∃ U, (upF k (allL ns c2)).length = U := ⟨_, rfl⟩
      rw [hU] at HDk HST hs2
      clear hU
      have b1 : S ≤ 768 := by omega
      have b2 : S + U ≤ 768 := by omega
      clear hs1 hs2 hm1 hm2
      go_wp2_with fail
      refine (HDk.out _ HC.out).mono ?_
      rintro e w4 ⟨⟨A3, q, c3, rfl, rfl⟩, hb4⟩
      have HC4 := Lib.hid (HC.out.trans (hb4.mono HC.out.size)); clear hb4
      go_wp2_with fail
      go_roundw
      case rel => exact ⟨k + 1, by omega, by go_num, by rw [HST.out]; rfl, HC4.out⟩
      case measure => simp [intOf]; omega
    · obtain rfl : k = c2 := by omega
      have hsu := HSU.out
      rw [hsu]
      go_wp2_with fail
      go_ret
      exact ⟨rfl, HB1.out.trans (HC.out.mono HB1.out.size)⟩
end Go.Proofs.Ytnljibgjfobkbaa
