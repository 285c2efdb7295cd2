/- Marks are checked. -/
import Derived.Test.YtogbjneldipnpaaMkP
import Derived.Test.YtogbjneldipnpaaOpen
import Derived.Test.YtogbjneldipnpaaWords2
import Derived.Deep.RegionWith
import Derived.Deep.RegionHeld3
import Derived.Deep.DrawnRows
namespace Go.Proofs.Ytogbjneldipnpaa
open Go.RowKit
attribute [local go_sem ↓] Go.wp_at_zero Go.wp_at_succ

theorem below_drewN {B : Nat} {a w : World} (h : Below B a w) (n : Nat) : Below B a (w.drewN n) := ⟨h.os, h.tape, h.output, h.size, h.block⟩
theorem Reads.mark {w : World} {B : Nat} {A : Option Addr} {n : Nat} {ts : List T2} (h : Reads w B 2 A n (tcells ts)) {k : Nat} (hk : k < n) :
    ∃ b off, A = some ⟨b, off, none⟩ ∧ b < B ∧ w.cell? ⟨b, off + k * 2, none⟩ = some (.int .i64 (gp ts k)) ∧ w.cell? ⟨b, off + k * 2 + 1, none⟩ = some (.int .i64 (gn ts k)) := by
  obtain ⟨b, off, x, y, e, hb, h1, h2, H3, _⟩ := h.term hk
  obtain ⟨rfl, rfl⟩ := gp_of H3.out
  exact ⟨b, off, e, hb, h1, h2⟩

set_option maxHeartbeats 2000000 in
theorem implMarksValid_any (A : Option Addr) (n c : Nat) (ms : List T2) (w : World) (hn : n ≤ 1048576) (hts : ms.length = n) (hr : Reads w w.heap.size 2 A n (tcells ms)) :
    Calls Try.prog 20 #[.slice A n c] w fun e w' => e = .returned (.bool (mvB ms)) ∧ Below w.heap.size w w' := by
  have HR := Lib.hid hr; clear hr
  have HT := Lib.hid hts; clear hts
  have hB0 := Below.refl w.heap.size w
  by_cases h2 : n < 2
  · go_enter Try.func20, Try.ntmps20
    go_wp2_with fail
    go_ret
    exact ⟨ret_bool (mvB_len (by rw [HT.out]; omega)).symm, hB0⟩
  by_cases h10 : 10 < n
  · go_enter Try.func20, Try.ntmps20
    go_wp2_with fail
    go_ret
    exact ⟨ret_bool (mvB_len (by rw [HT.out]; omega)).symm, hB0⟩
  go_enter Try.func20, Try.ntmps20
  go_wp2_with fail
  go_loopw [15] (fun i wr => ∃ (k : Nat), k ≤ n ∧ i = .int .i64 k ∧ (∀ j, j < k → okAt ms j = true) ∧ Below w.heap.size w wr) (fun i _ => n - (intOf i).toNat)
  case atStart => exact ⟨0, Nat.zero_le _, rfl, fun j hj => absurd hj (Nat.not_lt_zero _), hB0⟩
  case round =>
    clear hB0
    obtain ⟨k, hk, rfl, hok, hB⟩ := hrel
    have HB := Lib.hid hB; clear hB
    have HOK := Lib.hid hok; clear hok
    by_cases hlt : k < n
    · obtain ⟨b, off, rfl, hb, h1, h2'⟩ := (HR.out.below HB.out).mark hlt
      have HF := Lib.hid (show okAt ms k = false → mvB ms = false from mvB_false (by rw [HT.out]; exact hlt))
      have HI := Lib.hid (okAt_iff (ms := ms) (k := k))
      have hbl : b < wr.heap.size := Nat.lt_of_lt_of_le hb HB.out.size
      generalize hx : gp ms k = x at *
      generalize hy : gn ms k = y at *
      by_cases c1 : x < 0
      · go_wp2_with fail
        go_ret
        exact ⟨ret_bool (HF.out (by rw [← Bool.not_eq_true, HI.out]; omega)).symm, HB.out.alloc HB.out.size _⟩
      by_cases c2 : 100000 < x
      · go_wp2_with fail
        go_ret
        exact ⟨ret_bool (HF.out (by rw [← Bool.not_eq_true, HI.out]; omega)).symm, HB.out.alloc HB.out.size _⟩
      by_cases c3 : y < 0
      · go_wp2_with fail
        go_ret
        exact ⟨ret_bool (HF.out (by rw [← Bool.not_eq_true, HI.out]; omega)).symm, HB.out.alloc HB.out.size _⟩
      by_cases c4 : 200000 < y
      · go_wp2_with fail
        go_ret
        exact ⟨ret_bool (HF.out (by rw [← Bool.not_eq_true, HI.out]; omega)).symm, HB.out.alloc HB.out.size _⟩
      go_wp2_with fail
      have HB2 := Lib.hid (HB.out.alloc HB.out.size (.cells #[.int .i64 x, .int .i64 y] 34))
      by_cases h0 : k = 0
      · have i0 : ¬ (0 : Int) < (k : Int) := by omega
        go_quiet (fail)
        go_wp2_with fail
        go_roundw
        case rel =>
          refine ⟨k + 1, by omega, by go_num, fun j hj => ?_, below_drewN HB2.out _⟩
          obtain rfl : j = k := by omega
          exact HI.out.2 ⟨by omega, .inl h0⟩
        case measure => simp [intOf]; omega
      · obtain ⟨j, rfl⟩ : ∃ j, k = j + 1 := ⟨k - 1, by omega⟩
        obtain ⟨b', off', e', hb', h1', h2''⟩ := (HR.out.below HB.out).mark (show j < n by omega)
        cases e'
        simp only [Nat.add_sub_cancel] at HI
        generalize hx' : gp ms j = x' at *
        generalize hy' : gn ms j = y' at *
        have q1 := cell_past (.cells #[.int .i64 x, .int .i64 y] 34) h1'
        have q2 := cell_past (.cells #[.int .i64 x, .int .i64 y] 34) h2''
        obtain ⟨z1, z2, _, _⟩ := blk2 (Blk.new wr 34 #[.int .i64 x, .int .i64 y])
        have i1 : IntKind.i64.wrap (((j + 1 : Nat) : Int) - 1) = (j : Int) := (IntWalk.i64_in _ (by omega)).trans (by omega)
        have i2 : (0 : Int) < ((j + 1 : Nat) : Int) := by omega
        have i3 : (0 : Int) ≤ (j : Int) := by omega
        have i4 : (j : Int) < (n : Int) := by omega
        by_cases d1 : x ≤ x'
        · go_quiet (fail)
          go_wp2_with fail
          go_ret
          exact ⟨ret_bool (HF.out (by rw [← Bool.not_eq_true, HI.out]; omega)).symm, below_drewN HB2.out _⟩
        by_cases d2 : y ≤ y'
        · go_quiet (fail)
          go_wp2_with fail
          go_ret
          exact ⟨ret_bool (HF.out (by rw [← Bool.not_eq_true, HI.out]; omega)).symm, below_drewN HB2.out _⟩
        go_quiet (fail)
        go_wp2_with fail
        go_roundw
        case rel =>
          refine ⟨j + 1 + 1, by omega, by go_num, fun i hi => ?_, below_drewN HB2.out _⟩
          rcases Nat.lt_or_ge i (j + 1) with h | h
          · exact HOK.out i h
          · obtain rfl : i = j + 1 := by omega
            exact HI.out.2 ⟨by omega, .inr (by omega)⟩
        case measure => simp [intOf]; omega
    · go_wp2_with fail
      go_ret
      exact ⟨ret_bool (mvB_iff.2 ⟨by rw [HT.out]; omega, fun j hj => HOK.out j (by rw [HT.out] at hj; omega)⟩).symm, HB.out⟩

set_option maxHeartbeats 2000000 in
theorem specMarksValid_quiet (A : Option Addr) (n c : Nat) (ms : List T2) (w : World) (hn : n ≤ 1048576) (hts : ms.length = n) (hr : Reads w w.heap.size 2 A n (tcells ms)) :
    Calls Try.prog 28 #[.slice A n c] w fun e w' => e = .returned (.bool (mvB ms)) ∧ ∃ q, w' = w.drewN q := by
  have HR := Lib.hid hr; clear hr
  have HT := Lib.hid hts; clear hts
  have hB0 : ∃ q, w = w.drewN q := ⟨0, rfl⟩
  cases hv : inB n 2 10
  · have HV := Lib.hid hv; clear hv
    go_enter Try.func28, Try.ntmps28
    go_wp2_with fail
    refine (l6In_any _ _ _ _).mono ?_
    rintro e w1 ⟨rfl, rfl⟩
    rw [HV.out]
    go_wp2_with fail
    go_ret
    exact ⟨ret_bool (mvB_len (by have := inB_not.1 HV.out; rw [HT.out]; omega)).symm, hB0⟩
  have h210 := inB_iff.1 hv
  have HV := Lib.hid hv; clear hv
  go_enter Try.func28, Try.ntmps28
  go_wp2_with fail
  refine (l6In_any _ _ _ _).mono ?_
  rintro e w1 ⟨rfl, rfl⟩
  rw [HV.out]
  go_wp2_with fail
  go_loopw [3] (fun i wr => ∃ (k : Nat), k ≤ n ∧ i = .int .i64 k ∧ (∀ j, j < k → okAt ms j = true) ∧ ∃ q, wr = w.drewN q) (fun i _ => n - (intOf i).toNat)
  case atStart => exact ⟨0, Nat.zero_le _, rfl, fun j hj => absurd hj (Nat.not_lt_zero _), hB0⟩
  case round =>
    clear hB0
    obtain ⟨k, hk, rfl, hok, q, rfl⟩ := hrel
    have HOK := Lib.hid hok; clear hok
    by_cases hlt : k < n
    · obtain ⟨b, off, rfl, hb, h1, h2'⟩ := HR.out.mark hlt
      have HF := Lib.hid (show okAt ms k = false → mvB ms = false from mvB_false (by rw [HT.out]; exact hlt))
      have HI := Lib.hid (okAt_iff (ms := ms) (k := k))
      generalize hx : gp ms k = x at *
      generalize hy : gn ms k = y at *
      cases hv1 : inB x 0 100000
      · have HV1 := Lib.hid hv1; clear hv1
        go_wp2_with fail
        refine (l6In_any _ _ _ _).mono ?_
        rintro e w1 ⟨rfl, rfl⟩
        rw [HV1.out]
        go_wp2_with fail
        go_ret
        exact ⟨ret_bool (HF.out (by have := inB_not.1 HV1.out; rw [← Bool.not_eq_true, HI.out]; omega)).symm, ⟨q, rfl⟩⟩
      have v1 := inB_iff.1 hv1
      have HV1 := Lib.hid hv1; clear hv1
      cases hv2 : inB y 0 200000
      · have HV2 := Lib.hid hv2; clear hv2
        go_wp2_with fail
        refine (l6In_any _ _ _ _).mono ?_
        rintro e w1 ⟨rfl, rfl⟩
        rw [HV1.out]
        go_wp2_with fail
        refine (l6In_any _ _ _ _).mono ?_
        rintro e w1 ⟨rfl, rfl⟩
        rw [HV2.out]
        go_wp2_with fail
        go_ret
        exact ⟨ret_bool (HF.out (by have := inB_not.1 HV2.out; rw [← Bool.not_eq_true, HI.out]; omega)).symm, ⟨q, rfl⟩⟩
      have v2 := inB_iff.1 hv2
      have HV2 := Lib.hid hv2; clear hv2
      go_wp2_with fail
      refine (l6In_any _ _ _ _).mono ?_
      rintro e w1 ⟨rfl, rfl⟩
      rw [HV1.out]
      go_wp2_with fail
      refine (l6In_any _ _ _ _).mono ?_
      rintro e w1 ⟨rfl, rfl⟩
      rw [HV2.out]
      go_wp2_with fail
      by_cases h0 : k = 0
      · have i0 : ¬ (0 : Int) < (k : Int) := by omega
        go_quiet (fail)
        go_wp2_with fail
        go_roundw
        case rel =>
          refine ⟨k + 1, by omega, by go_num, fun j hj => ?_, ⟨_, by first | exact World.drewN_drewN _ _ _ | rfl⟩⟩
          obtain rfl : j = k := by omega
          exact HI.out.2 ⟨by omega, .inl h0⟩
        case measure => simp [intOf]; omega
      · obtain ⟨j, rfl⟩ : ∃ j, k = j + 1 := ⟨k - 1, by omega⟩
        obtain ⟨b', off', e', hb', h1', h2''⟩ := HR.out.mark (show j < n by omega)
        cases e'
        simp only [Nat.add_sub_cancel] at HI
        generalize hx' : gp ms j = x' at *
        generalize hy' : gn ms j = y' at *
        have i1 : IntKind.i64.wrap (((j + 1 : Nat) : Int) - 1) = (j : Int) := (IntWalk.i64_in _ (by omega)).trans (by omega)
        have i2 : (0 : Int) < ((j + 1 : Nat) : Int) := by omega
        have i3 : (0 : Int) ≤ (j : Int) := by omega
        have i4 : (j : Int) < (n : Int) := by omega
        have i5 : ((j + 1 : Nat) : Int) < (n : Int) := by omega
        have i6 : (0 : Int) ≤ ((j + 1 : Nat) : Int) := by omega
        by_cases d1 : x ≤ x'
        · go_quiet (fail)
          go_wp2_with fail
          go_ret
          exact ⟨ret_bool (HF.out (by rw [← Bool.not_eq_true, HI.out]; omega)).symm, ⟨_, by first | exact World.drewN_drewN _ _ _ | rfl⟩⟩
        by_cases d2 : y ≤ y'
        · go_quiet (fail)
          go_wp2_with fail
          go_ret
          exact ⟨ret_bool (HF.out (by rw [← Bool.not_eq_true, HI.out]; omega)).symm, ⟨_, by first | exact World.drewN_drewN _ _ _ | rfl⟩⟩
        go_quiet (fail)
        go_wp2_with fail
        go_roundw
        case rel =>
          refine ⟨j + 1 + 1, by omega, by go_num, fun i hi => ?_, ⟨_, by first | exact World.drewN_drewN _ _ _ | rfl⟩⟩
          rcases Nat.lt_or_ge i (j + 1) with h | h
          · exact HOK.out i h
          · obtain rfl : i = j + 1 := by omega
            exact HI.out.2 ⟨by omega, .inr (by omega)⟩
        case measure => simp [intOf]; omega
    · go_wp2_with fail
      go_ret
      exact ⟨ret_bool (mvB_iff.2 ⟨by rw [HT.out]; omega, fun j hj => HOK.out j (by rw [HT.out] at hj; omega)⟩).symm, ⟨q, rfl⟩⟩
theorem specMarksValid_any (A : Option Addr) (n c : Nat) (ms : List T2) (w : World) (hn : n ≤ 1048576) (hts : ms.length = n) (hr : Reads w w.heap.size 2 A n (tcells ms)) :
    Calls Try.prog 28 #[.slice A n c] w fun e w' => e = .returned (.bool (mvB ms)) ∧ Below w.heap.size w w' :=
  (specMarksValid_quiet A n c ms w hn hts hr).mono fun _ _ ⟨he, q, hq⟩ => ⟨he, by rw [hq]; exact below_drewN (Below.refl _ _) q⟩
end Go.Proofs.Ytogbjneldipnpaa
