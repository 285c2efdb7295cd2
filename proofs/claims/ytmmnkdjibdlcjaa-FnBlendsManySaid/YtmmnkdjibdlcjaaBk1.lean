/- Blends: a clone, the reference's check. -/
import Derived.Test.YtmmnkdjibdlcjaaBkW
import Derived.Test.YtmmnkdjibdlcjaaBl2
namespace Go.Proofs.Ytmmnkdjibdlcjaa
open Go.RowKit
attribute [local go_sem ↓] Go.wp_at_zero Go.wp_at_succ

set_option maxHeartbeats 1000000 in
theorem clone_any (b off n c : Nat) (xs : List Int) (w : World) (hn : n ≤ 1000) (hr : Reads w w.heap.size 1 (some ⟨b, off, none⟩) n (icells xs)) :
    Calls Try.prog 26 #[.slice (some ⟨b, off, none⟩) n c] w fun e w' => ∃ A' c', e = .returned (.slice A' n c') ∧ n ≤ c' ∧ w'.ownsRow w.heap.size 3 1 (.slice A' n c') n (icells xs) ∧ Below w.heap.size w w' := by
  have HR := Lib.hid (hr.keep (w' := w.alloc (.cells #[] 3)) fun p hp => World.cell?_alloc_lt w _ p hp); clear hr
  have HB := Lib.hid ((Below.refl w.heap.size w).alloc (Nat.le_refl _) (.cells #[] 3))
  have q1 : ∀ (w : World) (a : Option Addr) (n c n' c' : Nat), (binOp .eql 23 (.slice a n c) (.slice none n' c')).run Try.prog w = .ok (.bool a.isNone) w := fun w a n c n' c' => Lib.run_eql_slice_nil w _ _ a n c n' c' Try.underlying23
  go_enter Try.func26, Try.ntmps26
  go_wp2_with (at_builtin; refine wpList_appR _ rfl (.tmp 5) (.tmp 6) _ rfl w.heap.size 3 1 8 elInt _ 0 0 [] rfl (own_empty w 3 1) w.heap.size (some ⟨b, off, none⟩) n c (icells xs) rfl HR.out (icells_one xs) n (Nat.zero_add n).symm (by omega) (by omega) (by simp) ?_)
  intro A' c' w1 hown hc hb _
  have HO := Lib.hid hown; clear hown
  have HB1 := Lib.hid (HB.out.trans hb); clear hb
  go_wp2_with fail
  go_ret
  exact ⟨A', c', rfl, hc, by simpa using HO.out, HB1.out⟩

set_option maxHeartbeats 2000000 in
theorem l37Valid_any (A : Option Addr) (n c : Nat) (xs : List Int) (w : World) (h8 : n ≤ 8) (hxs : xs.length = n) (hin : InB xs 3001) (hr : Reads w w.heap.size 1 A n (icells xs)) :
    Calls Try.prog 27 #[.slice A n c] w fun e w' => e = .returned (.bool (ascB xs)) ∧ Below w.heap.size w w' := by
  have HR := Lib.hid hr; clear hr
  have HT := Lib.hid hxs; clear hxs
  have HI := Lib.hid hin; clear hin
  go_enter Try.func27, Try.ntmps27
  go_wp2_with fail
  go_loopw [3] (fun i wr => ∃ k : Nat, k ≤ n ∧ i = .int .i64 k ∧ (∀ j, j + 1 < k → gi xs j < gi xs (j + 1)) ∧ Below w.heap.size w wr) (fun i _ => n - (intOf i).toNat)
  case atStart => exact ⟨0, Nat.zero_le _, rfl, fun j hj => absurd hj (by omega), Below.refl _ _⟩
  case round =>
    obtain ⟨k, hk, rfl, hasc, hB⟩ := hrel
    have HA := Lib.hid hasc; clear hasc
    have HB := Lib.hid hB; clear hB
    have HRW := Lib.hid (HR.out.below HB.out)
    by_cases hlt : k < n
    · obtain ⟨b, off, rfl, hb, h1⟩ := HRW.out.int hlt
      have hg := HI.out.at (k := k) (by rw [HT.out]; exact hlt)
      have i1 : (0 : Int) ≤ (k : Int) := by omega
      have i2 : (k : Int) < (n : Int) := by omega
      obtain ⟨x, hx⟩ : ∃ x, gi xs k = x := ⟨_, rfl⟩
      rw [hx] at h1 hg
      have hv1 : inB x 0 200000 = true := inB_iff.2 (by omega)
      have HV := Lib.hid (fun W => l6In_any x 0 200000 W)
      rw [hv1] at HV
      clear hv1
      by_cases h0 : k = 0
      · subst h0
        have HX := Lib.hid hx; clear hx
        have i3 : decide ((0 : Int) < ((0 : Nat) : Int)) = false := rfl
        simp only [Nat.add_zero] at h1
        go_wp2_with fail
        go_quiet ((go_at_call 28; exact Calls.quiet_of_same ((HV.out _).mono fun _ _ ⟨a, b⟩ => ⟨a, b.symm⟩)))
        go_wp2_with fail
        go_roundw
        case rel => exact ⟨1, by omega, rfl, fun j hj => absurd hj (by omega), below_drewN HB.out _⟩
        case measure => simp [intOf]; omega
      · obtain ⟨j, rfl⟩ : ∃ j, k = j + 1 := ⟨k - 1, by omega⟩
        obtain ⟨b', off', e', hb', h2⟩ := HRW.out.int (show j < n by omega)
        cases e'
        obtain ⟨y, hy⟩ : ∃ y, gi xs j = y := ⟨_, rfl⟩
        rw [hy] at h2
        have HXY := Lib.hid (And.intro hx hy); clear hx hy
        have i3 : (0 : Int) < ((j + 1 : Nat) : Int) := by omega
        have i4 : IntKind.i64.wrap (((j + 1 : Nat) : Int) - 1) = (j : Int) := (IntWalk.i64_in _ (by omega)).trans (by omega)
        have i5 : (0 : Int) ≤ (j : Int) := by omega
        have i6 : (j : Int) < (n : Int) := by omega
        by_cases hxy : x ≤ y
        · go_wp2_with fail
          go_quiet ((go_at_call 28; exact Calls.quiet_of_same ((HV.out _).mono fun _ _ ⟨a, b⟩ => ⟨a, b.symm⟩)))
          go_wp2_with fail
          go_ret
          refine ⟨ret_bool ?_, below_drewN HB.out _⟩
          symm
          rw [← Bool.not_eq_true, ascB_iff]
          intro h
          have := h j (by rw [HT.out]; omega)
          rw [HXY.out.1, HXY.out.2] at this
          omega
        · have d3 : decide (x ≤ y) = false := decide_eq_false hxy
          go_wp2_with fail
          go_quiet ((go_at_call 28; exact Calls.quiet_of_same ((HV.out _).mono fun _ _ ⟨a, b⟩ => ⟨a, b.symm⟩)))
          go_wp2_with fail
          go_roundw
          case rel =>
            refine ⟨j + 1 + 1, by omega, by go_num, fun i hi => ?_, below_drewN HB.out _⟩
            rcases Nat.lt_or_ge (i + 1) (j + 1) with h | h
            · exact HA.out i h
            · obtain rfl : i = j := by omega
              rw [HXY.out.1, HXY.out.2]; omega
          case measure => simp [intOf]; omega
    · obtain rfl : k = n := by omega
      go_wp2_with fail
      go_ret
      refine ⟨ret_bool ?_, HB.out⟩
      have e1 : ascB xs = true := ascB_iff.2 fun j hj => HA.out j (by rw [HT.out] at hj; exact hj)
      rw [e1]
      simp; omega
end Go.Proofs.Ytmmnkdjibdlcjaa
