/- MarkPos of both. -/
import Derived.Test.YtogbjneldipnpaaMk4
namespace Go.Proofs.Ytogbjneldipnpaa
open Go.RowKit
attribute [local go_sem ↓] Go.wp_at_zero Go.wp_at_succ

/-- What MarkPos says. -/
noncomputable def mpV (ms : List T2) (y : Int) : Value :=
  if (mvB ms && inB y (gn ms 0) (gn ms (ms.length - 1))) = true then .tuple #[.int .i64 (posF ms y), .bool true] else .tuple #[.int .i64 0, .bool false]
theorem mpV_yes {ms : List T2} {y : Int} (h : mvB ms = true) (h' : inB y (gn ms 0) (gn ms (ms.length - 1)) = true) : mpV ms y = .tuple #[.int .i64 (posF ms y), .bool true] := by simp [mpV, h, h']
theorem mpV_no1 {ms : List T2} {y : Int} (h : mvB ms = false) : mpV ms y = .tuple #[.int .i64 0, .bool false] := by simp [mpV, h]
theorem mpV_no2 {ms : List T2} {y : Int} (h' : inB y (gn ms 0) (gn ms (ms.length - 1)) = false) : mpV ms y = .tuple #[.int .i64 0, .bool false] := by simp [mpV, h']

set_option maxHeartbeats 2000000 in
theorem specMarkPos_any (A : Option Addr) (n c : Nat) (ms : List T2) (y : Int) (w : World) (hn : n ≤ 1048576) (hts : ms.length = n) (hr : Reads w w.heap.size 2 A n (tcells ms)) :
    Calls Try.prog 21 #[.slice A n c, .int .i64 y] w fun e w' => e = .returned (mpV ms y) ∧ Below w.heap.size w w' := by
  have HMV := Lib.hid (fun q => specMarksValid_quiet A n c ms (w.drewN q) hn hts hr)
  have HT := Lib.hid hts
  have HB0 := Lib.hid (Below.refl w.heap.size w)
  cases hv : mvB ms
  · obtain ⟨V, hV⟩ : ∃ V, mpV ms y = V := ⟨_, rfl⟩
    rw [hV]
    have HVV := Lib.hid (hV.symm.trans (mpV_no1 hv)); clear hV
    rw [hv] at HMV; clear hv
    clear hr hts
    go_enter Try.func21, Try.ntmps21
    go_wp2_with fail
    go_quiet (first | (go_at_call 28; exact Calls.quiet_of (HMV.out _)))
    go_wp2_with fail
    go_ret2
    exact ⟨ret_val HVV.out.symm, below_drewN HB0.out _⟩
  have hnn := (mvB_iff.1 hv).1
  rw [hts] at hnn
  have HNP := Lib.hid (fun W x (hB : Below w.heap.size w W) h0 h1 => l35Number_any A n c ms x W hts ((hr.below hB).more hB.size) hv h0 h1)
  have HY := Lib.hid (fun h' => mpV_yes (y := y) hv h')
  have HNO := Lib.hid (fun h' => mpV_no2 (ms := ms) (y := y) h')
  obtain ⟨V, hV⟩ : ∃ V, mpV ms y = V := ⟨_, rfl⟩
  rw [hV] at HY HNO ⊢
  rw [hts] at HY HNO
  clear hV
  have hm := mvB_rises hv
  have HLE := Lib.hid (fun h => posF_least hm (by omega) (y := y) h)
  have HMO := Lib.hid (fun (u v : Int) (h0 : gp ms 0 ≤ u) (h : u ≤ v) => numF_mono hm (by omega) h0 h)
  rw [hts] at HLE
  have hbd0 := mvB_bd hv (k := 0) (by omega)
  have hbdm := mvB_bd hv (k := n - 1) (by omega)
  rw [hv] at HMV; clear hv
  obtain ⟨m, rfl⟩ : ∃ m, n = m + 1 := ⟨n - 1, by omega⟩
  simp only [Nat.add_sub_cancel] at HY HNO HNP HLE hbdm
  obtain ⟨b, off, rfl, hb, r1, r2⟩ := hr.mark (show m < m + 1 by omega)
  obtain ⟨b', off', e', hb', s1, s2⟩ := hr.mark (show 0 < m + 1 by omega)
  cases e'
  have HR := Lib.hid (fun W (hB : Below w.heap.size w W) => (hr.below hB).more hB.size); clear hr
  have i1 : IntKind.i64.wrap (((m + 1 : Nat) : Int) - 1) = (m : Int) := (IntWalk.i64_in _ (by omega)).trans (by omega)
  have i2 : (0 : Int) ≤ (m : Int) := by omega
  have i3 : (m : Int) < ((m + 1 : Nat) : Int) := by omega
  have i4 : (0 : Int) < ((m + 1 : Nat) : Int) := by omega
  simp only [Nat.zero_mul, Nat.add_zero] at s1 s2
  have HLD : Hid (∀ v, Least ms y v → (gp ms 0 ≤ v ∧ v ≤ gp ms m) ∧ y ≤ numF ms v ∧ ∀ z, gp ms 0 ≤ z → z < v → numF ms z < y) := fun v h => by
    have h2 : Least ms y v := h
    unfold Least at h2
    rw [hts] at h2
    exact h2
  clear hts
  generalize hg0 : gp ms 0 = p0 at *
  generalize hgm : gp ms m = pm at *
  generalize hgn0 : gn ms 0 = n0 at *
  generalize hgnm : gn ms m = nm at *
  clear hg0 hgm hgn0 hgnm
  cases hx : inB y n0 nm
  · have HIN := Lib.hid (fun q => (l6In_any y n0 nm (w.drewN q)).mono (R' := fun e w' => e = .returned (.bool false) ∧ w' = w.drewN q) fun _ _ ⟨he, hw⟩ => ⟨by rw [he, hx], hw.symm⟩)
    have HX := Lib.hid hx; clear hx
    go_enter Try.func21, Try.ntmps21
    go_wp2_with fail
    go_quiet (first | (go_at_call 28; exact Calls.quiet_of (HMV.out _)) | (go_at_call 29; exact Calls.quiet_of_same (HIN.out _)))
    go_wp2_with fail
    go_ret2
    exact ⟨ret_val (HNO.out HX.out).symm, below_drewN HB0.out _⟩
  · have hxx := inB_iff.1 hx
    have HIN := Lib.hid (fun q => (l6In_any y n0 nm (w.drewN q)).mono (R' := fun e w' => e = .returned (.bool true) ∧ w' = w.drewN q) fun _ _ ⟨he, hw⟩ => ⟨by rw [he, hx], hw.symm⟩)
    have HX := Lib.hid hx; clear hx
    replace HY := Lib.hid (HY.out HX.out)
    have hle := HLD.out _ (HLE.out hxx.2)
    clear HLE HNO HLD
    generalize posF ms y = v at *
    obtain ⟨hv1, hv2, hv3⟩ := hle
    have HV2 := Lib.hid hv2; clear hv2
    have HV3 := Lib.hid hv3; clear hv3
    go_enter Try.func21, Try.ntmps21
    go_wp2_with fail
    go_quiet (first | (go_at_call 28; exact Calls.quiet_of (HMV.out _)) | (go_at_call 29; exact Calls.quiet_of_same (HIN.out _)))
    have HB1 := Lib.hid (below_drewN HB0.out nq)
    go_wp2_with fail
    go_loopw [6, 7] (fun a b wr => ∃ (lo hi : Int), a = .int .i64 lo ∧ b = .int .i64 hi ∧ p0 ≤ lo ∧ lo ≤ v ∧ v ≤ hi ∧ hi ≤ pm ∧ Below w.heap.size w wr) (fun a b _ => (intOf b - intOf a).toNat)
    case atStart => exact ⟨p0, pm, rfl, rfl, Int.le_refl _, hv1.1, hv1.2, Int.le_refl _, HB1.out⟩
    case round =>
      clear HB1
      obtain ⟨lo, hi, rfl, rfl, h1, h2, h3, h4, hB⟩ := hrel
      have HB := Lib.hid hB; clear hB
      by_cases hlt : lo < hi
      · have HN := Lib.hid (HNP.out wr ((lo + hi) / 2) HB.out (by omega) (by omega))
        have hgo : decide (y ≤ numF ms ((lo + hi) / 2)) = decide (v ≤ (lo + hi) / 2) := by
          apply decide_eq_decide.2
          constructor
          · intro h5
            rcases Int.lt_or_le ((lo + hi) / 2) v with h6 | h6
            · have := HV3.out _ (by omega) h6; omega
            · exact h6
          · intro h5
            have := HMO.out v ((lo + hi) / 2) (by omega) h5
            have := HV2.out
            omega
        generalize numF ms ((lo + hi) / 2) = N at *
        by_cases hc : v ≤ (lo + hi) / 2
        · rw [decide_eq_true hc] at hgo
          go_wp2_with (go_at_call 30; refine HN.out.mono ?_; rintro e w2 ⟨rfl, hb2⟩)
          have HB2 := Lib.hid (HB.out.trans (hb2.mono HB.out.size)); clear hb2
          go_roundw
          case rel => exact ⟨lo, (lo + hi) / 2, rfl, rfl, h1, h2, hc, by omega, HB2.out⟩
          case measure => simp [intOf]; omega
        · rw [decide_eq_false hc] at hgo
          go_wp2_with (go_at_call 30; refine HN.out.mono ?_; rintro e w2 ⟨rfl, hb2⟩)
          have HB2 := Lib.hid (HB.out.trans (hb2.mono HB.out.size)); clear hb2
          go_roundw
          case rel => exact ⟨(lo + hi) / 2 + 1, hi, rfl, rfl, by omega, by omega, h3, h4, HB2.out⟩
          case measure => simp [intOf]; omega
      · obtain rfl : lo = v := by omega
        obtain rfl : hi = lo := by omega
        go_wp2_with fail
        go_ret2
        exact ⟨ret_val HY.out.symm, HB.out⟩
end Go.Proofs.Ytogbjneldipnpaa
