/- The walks of laws over marks. -/
import Derived.Test.YtogbjneldipnpaaMkD2
import Derived.Test.YtogbjneldipnpaaMk6
import Derived.Test.YtogbjneldipnpaaLawKit
namespace Go.Proofs.Ytogbjneldipnpaa
open Go.RowKit
attribute [local go_sem ↓] Go.wp_at_zero Go.wp_at_succ

set_option maxHeartbeats 2000000 in
theorem fnMarkPosRises_walk (A : Option Addr) (n c : Nat) (w : World) (hn : n ≤ maxLen) (hc : n ≤ c) (hb : Bytes w w.heap.size A n) :
    Calls Try.prog 10 #[.slice A n c] w fun e w' => e = .returned (.bool true) ∧ Below w.heap.size w w' := by
  unfold maxLen at hn
  have HB := Lib.hid hb; clear hb
  by_cases hbig : 1048576 < n
  · have hB0 := Below.refl w.heap.size w
    go_enter Try.func10, Try.ntmps10
    go_wp2_with fail
    go_ret
    exact ⟨rfl, hB0⟩
  go_enter Try.func10, Try.ntmps10
  go_wp2_with fail
  refine (DrawMarkPos_any A n c w (by omega) hc HB.out).mono ?_
  rintro e w1 ⟨A1, c1, m, ms, x, rfl, hL, hxx, hb1⟩
  obtain ⟨b, off, rfl⟩ := hL.form
  have hm1 : 1 ≤ m ∧ m ≤ 5 := ⟨hL.2.2.1, hL.2.2.2.1⟩
  have hml := hL.2.1
  have hmc := hL.1
  have hRd := hL.2.2.2.2.2.1
  have HB1 := Lib.hid hb1; have HR1 := Lib.hid hRd; clear hb1 hRd hL hbig
  go_wp2_with fail
  refine (implMarkPos_any _ m c1 ms x w1 (by omega) hml HR1.out).mono ?_
  rintro e w2 ⟨rfl, hb2⟩
  have HR2 := Lib.hid ((HR1.out.below hb2).more hb2.size)
  have HB2 := Lib.hid (HB1.out.trans (hb2.mono HB1.out.size)); clear hb2 HR1 HB1
  cases hok : mvB ms && inB x (gn ms 0) (gn ms (ms.length - 1))
  · have hV : mpV ms x = .tuple #[.int .i64 0, .bool false] := by simp only [mpV, hok]; rfl
    have HV := Lib.hid hV; clear hV hok
    rw [HV.out]
    go_wp2_with fail
    refine (specMarkPos_any _ m c1 ms x w2 (by omega) hml HR2.out).mono ?_
    rintro e w3 ⟨rfl, hb3⟩
    rw [HV.out]
    have HB3 := Lib.hid (HB2.out.trans (hb3.mono HB2.out.size)); clear hb3 HR2 HB2
    go_wp2_with fail
    go_ret
    exact ⟨rfl, HB3.out⟩
  simp only [Bool.and_eq_true] at hok
  obtain ⟨hv, hx⟩ := hok
  have hx' := inB_iff.1 hx
  have HV := Lib.hid (mpV_yes hv hx)
  rw [hml] at hx'
  clear hx
  have hm := mvB_rises hv
  have hm2 := (mvB_iff.1 hv).1
  rw [hml] at hm2
  rw [HV.out]
  obtain ⟨N, hN⟩ : ∃ N, posF ms x = N := ⟨_, rfl⟩
  rw [hN] at HV ⊢
  have HM := Lib.hid hm; have HVV := Lib.hid hv; have HN := Lib.hid hN; have HML := Lib.hid hml
  clear hm hv hN hml
  go_wp2_with fail
  refine (specMarkPos_any _ m c1 ms x w2 (by omega) HML.out HR2.out).mono ?_
  rintro e w3 ⟨rfl, hb3⟩
  rw [HV.out]
  have HR3 := Lib.hid ((HR2.out.below hb3).more hb3.size)
  have HB3 := Lib.hid (HB2.out.trans (hb3.mono HB2.out.size)); clear hb3 HR2 HB2
  have hle := posF_least HM.out (by rw [HML.out]; omega) (y := x) (by rw [HML.out]; exact hx'.2)
  rw [HN.out] at hle
  obtain ⟨hl1, hl2, hl3⟩ := hle
  rw [HML.out] at hl1
  obtain ⟨m, rfl⟩ : ∃ j, m = j + 1 := ⟨m - 1, by omega⟩
  simp only [Nat.add_sub_cancel] at hx' hl1
  have i1 : IntKind.i64.wrap (((m + 1 : Nat) : Int) - 1) = (m : Int) := (IntWalk.i64_in _ (by omega)).trans (by omega)
  have HC := Lib.hid (implMarkPos_any _ (m + 1) c1 ms (x + 1) w3 (by omega) HML.out HR3.out)
  obtain ⟨b', off', e', hb', s1, s2⟩ := HR3.out.mark (show m < m + 1 by omega)
  cases e'
  obtain ⟨b', off', e', hb', r1, r2⟩ := HR3.out.mark (show 0 < m + 1 by omega)
  cases e'
  simp only [Nat.zero_mul, Nat.add_zero] at r1 r2
  have HL2 := Lib.hid hl2; have HL3 := Lib.hid hl3; clear hl2 hl3
  by_cases hl : x = gn ms m
  · have hV2 : mpV ms (x + 1) = .tuple #[.int .i64 0, .bool false] := mpV_no2 (inB_not.2 (.inr (by rw [HML.out]; simp only [Nat.add_sub_cancel]; omega)))
    rw [hV2] at HC
    clear hV2 HL2 HL3 r1 r2 s1
    generalize gn ms m = pm at *
    have d1 : (x == pm) = true := by simpa using hl
    clear hl hl1
    go_wp2_with fail
    refine HC.out.mono ?_
    rintro e w4 ⟨rfl, hb4⟩
    have HB4 := Lib.hid (HB3.out.trans (hb4.mono HB3.out.size))
    replace s2 := (hb4.cell (p := ⟨b, off + m * 2 + 1, none⟩) hb').trans s2
    clear hb4 HC
    go_wp2_with fail
    go_ret
    exact ⟨rfl, HB4.out⟩
  · have hV2 := mpV_yes (y := x + 1) HVV.out (inB_iff.2 ⟨by omega, by rw [HML.out]; simp only [Nat.add_sub_cancel]; omega⟩)
    have hle2 := posF_least HM.out (by rw [HML.out]; omega) (y := x + 1) (by rw [HML.out]; simp only [Nat.add_sub_cancel]; omega)
    obtain ⟨hk1, hk2, hk3⟩ := hle2
    rw [HML.out] at hk1
    simp only [Nat.add_sub_cancel] at hk1
    have hmo : N ≤ posF ms (x + 1) := by
      rcases Int.lt_or_le (posF ms (x + 1)) N with h | h
      · have := HL3.out _ hk1.1 h; omega
      · exact h
    rw [hV2] at HC
    clear hV2 hk2 hk3 HL2 HL3 r2 s2
    obtain ⟨b', off', e', _, s3, s2⟩ := HR3.out.mark (show m < m + 1 by omega)
    cases e'
    clear s3
    generalize posF ms (x + 1) = N2 at *
    generalize gn ms m = pm at *
    generalize gp ms m = qm at *
    generalize gp ms 0 = q0 at *
    have d1 : (x == pm) = false := by simpa using hl
    have d2 : decide (N ≤ N2) = true := by simpa using hmo
    have d3 : decide (q0 ≤ N) = true := by simpa using hl1.1
    have d4 : decide (N2 ≤ qm) = true := by simpa using hk1.2
    clear hl
    go_wp2_with fail
    refine HC.out.mono ?_
    rintro e w4 ⟨rfl, hb4⟩
    have HB4 := Lib.hid (HB3.out.trans (hb4.mono HB3.out.size))
    replace s1 := (hb4.cell (p := ⟨b, off + m * 2, none⟩) hb').trans s1
    replace s2 := (hb4.cell (p := ⟨b, off + m * 2 + 1, none⟩) hb').trans s2
    replace r1 := (hb4.cell (p := ⟨b, off, none⟩) hb').trans r1
    clear hb4 HC
    go_wp2_with fail
    go_ret
    exact ⟨rfl, HB4.out⟩
end Go.Proofs.Ytogbjneldipnpaa
