/- The walks of laws over marks. -/
import Derived.Test.YtogbjneldipnpaaMkD2
import Derived.Test.YtogbjneldipnpaaMk6
import Derived.Test.YtogbjneldipnpaaLawKit
namespace Go.Proofs.Ytogbjneldipnpaa
open Go.RowKit
attribute [local go_sem ↓] Go.wp_at_zero Go.wp_at_succ

set_option maxHeartbeats 2000000 in
theorem fnMarkPos_walk (A : Option Addr) (n c : Nat) (w : World) (hn : n ≤ maxLen) (hc : n ≤ c) (hb : Bytes w w.heap.size A n) :
    Calls Try.prog 12 #[.slice A n c] w fun e w' => e = .returned (.bool true) ∧ Below w.heap.size w w' := by
  unfold maxLen at hn
  have HB := Lib.hid hb; clear hb
  by_cases hbig : 1048576 < n
  · have hB0 := Below.refl w.heap.size w
    go_enter Try.func12, Try.ntmps12
    go_wp2_with fail
    go_ret
    exact ⟨rfl, hB0⟩
  go_enter Try.func12, Try.ntmps12
  go_wp2_with fail
  refine (DrawMarkPos_any A n c w (by omega) hc HB.out).mono ?_
  rintro e w1 ⟨A1, c1, m, ms, x, rfl, hL, hxx, hb1⟩
  obtain ⟨b, off, rfl⟩ := hL.form
  have hm1 : 1 ≤ m ∧ m ≤ 5 := ⟨hL.2.2.1, hL.2.2.2.1⟩
  have hml := hL.2.1
  have hmc := hL.1
  have hRd := hL.2.2.2.2.2.1
  have HB1 := Lib.hid hb1; have HR1 := Lib.hid hRd; clear hb1 hRd hL hbig
  go_wp2_with fail
  refine (implMarkPos_any _ m c1 ms x w1 (by omega) hml HR1.out).mono ?_
  rintro e w2 ⟨rfl, hb2⟩
  have HR2 := Lib.hid ((HR1.out.below hb2).more hb2.size)
  have HB2 := Lib.hid (HB1.out.trans (hb2.mono HB1.out.size)); clear hb2 HR1 HB1
  cases hok : mvB ms && inB x (gn ms 0) (gn ms (ms.length - 1))
  · have hV : mpV ms x = .tuple #[.int .i64 0, .bool false] := by simp only [mpV, hok]; rfl
    have HV := Lib.hid hV; clear hV hok
    rw [HV.out]
    go_wp2_with fail
    refine (specMarkPos_any _ m c1 ms x w2 (by omega) hml HR2.out).mono ?_
    rintro e w3 ⟨rfl, hb3⟩
    rw [HV.out]
    have HB3 := Lib.hid (HB2.out.trans (hb3.mono HB2.out.size)); clear hb3 HR2 HB2
    go_wp2_with fail
    go_ret
    exact ⟨rfl, HB3.out⟩
  simp only [Bool.and_eq_true] at hok
  obtain ⟨hv, hx⟩ := hok
  have hx' := inB_iff.1 hx
  have HV := Lib.hid (mpV_yes hv hx)
  rw [hml] at hx'
  clear hx
  have hm := mvB_rises hv
  have hm2 := (mvB_iff.1 hv).1
  rw [hml] at hm2
  rw [HV.out]
  obtain ⟨N, hN⟩ : ∃ N, posF ms x = N := ⟨_, rfl⟩
  rw [hN] at HV ⊢
  have HM := Lib.hid hm; have HVV := Lib.hid hv; have HN := Lib.hid hN; have HML := Lib.hid hml
  clear hm hv hN hml
  go_wp2_with fail
  refine (specMarkPos_any _ m c1 ms x w2 (by omega) HML.out HR2.out).mono ?_
  rintro e w3 ⟨rfl, hb3⟩
  rw [HV.out]
  have HR3 := Lib.hid ((HR2.out.below hb3).more hb3.size)
  have HB3 := Lib.hid (HB2.out.trans (hb3.mono HB2.out.size)); clear hb3 HR2 HB2
  have hle := posF_least HM.out (by rw [HML.out]; omega) (y := x) (by rw [HML.out]; exact hx'.2)
  rw [HN.out] at hle
  obtain ⟨hl1, hl2, hl3⟩ := hle
  rw [HML.out] at hl1
  have HC1 := Lib.hid (implMarkNumber_any _ m c1 ms N w3 (by omega) HML.out HR3.out)
  have HC2 := Lib.hid (fun W (hR : Reads W W.heap.size 2 (some ⟨b, off, none⟩) m (tcells ms)) => implMarkNumber_any _ m c1 ms (N - 1) W (by omega) HML.out hR)
  rw [mnV_yes HVV.out (inB_iff.2 (by rw [HML.out]; exact hl1))] at HC1
  have hbp := mvB_bd HVV.out (k := m - 1) (by rw [HML.out]; omega)
  have hbp0 := mvB_bd HVV.out (k := 0) (by rw [HML.out]; omega)
  have HL3 := Lib.hid hl3; clear hl3
  obtain ⟨b', off', e', hb', s1, s2⟩ := HR3.out.mark (show 0 < m by omega)
  cases e'
  simp only [Nat.zero_mul, Nat.add_zero] at s1 s2
  clear s2
  by_cases hq : N = gp ms 0
  · have hV2 : mnV ms (N - 1) = .tuple #[.int .i64 0, .bool false] := mnV_no2 (inB_not.2 (.inl (by omega)))
    rw [hV2] at HC2
    clear hV2 HL3
    have d2 : decide (x ≤ numF ms N) = true := by simpa using hl2
    generalize numF ms N = N1 at *
    generalize gp ms (m - 1) = pm at *
    generalize gp ms 0 = p0 at *
    have d1 : (N == p0) = true := by simpa using hq
    clear hq
    go_wp2_with fail
    refine HC1.out.mono ?_
    rintro e w4 ⟨rfl, hb4⟩
    have HR4 := Lib.hid ((HR3.out.below hb4).more hb4.size)
    have HB4 := Lib.hid (HB3.out.trans (hb4.mono HB3.out.size))
    replace s1 := (hb4.cell (p := ⟨b, off, none⟩) hb').trans s1
    replace hb' := Nat.lt_of_lt_of_le hb' hb4.size
    clear hb4 HC1
    go_wp2_with fail
    refine (HC2.out _ HR4.out).mono ?_
    rintro e w5 ⟨rfl, hb5⟩
    have HB5 := Lib.hid (HB4.out.trans (hb5.mono HB4.out.size))
    replace s1 := (hb5.cell (p := ⟨b, off, none⟩) hb').trans s1
    clear hb5 HC2
    go_wp2_with fail
    go_ret
    exact ⟨rfl, HB5.out⟩
  · have hV2 := mnV_yes (x := N - 1) HVV.out (inB_iff.2 (by rw [HML.out]; omega))
    rw [hV2] at HC2
    have hlt := HL3.out (N - 1) (by omega) (by omega)
    clear hV2 HL3
    have d2 : decide (x ≤ numF ms N) = true := by simpa using hl2
    have d3 : decide (numF ms (N - 1) < x) = true := by simpa using hlt
    generalize numF ms N = N1 at *
    generalize numF ms (N - 1) = N2 at *
    generalize gp ms (m - 1) = pm at *
    generalize gp ms 0 = p0 at *
    have d1 : (N == p0) = false := by simpa using hq
    clear hq
    go_wp2_with fail
    refine HC1.out.mono ?_
    rintro e w4 ⟨rfl, hb4⟩
    have HR4 := Lib.hid ((HR3.out.below hb4).more hb4.size)
    have HB4 := Lib.hid (HB3.out.trans (hb4.mono HB3.out.size))
    replace s1 := (hb4.cell (p := ⟨b, off, none⟩) hb').trans s1
    replace hb' := Nat.lt_of_lt_of_le hb' hb4.size
    clear hb4 HC1
    go_wp2_with fail
    refine (HC2.out _ HR4.out).mono ?_
    rintro e w5 ⟨rfl, hb5⟩
    have HB5 := Lib.hid (HB4.out.trans (hb5.mono HB4.out.size))
    replace s1 := (hb5.cell (p := ⟨b, off, none⟩) hb').trans s1
    clear hb5 HC2
    go_wp2_with fail
    go_ret
    exact ⟨rfl, HB5.out⟩
end Go.Proofs.Ytogbjneldipnpaa
