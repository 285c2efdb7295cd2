/- The walks of laws over marks. -/
import Derived.Test.YtogbjneldipnpaaMkD2
import Derived.Test.YtogbjneldipnpaaMk4
import Derived.Test.YtogbjneldipnpaaLawKit
namespace Go.Proofs.Ytogbjneldipnpaa
open Go.RowKit
attribute [local go_sem ↓] Go.wp_at_zero Go.wp_at_succ

set_option maxHeartbeats 2000000 in
theorem fnMarkRises_walk (A : Option Addr) (n c : Nat) (w : World) (hn : n ≤ maxLen) (hc : n ≤ c) (hb : Bytes w w.heap.size A n) :
    Calls Try.prog 7 #[.slice A n c] w fun e w' => e = .returned (.bool true) ∧ Below w.heap.size w w' := by
  unfold maxLen at hn
  have HB := Lib.hid hb; clear hb
  by_cases hbig : 1048576 < n
  · have hB0 := Below.refl w.heap.size w
    go_enter Try.func7, Try.ntmps7
    go_wp2_with fail
    go_ret
    exact ⟨rfl, hB0⟩
  go_enter Try.func7, Try.ntmps7
  go_wp2_with fail
  refine (DrawMarkNumber_any A n c w (by omega) hc HB.out).mono ?_
  rintro e w1 ⟨A1, c1, m, ms, x, rfl, hL, hxx, hb1⟩
  obtain ⟨b, off, rfl⟩ := hL.form
  have hm1 : 1 ≤ m ∧ m ≤ 5 := ⟨hL.2.2.1, hL.2.2.2.1⟩
  have hml := hL.2.1
  have hRd := hL.2.2.2.2.2.1
  have HB1 := Lib.hid hb1; have HR1 := Lib.hid hRd; clear hb1 hRd hL hbig
  go_wp2_with fail
  refine (implMarkNumber_any _ m c1 ms x w1 (by omega) hml HR1.out).mono ?_
  rintro e w2 ⟨rfl, hb2⟩
  have HR2 := Lib.hid ((HR1.out.below hb2).more hb2.size)
  have HB2 := Lib.hid (HB1.out.trans (hb2.mono HB1.out.size)); clear hb2 HR1 HB1
  cases hok : mvB ms && inB x (gp ms 0) (gp ms (ms.length - 1))
  · have hV : mnV ms x = .tuple #[.int .i64 0, .bool false] := by simp only [mnV, hok]; rfl
    have HV := Lib.hid hV; clear hV hok
    rw [HV.out]
    go_wp2_with fail
    refine (specMarkNumber_any _ m c1 ms x w2 (by omega) hml HR2.out).mono ?_
    rintro e w3 ⟨rfl, hb3⟩
    rw [HV.out]
    have HB3 := Lib.hid (HB2.out.trans (hb3.mono HB2.out.size)); clear hb3 HR2 HB2
    go_wp2_with fail
    go_ret
    exact ⟨rfl, HB3.out⟩
  simp only [Bool.and_eq_true] at hok
  obtain ⟨hv, hx⟩ := hok
  have hx' := inB_iff.1 hx
  have HV := Lib.hid (mnV_yes hv hx)
  rw [hml] at hx'
  clear hx
  have hm := mvB_rises hv
  have hm2 := (mvB_iff.1 hv).1
  rw [hml] at hm2
  rw [HV.out]
  obtain ⟨N, hN⟩ : ∃ N, numF ms x = N := ⟨_, rfl⟩
  rw [hN] at HV ⊢
  have HM := Lib.hid hm; have HVV := Lib.hid hv; have HN := Lib.hid hN; have HML := Lib.hid hml
  clear hm hv hN hml
  go_wp2_with fail
  refine (specMarkNumber_any _ m c1 ms x w2 (by omega) HML.out HR2.out).mono ?_
  rintro e w3 ⟨rfl, hb3⟩
  rw [HV.out]
  have HR3 := Lib.hid ((HR2.out.below hb3).more hb3.size)
  have HB3 := Lib.hid (HB2.out.trans (hb3.mono HB2.out.size)); clear hb3 HR2 HB2
  obtain ⟨m, rfl⟩ : ∃ j, m = j + 1 := ⟨m - 1, by omega⟩
  simp only [Nat.add_sub_cancel] at hx'
  have i1 : IntKind.i64.wrap (((m + 1 : Nat) : Int) - 1) = (m : Int) := (IntWalk.i64_in _ (by omega)).trans (by omega)
  have HC := Lib.hid (implMarkNumber_any _ (m + 1) c1 ms (x + 1) w3 (by omega) HML.out HR3.out)
  obtain ⟨b', off', e', hb', s1, s2⟩ := HR3.out.mark (show m < m + 1 by omega)
  cases e'
  clear s2
  by_cases hl : x = gp ms m
  · have hV2 : mnV ms (x + 1) = .tuple #[.int .i64 0, .bool false] := mnV_no2 (inB_not.2 (.inr (by rw [HML.out]; simp only [Nat.add_sub_cancel]; omega)))
    rw [hV2] at HC
    clear hV2
    generalize gp ms m = pm at *
    have d1 : (x == pm) = true := by simpa using hl
    clear hl
    go_wp2_with fail
    refine HC.out.mono ?_
    rintro e w4 ⟨rfl, hb4⟩
    have HB4 := Lib.hid (HB3.out.trans (hb4.mono HB3.out.size))
    replace s1 := (hb4.cell (p := ⟨b, off + m * 2, none⟩) hb').trans s1
    clear hb4 HC
    go_wp2_with fail
    go_ret
    exact ⟨rfl, HB4.out⟩
  · have hV2 := mnV_yes (x := x + 1) HVV.out (inB_iff.2 ⟨by omega, by rw [HML.out]; simp only [Nat.add_sub_cancel]; omega⟩)
    have hmo := numF_mono HM.out (by rw [HML.out]; omega) hx'.1 (show x ≤ x + 1 by omega)
    rw [HN.out] at hmo
    rw [hV2] at HC
    clear hV2
    generalize numF ms (x + 1) = N2 at *
    generalize gp ms m = pm at *
    have d1 : (x == pm) = false := by simpa using hl
    have d2 : decide (N ≤ N2) = true := by simpa using hmo
    clear hl
    go_wp2_with fail
    refine HC.out.mono ?_
    rintro e w4 ⟨rfl, hb4⟩
    have HB4 := Lib.hid (HB3.out.trans (hb4.mono HB3.out.size))
    replace s1 := (hb4.cell (p := ⟨b, off + m * 2, none⟩) hb').trans s1
    clear hb4 HC
    go_wp2_with fail
    go_ret
    exact ⟨rfl, HB4.out⟩
end Go.Proofs.Ytogbjneldipnpaa
