/- The walks of laws over marks. -/
import Derived.Test.YtogbjneldipnpaaMkD2
import Derived.Test.YtogbjneldipnpaaMk4
import Derived.Test.YtogbjneldipnpaaLawKit
namespace Go.Proofs.Ytogbjneldipnpaa
open Go.RowKit
attribute [local go_sem ↓] Go.wp_at_zero Go.wp_at_succ

set_option maxHeartbeats 2000000 in
theorem fnMarkLine_walk (A : Option Addr) (n c : Nat) (w : World) (hn : n ≤ maxLen) (hc : n ≤ c) (hb : Bytes w w.heap.size A n) :
    Calls Try.prog 6 #[.slice A n c] w fun e w' => e = .returned (.bool true) ∧ Below w.heap.size w w' := by
  unfold maxLen at hn
  have HB := Lib.hid hb; clear hb
  by_cases hbig : 1048576 < n
  · have hB0 := Below.refl w.heap.size w
    go_enter Try.func6, Try.ntmps6
    go_wp2_with fail
    go_ret
    exact ⟨rfl, hB0⟩
  go_enter Try.func6, Try.ntmps6
  go_wp2_with fail
  refine (DrawMarkNumber_any A n c w (by omega) hc HB.out).mono ?_
  rintro e w1 ⟨A1, c1, m, ms, x, rfl, hL, hxx, hb1⟩
  obtain ⟨b, off, rfl⟩ := hL.form
  have hm1 : 1 ≤ m ∧ m ≤ 5 := ⟨hL.2.2.1, hL.2.2.2.1⟩
  have hml := hL.2.1
  have hRd := hL.2.2.2.2.2.1
  have HB1 := Lib.hid hb1; have HR1 := Lib.hid hRd; clear hb1 hRd hL hbig
  go_wp2_with fail
  refine (implMarkNumber_any _ m c1 ms x w1 (by omega) hml HR1.out).mono ?_
  rintro e w2 ⟨rfl, hb2⟩
  have HR2 := Lib.hid ((HR1.out.below hb2).more hb2.size)
  have HB2 := Lib.hid (HB1.out.trans (hb2.mono HB1.out.size)); clear hb2 HR1 HB1
  cases hok : mvB ms && inB x (gp ms 0) (gp ms (ms.length - 1))
  · have hV : mnV ms x = .tuple #[.int .i64 0, .bool false] := by simp only [mnV, hok]; rfl
    have HV := Lib.hid hV; clear hV hok
    rw [HV.out]
    go_wp2_with fail
    refine (specMarkNumber_any _ m c1 ms x w2 (by omega) hml HR2.out).mono ?_
    rintro e w3 ⟨rfl, hb3⟩
    rw [HV.out]
    have HB3 := Lib.hid (HB2.out.trans (hb3.mono HB2.out.size)); clear hb3 HR2 HB2
    go_wp2_with fail
    go_ret
    exact ⟨rfl, HB3.out⟩
  simp only [Bool.and_eq_true] at hok
  obtain ⟨hv, hx⟩ := hok
  have hx' := inB_iff.1 hx
  have HV := Lib.hid (mnV_yes hv hx)
  rw [hml] at hx'
  clear hx
  have hm := mvB_rises hv
  have hm2 := (mvB_iff.1 hv).1
  rw [hml] at hm2
  rw [HV.out]
  obtain ⟨N, hN⟩ : ∃ N, numF ms x = N := ⟨_, rfl⟩
  rw [hN] at HV ⊢
  have HM := Lib.hid hm; have HVV := Lib.hid hv; have HN := Lib.hid hN; have HML := Lib.hid hml
  clear hm hv hN hml
  go_wp2_with fail
  refine (specMarkNumber_any _ m c1 ms x w2 (by omega) HML.out HR2.out).mono ?_
  rintro e w3 ⟨rfl, hb3⟩
  rw [HV.out]
  have HR3 := Lib.hid ((HR2.out.below hb3).more hb3.size)
  have HB3 := Lib.hid (HB2.out.trans (hb3.mono HB2.out.size)); clear hb3 HR2 HB2
  by_cases h2 : m = 2
  · subst h2
    obtain ⟨b', off', e', hb', r1, r2⟩ := HR3.out.mark (show 0 < 2 by omega)
    cases e'
    obtain ⟨b', off', e', hb', s1, s2⟩ := HR3.out.mark (show 1 < 2 by omega)
    cases e'
    simp only [Nat.zero_mul, Nat.add_zero, Nat.one_mul, Nat.add_assoc, Nat.reduceAdd] at r1 r2 s1 s2
    have hl := numF_line HVV.out HML.out hx'.1 hx'.2
    rw [HN.out] at hl
    have hb0 := mvB_bd HVV.out (k := 0) (by rw [HML.out]; omega)
    have hb1 := mvB_bd HVV.out (k := 1) (by rw [HML.out]; omega)
    have hmm := HM.out 0 1 (by omega) (by rw [HML.out]; omega)
    have hbd := numF_bd HM.out (by rw [HML.out]; omega) hx'.1 (by rw [HML.out]; exact hx'.2)
    rw [HN.out, HML.out] at hbd
    simp only [Nat.reduceSub] at hx' hbd
    generalize gp ms 0 = p0 at *
    generalize gn ms 0 = n0 at *
    generalize gp ms 1 = p1 at *
    generalize gn ms 1 = n1 at *
    have a1 : 0 ≤ (N - n0) * (p1 - p0) := Int.mul_nonneg (by omega) (by omega)
    have a2 : 0 ≤ (x - p0) * (n1 - n0) := Int.mul_nonneg (by omega) (by omega)
    have a3 : (N - n0) * (p1 - p0) ≤ 200000 * 100000 := Int.mul_le_mul (by omega) (by omega) (by omega) (by omega)
    have a4 : (x - p0) * (n1 - n0) ≤ 100000 * 200000 := Int.mul_le_mul (by omega) (by omega) (by omega) (by omega)
    have u1 : IntKind.i64.wrap (N - n0) = N - n0 := IntWalk.i64_in _ (by omega)
    have u2 : IntKind.i64.wrap (p1 - p0) = p1 - p0 := IntWalk.i64_in _ (by omega)
    have u3 : IntKind.i64.wrap ((N - n0) * (p1 - p0)) = (N - n0) * (p1 - p0) := IntWalk.i64_in _ (by omega)
    have u4 : IntKind.i64.wrap (x - p0) = x - p0 := IntWalk.i64_in _ (by omega)
    have u5 : IntKind.i64.wrap (n1 - n0) = n1 - n0 := IntWalk.i64_in _ (by omega)
    have u6 : IntKind.i64.wrap ((x - p0) * (n1 - n0)) = (x - p0) * (n1 - n0) := IntWalk.i64_in _ (by omega)
    have u7 : IntKind.i64.wrap ((x - p0) * (n1 - n0) - (N - n0) * (p1 - p0)) = (x - p0) * (n1 - n0) - (N - n0) * (p1 - p0) := IntWalk.i64_in _ (by omega)
    have d1 : decide ((N - n0) * (p1 - p0) ≤ (x - p0) * (n1 - n0)) = true := by simpa using hl.1
    have d2 : decide ((x - p0) * (n1 - n0) - (N - n0) * (p1 - p0) < p1 - p0) = true := by simpa using hl.2
    have u2' := Lib.hid u2
    have U := Lib.hid (And.intro u3 (And.intro u6 u7))
    clear u7 a1 a2 a3 a4 hl hx' hbd hb0 hb1 hmm
    go_wp2_with fail
    go_quiet (fail)
    clear u1 u2 u3
    go_wp2_with fail
    go_quiet (fail)
    clear u4 u5 u6
    have u7 := U.out.2.2
    have u2 : IntKind.i64.wrap (p1 - p0) = p1 - p0 := u2'.out
    go_wp2_with fail
    go_quiet (fail)
    clear u7
    go_wp2_with fail
    go_ret
    exact ⟨rfl, below_drewN (below_drewN (below_drewN HB3.out _) _) _⟩
  · have d1 : ((m : Int) == 2) = false := by simp; omega
    go_wp2_with fail
    refine (implMarksValid_any _ m c1 ms w3 (by omega) HML.out HR3.out).mono ?_
    rintro e w4 ⟨rfl, hb4⟩
    rw [HVV.out]
    have HB4 := Lib.hid (HB3.out.trans (hb4.mono HB3.out.size)); clear hb4
    go_wp2_with fail
    go_ret
    exact ⟨rfl, HB4.out⟩
end Go.Proofs.Ytogbjneldipnpaa
