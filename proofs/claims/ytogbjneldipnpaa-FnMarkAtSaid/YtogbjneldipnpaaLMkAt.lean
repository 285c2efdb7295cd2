/- The walks of laws over marks. -/
import Derived.Test.YtogbjneldipnpaaMkD2
import Derived.Test.YtogbjneldipnpaaMk4
import Derived.Test.YtogbjneldipnpaaLawKit
namespace Go.Proofs.Ytogbjneldipnpaa
open Go.RowKit
attribute [local go_sem ↓] Go.wp_at_zero Go.wp_at_succ

set_option maxHeartbeats 2000000 in
theorem fnMarkAt_walk (A : Option Addr) (n c : Nat) (w : World) (hn : n ≤ maxLen) (hc : n ≤ c) (hb : Bytes w w.heap.size A n) :
    Calls Try.prog 4 #[.slice A n c] w fun e w' => e = .returned (.bool true) ∧ Below w.heap.size w w' := by
  unfold maxLen at hn
  have HB := Lib.hid hb; clear hb
  by_cases hbig : 1048576 < n
  · have hB0 := Below.refl w.heap.size w
    go_enter Try.func4, Try.ntmps4
    go_wp2_with fail
    go_ret
    exact ⟨rfl, hB0⟩
  go_enter Try.func4, Try.ntmps4
  go_wp2_with fail
  refine (DrawMarkNumber_any A n c w (by omega) hc HB.out).mono ?_
  rintro e w1 ⟨A1, c1, m, ms, x, rfl, hL, hxx, hb1⟩
  obtain ⟨b, off, rfl⟩ := hL.form
  have hm1 : 1 ≤ m ∧ m ≤ 5 := ⟨hL.2.2.1, hL.2.2.2.1⟩
  have hml := hL.2.1
  have hRd := hL.2.2.2.2.2.1
  have HB1 := Lib.hid hb1; have HR1 := Lib.hid hRd; clear hb1 hRd hL hbig
  go_wp2_with fail
  refine (implMarkNumber_any _ m c1 ms x w1 (by omega) hml HR1.out).mono ?_
  rintro e w2 ⟨rfl, hb2⟩
  have HR2 := Lib.hid ((HR1.out.below hb2).more hb2.size)
  have HB2 := Lib.hid (HB1.out.trans (hb2.mono HB1.out.size)); clear hb2 HR1 HB1
  cases hok : mvB ms && inB x (gp ms 0) (gp ms (ms.length - 1))
  · have hV : mnV ms x = .tuple #[.int .i64 0, .bool false] := by simp only [mnV, hok]; rfl
    have HV := Lib.hid hV; clear hV hok
    rw [HV.out]
    go_wp2_with fail
    refine (specMarkNumber_any _ m c1 ms x w2 (by omega) hml HR2.out).mono ?_
    rintro e w3 ⟨rfl, hb3⟩
    rw [HV.out]
    have HB3 := Lib.hid (HB2.out.trans (hb3.mono HB2.out.size)); clear hb3 HR2 HB2
    go_wp2_with fail
    go_ret
    exact ⟨rfl, HB3.out⟩
  simp only [Bool.and_eq_true] at hok
  obtain ⟨hv, hx⟩ := hok
  have hx' := inB_iff.1 hx
  have HV := Lib.hid (mnV_yes hv hx)
  rw [hml] at hx'
  clear hx
  have hm := mvB_rises hv
  have hm2 := (mvB_iff.1 hv).1
  rw [hml] at hm2
  rw [HV.out]
  obtain ⟨N, hN⟩ : ∃ N, numF ms x = N := ⟨_, rfl⟩
  rw [hN] at HV ⊢
  have HM := Lib.hid hm; have HVV := Lib.hid hv; have HN := Lib.hid hN; have HML := Lib.hid hml
  clear hm hv hN hml
  go_wp2_with fail
  refine (specMarkNumber_any _ m c1 ms x w2 (by omega) HML.out HR2.out).mono ?_
  rintro e w3 ⟨rfl, hb3⟩
  rw [HV.out]
  have HR3 := Lib.hid ((HR2.out.below hb3).more hb3.size)
  have HB3 := Lib.hid (HB2.out.trans (hb3.mono HB2.out.size)); clear hb3 HR2 HB2
  have hbd := numF_bd HM.out (by rw [HML.out]; omega) hx'.1 (by rw [HML.out]; exact hx'.2)
  rw [HN.out, HML.out] at hbd
  have HBD := Lib.hid hbd; clear hbd
  go_wp2_with fail
  go_loopw [9] (fun i wr => ∃ (k : Nat), k ≤ m ∧ i = .int .i64 k ∧ Below w.heap.size w wr ∧ Reads wr wr.heap.size 2 (some ⟨b, off, none⟩) m (tcells ms)) (fun i _ => m - (intOf i).toNat)
  case atStart => exact ⟨0, Nat.zero_le _, rfl, HB3.out, HR3.out⟩
  case round =>
    clear HB3 HR3
    obtain ⟨k, hk, rfl, hB, hr⟩ := hrel
    have HB := Lib.hid hB; have HR := Lib.hid hr; clear hB hr
    by_cases hlt : k < m
    · obtain ⟨b', off', e', hb', r1, r2⟩ := HR.out.mark hlt
      cases e'
      have hV2 := mnV_yes (x := gp ms k) HVV.out (inB_iff.2 ⟨(gp_zero_le HM.out (by rw [HML.out]; omega)).1, (gp_le_last HM.out (by rw [HML.out]; omega)).1⟩)
      rw [numF_mark HM.out (by rw [HML.out]; omega)] at hV2
      have HV2 := Lib.hid hV2; clear hV2
      have HC := Lib.hid (implMarkNumber_any _ m c1 ms (gp ms k) wr (by omega) HML.out HR.out)
      rw [HV2.out] at HC
      clear HV2
      generalize gp ms k = p at *
      generalize gn ms k = q at *
      go_wp2_with fail
      refine HC.out.mono ?_
      rintro e w4 ⟨rfl, hb4⟩
      have HR4 := Lib.hid ((HR.out.below hb4).more hb4.size)
      have HB4 := Lib.hid (HB.out.trans (hb4.mono HB.out.size))
      replace r2 := (hb4.cell (p := ⟨b, off + k * 2 + 1, none⟩) hb').trans r2
      clear hb4 HC r1
      go_wp2_with fail
      go_roundw
      case rel => exact ⟨k + 1, by omega, by go_num, HB4.out, HR4.out⟩
      case measure => simp [intOf]; omega
    · obtain ⟨m, rfl⟩ : ∃ j, m = j + 1 := ⟨m - 1, by omega⟩
      obtain ⟨b', off', e', hb', r1, r2⟩ := HR.out.mark (show 0 < m + 1 by omega)
      cases e'
      obtain ⟨b', off', e', hb', s1, s2⟩ := HR.out.mark (show m < m + 1 by omega)
      cases e'
      simp only [Nat.zero_mul, Nat.add_zero] at r1 r2
      have hbd := HBD.out
      simp only [Nat.add_sub_cancel] at hbd hx'
      clear r1 s1
      generalize gn ms 0 = n0 at *
      generalize gn ms m = nm at *
      have i1 : IntKind.i64.wrap (((m + 1 : Nat) : Int) - 1) = (m : Int) := (IntWalk.i64_in _ (by omega)).trans (by omega)
      have d1 : decide (n0 ≤ N) = true := by simpa using hbd.1
      have d2 : decide (N ≤ nm) = true := by simpa using hbd.2
      go_wp2_with fail
      go_ret
      exact ⟨rfl, HB.out⟩
end Go.Proofs.Ytogbjneldipnpaa
