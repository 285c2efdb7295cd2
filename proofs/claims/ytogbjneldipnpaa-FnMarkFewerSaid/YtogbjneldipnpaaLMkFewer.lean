/- The walks of laws over marks. -/
import Derived.Test.YtogbjneldipnpaaMkD2
import Derived.Test.YtogbjneldipnpaaMk4
import Derived.Test.YtogbjneldipnpaaLawKit
namespace Go.Proofs.Ytogbjneldipnpaa
open Go.RowKit
attribute [local go_sem ↓] Go.wp_at_zero Go.wp_at_succ

set_option maxHeartbeats 2000000 in
theorem fnMarkFewer_walk (A : Option Addr) (n c : Nat) (w : World) (hn : n ≤ maxLen) (hc : n ≤ c) (hb : Bytes w w.heap.size A n) :
    Calls Try.prog 5 #[.slice A n c] w fun e w' => e = .returned (.bool true) ∧ Below w.heap.size w w' := by
  unfold maxLen at hn
  have HB := Lib.hid hb; clear hb
  by_cases hbig : 1048576 < n
  · have hB0 := Below.refl w.heap.size w
    go_enter Try.func5, Try.ntmps5
    go_wp2_with fail
    go_ret
    exact ⟨rfl, hB0⟩
  go_enter Try.func5, Try.ntmps5
  go_wp2_with fail
  refine (DrawMarkNumber_any A n c w (by omega) hc HB.out).mono ?_
  rintro e w1 ⟨A1, c1, m, ms, x, rfl, hL, hxx, hb1⟩
  obtain ⟨b, off, rfl⟩ := hL.form
  have hm1 : 1 ≤ m ∧ m ≤ 5 := ⟨hL.2.2.1, hL.2.2.2.1⟩
  have hml := hL.2.1
  have hmc := hL.1
  have hRd := hL.2.2.2.2.2.1
  have HB1 := Lib.hid hb1; have HR1 := Lib.hid hRd; clear hb1 hRd hL hbig
  go_wp2_with fail
  refine (implMarkNumber_any _ m c1 ms x w1 (by omega) hml HR1.out).mono ?_
  rintro e w2 ⟨rfl, hb2⟩
  have HR2 := Lib.hid ((HR1.out.below hb2).more hb2.size)
  have HB2 := Lib.hid (HB1.out.trans (hb2.mono HB1.out.size)); clear hb2 HR1 HB1
  cases hok : mvB ms && inB x (gp ms 0) (gp ms (ms.length - 1))
  · have hV : mnV ms x = .tuple #[.int .i64 0, .bool false] := by simp only [mnV, hok]; rfl
    have HV := Lib.hid hV; clear hV hok
    rw [HV.out]
    go_wp2_with fail
    refine (specMarkNumber_any _ m c1 ms x w2 (by omega) hml HR2.out).mono ?_
    rintro e w3 ⟨rfl, hb3⟩
    rw [HV.out]
    have HB3 := Lib.hid (HB2.out.trans (hb3.mono HB2.out.size)); clear hb3 HR2 HB2
    go_wp2_with fail
    go_ret
    exact ⟨rfl, HB3.out⟩
  simp only [Bool.and_eq_true] at hok
  obtain ⟨hv, hx⟩ := hok
  have hx' := inB_iff.1 hx
  have HV := Lib.hid (mnV_yes hv hx)
  rw [hml] at hx'
  clear hx
  have hm := mvB_rises hv
  have hm2 := (mvB_iff.1 hv).1
  rw [hml] at hm2
  rw [HV.out]
  obtain ⟨N, hN⟩ : ∃ N, numF ms x = N := ⟨_, rfl⟩
  rw [hN] at HV ⊢
  have HM := Lib.hid hm; have HVV := Lib.hid hv; have HN := Lib.hid hN; have HML := Lib.hid hml
  clear hm hv hN hml
  go_wp2_with fail
  refine (specMarkNumber_any _ m c1 ms x w2 (by omega) HML.out HR2.out).mono ?_
  rintro e w3 ⟨rfl, hb3⟩
  rw [HV.out]
  have HR3 := Lib.hid ((HR2.out.below hb3).more hb3.size)
  have HB3 := Lib.hid (HB2.out.trans (hb3.mono HB2.out.size)); clear hb3 HR2 HB2
  have hbl := mvB_bd HVV.out (k := m - 1) (by rw [HML.out]; omega)
  have hbd := numF_bd HM.out (by rw [HML.out]; omega) hx'.1 (by rw [HML.out]; exact hx'.2)
  rw [HN.out, HML.out] at hbd
  have hN2 : N ≤ 200000 := by omega
  clear hbd hbl
  by_cases h2 : m = 2
  · have d1 : ((m : Int) == 2) = true := by simp; omega
    have d2 : decide (N ≤ 200000) = true := by simpa using hN2
    clear h2 hx'
    go_wp2_with fail
    go_ret
    exact ⟨rfl, HB3.out⟩
  have d1 : ((m : Int) == 2) = false := by simp; omega
  obtain ⟨k, rfl⟩ : ∃ k, m = k + 2 := ⟨m - 2, by omega⟩
  obtain ⟨b', off', e', hb', s1, s2⟩ := HR3.out.mark (show k < k + 2 by omega)
  cases e'
  clear s2
  have i1 : IntKind.i64.wrap (((k + 2 : Nat) : Int) - 2) = (k : Int) := (IntWalk.i64_in _ (by omega)).trans (by omega)
  by_cases hp : gp ms k < x
  · have d2 : decide (N ≤ 200000) = true := by simpa using hN2
    generalize gp ms k = pk at *
    clear hx'
    go_wp2_with fail
    go_ret
    exact ⟨rfl, HB3.out⟩
  · have hl1 : (ms.take (k + 1)).length = k + 1 := by rw [List.length_take, HML.out]; omega
    have hr1 : Reads w3 w3.heap.size 2 (some ⟨b, off, none⟩) (k + 1) (tcells (ms.take (k + 1))) := by rw [tcells_take]; exact HR3.out.take (by omega)
    have hV2 := mnV_yes (x := x) (mvB_take HVV.out (m := k + 1) (by omega) (by rw [HML.out]; omega)) (inB_iff.2 (by
      rw [hl1, Nat.add_sub_cancel, (gp_take (show 0 < k + 1 by omega)).1, (gp_take (show k < k + 1 by omega)).1]; omega))
    rw [numF_take HVV.out (by omega) (by rw [HML.out]; omega) hx'.1 (by simp only [Nat.add_sub_cancel]; omega), HN.out] at hV2
    have HC := Lib.hid (fun c => implMarkNumber_any _ (k + 1) c _ x w3 (by omega) hl1 hr1)
    rw [hV2] at HC
    have hcc : k + 1 ≤ c1 := by omega
    clear hV2 hr1 hl1 hx'
    generalize gp ms k = pk at *
    have dp : decide (pk < x) = false := by simpa using hp
    have hk0 : ((k : Int) == 0) = false := by simp; omega
    go_wp2_with fail
    trace_state
    refine (HC.out _).mono ?_
    rintro e w4 ⟨rfl, hb4⟩
    have HB4 := Lib.hid (HB3.out.trans (hb4.mono HB3.out.size)); clear hb4 HC
    go_wp2_with fail
    go_ret
    exact ⟨rfl, HB4.out⟩
end Go.Proofs.Ytogbjneldipnpaa
