/- The reference's MarkNumber; MarkPos of both. -/
import Derived.Test.YtogbjneldipnpaaMk3
namespace Go.Proofs.Ytogbjneldipnpaa
open Go.RowKit
attribute [local go_sem ↓] Go.wp_at_zero Go.wp_at_succ

set_option maxHeartbeats 2000000 in
theorem specMarkNumber_any (A : Option Addr) (n c : Nat) (ms : List T2) (x : Int) (w : World) (hn : n ≤ 1048576) (hts : ms.length = n) (hr : Reads w w.heap.size 2 A n (tcells ms)) :
    Calls Try.prog 15 #[.slice A n c, .int .i64 x] w fun e w' => e = .returned (mnV ms x) ∧ Below w.heap.size w w' := by
  have HMV := Lib.hid (fun q => specMarksValid_quiet A n c ms (w.drewN q) hn hts hr)
  have HT := Lib.hid hts
  have HB0 := Lib.hid (Below.refl w.heap.size w)
  cases hv : mvB ms
  · obtain ⟨V, hV⟩ : ∃ V, mnV ms x = V := ⟨_, rfl⟩
    rw [hV]
    have HVV := Lib.hid (hV.symm.trans (mnV_no1 hv)); clear hV
    rw [hv] at HMV; clear hv
    clear hr hts
    go_enter Try.func15, Try.ntmps15
    go_wp2_with fail
    go_quiet (first | (go_at_call 28; exact Calls.quiet_of (HMV.out _)))
    go_wp2_with fail
    go_ret2
    exact ⟨ret_val HVV.out.symm, below_drewN HB0.out _⟩
  have hnn := (mvB_iff.1 hv).1
  rw [hts] at hnn
  have HNP := Lib.hid (fun W (hB : Below w.heap.size w W) h0 h1 => l35Number_any A n c ms x W hts ((hr.below hB).more hB.size) hv h0 h1)
  have HY := Lib.hid (fun h' => mnV_yes (x := x) hv h')
  have HNO := Lib.hid (fun h' => mnV_no2 (ms := ms) (x := x) h')
  obtain ⟨V, hV⟩ : ∃ V, mnV ms x = V := ⟨_, rfl⟩
  rw [hV] at HY HNO ⊢
  rw [hts] at HY HNO
  clear hV
  rw [hv] at HMV; clear hv
  obtain ⟨m, rfl⟩ : ∃ m, n = m + 1 := ⟨n - 1, by omega⟩
  simp only [Nat.add_sub_cancel] at HY HNO HNP
  obtain ⟨b, off, rfl, hb, r1, r2⟩ := hr.mark (show m < m + 1 by omega)
  obtain ⟨b', off', e', hb', s1, s2⟩ := hr.mark (show 0 < m + 1 by omega)
  cases e'
  have HR := Lib.hid (fun W (hB : Below w.heap.size w W) => (hr.below hB).more hB.size); clear hr
  have i1 : IntKind.i64.wrap (((m + 1 : Nat) : Int) - 1) = (m : Int) := (IntWalk.i64_in _ (by omega)).trans (by omega)
  have i2 : (0 : Int) ≤ (m : Int) := by omega
  have i3 : (m : Int) < ((m + 1 : Nat) : Int) := by omega
  have i4 : (0 : Int) < ((m + 1 : Nat) : Int) := by omega
  simp only [Nat.zero_mul, Nat.add_zero] at s1 s2
  clear hts
  generalize hg0 : gp ms 0 = p0 at *
  generalize hgm : gp ms m = pm at *
  clear hg0 hgm
  cases hx : inB x p0 pm
  · have HIN := Lib.hid (fun q => (l6In_any x p0 pm (w.drewN q)).mono (R' := fun e w' => e = .returned (.bool false) ∧ w' = w.drewN q) fun _ _ ⟨he, hw⟩ => ⟨by rw [he, hx], hw.symm⟩)
    have HX := Lib.hid hx; clear hx
    go_enter Try.func15, Try.ntmps15
    go_wp2_with fail
    go_quiet (first | (go_at_call 28; exact Calls.quiet_of (HMV.out _)) | (go_at_call 29; exact Calls.quiet_of_same (HIN.out _)))
    go_wp2_with fail
    go_ret2
    exact ⟨ret_val (HNO.out HX.out).symm, below_drewN HB0.out _⟩
  · have hxx := inB_iff.1 hx
    have HIN := Lib.hid (fun q => (l6In_any x p0 pm (w.drewN q)).mono (R' := fun e w' => e = .returned (.bool true) ∧ w' = w.drewN q) fun _ _ ⟨he, hw⟩ => ⟨by rw [he, hx], hw.symm⟩)
    have HX := Lib.hid hx; clear hx
    replace HY := Lib.hid (HY.out HX.out)
    replace HNP := Lib.hid (fun W h => HNP.out W h hxx.1 hxx.2)
    generalize numF ms x = N at *
    go_enter Try.func15, Try.ntmps15
    go_wp2_with fail
    go_quiet (first | (go_at_call 28; exact Calls.quiet_of (HMV.out _)) | (go_at_call 29; exact Calls.quiet_of_same (HIN.out _)))
    go_wp2_with fail
    refine (HNP.out _ (below_drewN HB0.out _)).mono ?_
    rintro e w3 ⟨rfl, hb3⟩
    have HB3 := Lib.hid ((below_drewN HB0.out _).trans (hb3.mono HB0.out.size)); clear hb3
    go_wp2_with fail
    go_ret2
    exact ⟨ret_val HY.out.symm, HB3.out⟩
end Go.Proofs.Ytogbjneldipnpaa
