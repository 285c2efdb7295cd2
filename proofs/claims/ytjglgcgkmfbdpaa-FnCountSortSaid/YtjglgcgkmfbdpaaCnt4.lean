/- The reference's CountJ; weights. -/
import Derived.Test.YtjglgcgkmfbdpaaCnt3
namespace Go.Proofs.Ytjglgcgkmfbdpaa
open Go.RowKit
attribute [local go_sem ↓] Go.wp_at_zero Go.wp_at_succ

set_option maxHeartbeats 1000000 in
theorem specCountJ_any (A : Option Addr) (n c : Nat) (ts : List T2) (j : Int) (w : World) (hn : n ≤ 1048576) (hts : ts.length = n) (hr : Reads w w.heap.size 2 A n (tcells ts)) :
    Calls Try.prog 18 #[.slice A n c, .int .i64 j] w fun e w' => e = .returned (.int .i64 (ctJ ts j)) ∧ Below w.heap.size w w' := by
  have HR := Lib.hid hr; clear hr
  have HT := Lib.hid hts; clear hts
  have hB0 := Below.refl w.heap.size w
  go_enter Try.func18, Try.ntmps18
  go_wp2_with fail
  go_loopw [5, 6] (fun v i wr => ∃ (k : Nat), k ≤ n ∧ i = .int .i64 k ∧ v = .int .i64 (cntJ (ts.take k) j) ∧ (ts.take k).all tvB = true ∧ Below w.heap.size w wr) (fun _ i _ => n - (intOf i).toNat)
  case atStart => exact ⟨0, Nat.zero_le _, rfl, rfl, rfl, hB0⟩
  case round =>
    clear hB0
    obtain ⟨k, hk, rfl, rfl, hall, hB⟩ := hrel
    have HA := Lib.hid hall; clear hall
    have HB := Lib.hid hB; clear hB
    have hc := cntJ_le (ts.take k) j
    have hlk : (ts.take k).length ≤ k := List.length_take_le _ _
    have hc1 := hc.1
    have hc2 : cntJ (ts.take k) j ≤ 100000000 := by have := hc.2; omega
    clear hc
    by_cases hlt : k < n
    · obtain ⟨b, off, x, y, rfl, hb, h1, h2, H3, H4⟩ := (HR.out.below HB.out).term hlt
      have HC := Lib.hid (cntJ_snoc (ts.take k) (x, y) j)
      have HQ := Lib.hid (specTermValid_any (x, y) wr)
      generalize cntJ (ts.take k) j = q at *
      cases hv : tvB (x, y)
      · have HV := Lib.hid (ctL_snoc_bad ts k (x, y) H3.out hv); rw [hv] at HQ; clear hv
        go_wp2_with fail
        refine HQ.out.mono ?_
        rintro e w2 ⟨rfl, hb2⟩
        have HB2 := Lib.hid (HB.out.trans (hb2.mono HB.out.size)); clear hb2
        go_wp2_with fail
        go_ret
        exact ⟨ret_int (by unfold ctJ; rw [HV.out]; rfl), HB2.out⟩
      · have HV := Lib.hid hv; rw [hv] at HQ
        have hv2 := tvB_iff.1 hv
        simp only at hv2
        obtain ⟨⟨s0, s1⟩, l0, l1⟩ := hv2
        have HLJ := Lib.hid (show lvJs (x, y) = cpl (2 * y) x by unfold lvJs; rw [hv]; rfl)
        clear hv
        have hnl := cpl_len (2 * y) x
        have hnl2 : (cpl (2 * y) x).length ≤ 20 := by omega
        clear hnl
        have HSC := Lib.hid (fun W => specSpinCoupled_any (2 * y) x W (by omega) (by omega) (by omega) (by omega) (by omega))
        have HLH := Lib.hid (fun A c W h => l33Has_any A (cpl (2 * y) x).length c (cpl (2 * y) x) j W (by omega) rfl h)
        have w2y : IntKind.i64.wrap (2 * y) = 2 * y := IntWalk.i64_in _ (by omega)
        have HW := Lib.hid w2y; clear w2y
        have i1 : (0 : Int) ≤ (k : Int) := by omega
        have i2 : (k : Int) < (n : Int) := by omega
        go_wp2_with fail
        refine HQ.out.mono ?_
        rintro e w2 ⟨rfl, hb2⟩
        have HB2 := Lib.hid (HB.out.trans (hb2.mono HB.out.size))
        have g1 := (hb2.cell (p := ⟨b, off + k * 2, none⟩) (Nat.lt_of_lt_of_le hb HB.out.size)).trans h1
        have g2 := (hb2.cell (p := ⟨b, off + k * 2 + 1, none⟩) (Nat.lt_of_lt_of_le hb HB.out.size)).trans h2
        have hbl : b < w2.heap.size := Nat.lt_of_lt_of_le hb HB2.out.size
        clear hb2 h1 h2
        go_wp2_with fail
        have w2y := HW.out
        go_region_held3 (fun w' => w'.cell? ⟨b, off + k * 2, none⟩ = some (.int .i64 x) ∧ w'.cell? ⟨b, off + k * 2 + 1, none⟩ = some (.int .i64 y))
          (first | exact ⟨g1, g2⟩ | exact ⟨(hb3.cell hbl).trans g1, (hb3.cell hbl).trans g2⟩)
          (first
            | (go_at_call 34; refine (HSC.out _).mono ?_; rintro e w3 ⟨⟨A3, c3, rfl, hr3⟩, hb3⟩)
            | (go_at_call 33; refine (HLH.out A3 c3 _ (own_reads hr3)).mono ?_; rintro e w4 ⟨rfl, rfl⟩))
        clear w2y
        have HB4 := Lib.hid (HB2.out.drew.trans (hb3.mono HB2.out.size))
        clear hb3 hr3
        by_cases hj : j ∈ cpl (2 * y) x
        · have hj1 : decide (j ∈ cpl (2 * y) x) = true := by simp [hj]
          have HC1 := Lib.hid (show cntJ (ts.take k ++ [(x, y)]) j = q + 1 by rw [HC.out, HLJ.out, if_pos hj])
          generalize decide (j ∈ cpl (2 * y) x) = bb at *
          subst hj1
          clear hj
          go_wp2_with fail
          go_roundw
          case rel => exact ⟨k + 1, by omega, by go_num, by rw [H4.out, HC1.out], by rw [H4.out, List.all_append, HA.out]; simp [HV.out], HB4.out⟩
          case measure => simp [intOf]; omega
        · have hj1 : decide (j ∈ cpl (2 * y) x) = false := by simp [hj]
          have HC1 := Lib.hid (show cntJ (ts.take k ++ [(x, y)]) j = q by rw [HC.out, HLJ.out, if_neg hj]; omega)
          generalize decide (j ∈ cpl (2 * y) x) = bb at *
          subst hj1
          clear hj
          go_wp2_with fail
          go_roundw
          case rel => exact ⟨k + 1, by omega, by go_num, by rw [H4.out, HC1.out], by rw [H4.out, List.all_append, HA.out]; simp [HV.out], HB4.out⟩
          case measure => simp [intOf]; omega
    · go_wp2_with fail
      go_ret
      have hkn : k = n := by omega
      subst hkn
      have HX := Lib.hid (show ts.take k = ts from List.take_of_length_le (by rw [HT.out]; exact Nat.le_refl _))
      rw [HX.out] at HA
      exact ⟨ret_int (by unfold ctJ; rw [HA.out, HX.out]; rfl), HB.out⟩
end Go.Proofs.Ytjglgcgkmfbdpaa
