/- The walks of the laws FnCountSpinsAll and FnCountLevels. -/
import Derived.Test.YtjglgcgkmfbdpaaDraw4
import Derived.Test.YtjglgcgkmfbdpaaCnt5
namespace Go.Proofs.Ytjglgcgkmfbdpaa
open Go.RowKit

theorem ctJ_all {ts : List T2} (h : ts.all tvB = true) (j : Int) : ctJ ts j = cntJ ts j := by unfold ctJ; rw [h]; rfl
theorem ctL_all {ts : List T2} (h : ts.all tvB = true) : ctL ts = cntLev ts := by unfold ctL; rw [h]; rfl
theorem ctL_neg {ts : List T2} (h : ts.all tvB = false) : ctL ts = -1 := by unfold ctL; rw [h]; rfl
theorem ctJ_neg {ts : List T2} (h : ts.all tvB = false) (j : Int) : ctJ ts j = -1 := by unfold ctJ; rw [h]; rfl

set_option maxHeartbeats 1000000 in
theorem fnCountLevels_walk (A0 : Option Addr) (n0 c0 : Nat) (w : World) (m0 : n0 ≤ maxLen) (d0 : n0 ≤ c0) (b0 : Bytes w w.heap.size A0 n0) :
    Calls Try.prog 8 #[.slice A0 n0 c0] w fun e w' => e = .returned (.bool true) ∧ Below w.heap.size w w' := by
  unfold maxLen at m0
  have HB := Lib.hid b0; clear b0
  have hB0 := Below.refl w.heap.size w
  by_cases h0 : 1048576 < n0
  · go_enter Try.func8, Try.ntmps8
    go_wp2_with fail
    go_ret
    exact ⟨rfl, hB0⟩
  clear hB0
  go_enter Try.func8, Try.ntmps8
  go_wp2_with fail
  refine (DrawCountLevels_any A0 n0 c0 w (by omega) d0 HB.out).mono ?_
  rintro e w1 ⟨A, c, n, ts, rfl, ⟨hnc, hts, hn5, hdr, hrd⟩, hb1⟩
  have HR1 := Lib.hid hrd
  have HB1 := Lib.hid hb1
  have HT := Lib.hid hts
  clear hb1 hrd hts hdr
  go_wp2_with fail
  refine (implCountLevels_any A n c ts w1 (by omega) HT.out HR1.out).mono ?_
  rintro e w2 ⟨rfl, hb2⟩
  have HR2 := Lib.hid ((HR1.out.below hb2).more hb2.size)
  have HB2 := Lib.hid (HB1.out.trans (hb2.mono HB1.out.size)); clear hb2 HR1 HB1
  cases hall : ts.all tvB
  · rw [ctL_neg hall]
    have HSP := Lib.hid (specCountLevels_any A n c ts w2 (by omega) HT.out HR2.out)
    rw [ctL_neg hall] at HSP
    clear hall
    go_wp2_with fail
    refine HSP.out.mono ?_
    rintro e w3 ⟨rfl, hb3⟩
    have HB3 := Lib.hid (HB2.out.trans (hb3.mono HB2.out.size)); clear hb3
    go_wp2_with fail
    go_ret
    exact ⟨rfl, HB3.out⟩
  · rw [ctL_all hall]
    have HSP := Lib.hid (specCountLevels_any A n c ts w2 (by omega) HT.out HR2.out)
    rw [ctL_all hall] at HSP
    have hcl := cntLev_le ts
    have hc0 := hcl.1
    have HSUM := Lib.hid (sum_lev ts hall)
    have HALL := Lib.hid hall
    have HCJ := Lib.hid (fun W j h => implCountJ_any A n c ts j W (by omega) HT.out h)
    clear hcl hall
    generalize hq : cntLev ts = q at *
    clear hq
    go_wp2_with fail
    refine HSP.out.mono ?_
    rintro e w3 ⟨rfl, hb3⟩
    have HR3 := Lib.hid ((HR2.out.below hb3).more hb3.size)
    have HB3 := Lib.hid (HB2.out.trans (hb3.mono HB2.out.size)); clear hb3 HR2 HB2
    go_wp2_with fail
    go_loopw [6, 7] (fun v i wr => ∃ (k : Nat), k ≤ 25 ∧ i = .int .i64 k ∧ v = .int .i64 (sumTo (fun j => cntJ ts j) k) ∧ Below w.heap.size w wr ∧ Reads wr wr.heap.size 2 A n (tcells ts)) (fun _ i _ => 25 - (intOf i).toNat)
    case atStart => exact ⟨0, by omega, rfl, rfl, HB3.out, HR3.out⟩
    case round =>
      clear HB3 HR3
      obtain ⟨k, hk, rfl, rfl, hb4, hr4⟩ := hrel
      have HB4 := Lib.hid hb4; clear hb4
      have HR4 := Lib.hid hr4; clear hr4
      have hs : 0 ≤ sumTo (fun j => cntJ ts j) k ∧ sumTo (fun j => cntJ ts j) k ≤ (k : Int) * 5 := by
        clear HB4 HR4
        induction k with
        | zero => simp [sumTo]
        | succ k ih =>
          have h1 := ih (by omega)
          have h2 := cntJ_le ts k
          have h3 := HT.out
          rw [sumTo_succ]; omega
      have hs1 := hs.1
      have hs2 : sumTo (fun j => cntJ ts j) k ≤ 200 := by omega
      clear hs
      by_cases hlt : k < 25
      · have hcj := cntJ_le ts k
        have hcj1 := hcj.1
        have hcj2 : cntJ ts k ≤ 5 := by have := HT.out; omega
        have HS := Lib.hid (sumTo_succ (fun j => cntJ ts j) k)
        have HCK := Lib.hid (HCJ.out wr k HR4.out)
        rw [ctJ_all HALL.out] at HCK
        clear hcj
        generalize sumTo (fun j => cntJ ts j) k = s at *
        generalize cntJ ts k = z at *
        go_wp2_with fail
        refine HCK.out.mono ?_
        rintro e w5 ⟨rfl, hb5⟩
        have HR5 := Lib.hid ((HR4.out.below hb5).more hb5.size)
        have HB5 := Lib.hid (HB4.out.trans (hb5.mono HB4.out.size)); clear hb5 HR4 HB4
        go_wp2_with fail
        go_roundw
        case rel => exact ⟨k + 1, by omega, by go_num, by rw [HS.out], HB5.out, HR5.out⟩
        case measure => simp [intOf]; omega
      · have hk' : k = 25 := by omega
        subst hk'
        rw [HSUM.out] at *
        go_wp2_with fail
        go_ret
        exact ⟨rfl, HB4.out⟩

set_option maxHeartbeats 1000000 in
theorem fnCountSpinsAll_walk (A0 : Option Addr) (n0 c0 : Nat) (w : World) (m0 : n0 ≤ maxLen) (d0 : n0 ≤ c0) (b0 : Bytes w w.heap.size A0 n0) :
    Calls Try.prog 7 #[.slice A0 n0 c0] w fun e w' => e = .returned (.bool true) ∧ Below w.heap.size w w' := by
  unfold maxLen at m0
  have HB := Lib.hid b0; clear b0
  have hB0 := Below.refl w.heap.size w
  by_cases h0 : 1048576 < n0
  · go_enter Try.func7, Try.ntmps7
    go_wp2_with fail
    go_ret
    exact ⟨rfl, hB0⟩
  clear hB0
  go_enter Try.func7, Try.ntmps7
  go_wp2_with fail
  refine (DrawCountLevels_any A0 n0 c0 w (by omega) d0 HB.out).mono ?_
  rintro e w1 ⟨A, c, n, ts, rfl, ⟨hnc, hts, hn5, hdr, hrd⟩, hb1⟩
  have HR1 := Lib.hid hrd
  have HB1 := Lib.hid hb1
  have HT := Lib.hid hts
  clear hb1 hrd hts hdr
  go_wp2_with fail
  refine (implCountLevels_any A n c ts w1 (by omega) HT.out HR1.out).mono ?_
  rintro e w2 ⟨rfl, hb2⟩
  have HR2 := Lib.hid ((HR1.out.below hb2).more hb2.size)
  have HB2 := Lib.hid (HB1.out.trans (hb2.mono HB1.out.size)); clear hb2 HR1 HB1
  cases hall : ts.all tvB
  · rw [ctL_neg hall]
    have HSP := Lib.hid (specCountLevels_any A n c ts w2 (by omega) HT.out HR2.out)
    rw [ctL_neg hall] at HSP
    clear hall
    go_wp2_with fail
    refine HSP.out.mono ?_
    rintro e w3 ⟨rfl, hb3⟩
    have HB3 := Lib.hid (HB2.out.trans (hb3.mono HB2.out.size)); clear hb3
    go_wp2_with fail
    go_ret
    exact ⟨rfl, HB3.out⟩
  · rw [ctL_all hall]
    have HSP := Lib.hid (specCountLevels_any A n c ts w2 (by omega) HT.out HR2.out)
    rw [ctL_all hall] at HSP
    have hge := lev_ge ts hall
    rw [HT.out] at hge
    have hq0 : 0 ≤ cntLev ts := by omega
    have HSUM := Lib.hid (sum_spin ts hall)
    rw [HT.out] at HSUM
    have HCJ := Lib.hid (fun W j h => implCountSpins_any A c n ts j W HT.out (by omega) h)
    clear hall
    generalize cntLev ts = q at *
    go_wp2_with fail
    refine HSP.out.mono ?_
    rintro e w3 ⟨rfl, hb3⟩
    have HR3 := Lib.hid ((HR2.out.below hb3).more hb3.size)
    have HB3 := Lib.hid (HB2.out.trans (hb3.mono HB2.out.size)); clear hb3 HR2 HB2
    go_wp2_with fail
    go_loopw [6, 7] (fun v i wr => ∃ (k : Nat), k ≤ 9 ∧ i = .int .i64 k ∧ v = .int .i64 (sumTo (fun j => cntSpin ts j) k) ∧ Below w.heap.size w wr ∧ Reads wr wr.heap.size 2 A n (tcells ts)) (fun _ i _ => 9 - (intOf i).toNat)
    case atStart => exact ⟨0, by omega, rfl, rfl, HB3.out, HR3.out⟩
    case round =>
      clear HB3 HR3
      obtain ⟨k, hk, rfl, rfl, hb4, hr4⟩ := hrel
      have HB4 := Lib.hid hb4; clear hb4
      have HR4 := Lib.hid hr4; clear hr4
      have hs : 0 ≤ sumTo (fun j => cntSpin ts j) k ∧ sumTo (fun j => cntSpin ts j) k ≤ (k : Int) * 5 := by
        clear HB4 HR4
        induction k with
        | zero => simp [sumTo]
        | succ k ih =>
          have h1 := ih (by omega)
          have h2 := cntSpin_le ts k
          have h3 := HT.out
          rw [sumTo_succ]; omega
      have hs1 := hs.1
      have hs2 : sumTo (fun j => cntSpin ts j) k ≤ 200 := by omega
      clear hs
      by_cases hlt : k < 9
      · have hcj := cntSpin_le ts k
        have hcj1 := hcj.1
        have hcj2 : cntSpin ts k ≤ 5 := by have := HT.out; omega
        have HS := Lib.hid (sumTo_succ (fun j => cntSpin ts j) k)
        have HCK := Lib.hid (HCJ.out wr k HR4.out)
        clear hcj
        generalize sumTo (fun j => cntSpin ts j) k = s at *
        generalize cntSpin ts k = z at *
        go_wp2_with fail
        refine HCK.out.mono ?_
        rintro e w5 ⟨rfl, hb5⟩
        have HR5 := Lib.hid ((HR4.out.below hb5).more hb5.size)
        have HB5 := Lib.hid (HB4.out.trans (hb5.mono HB4.out.size)); clear hb5 HR4 HB4
        go_wp2_with fail
        go_roundw
        case rel => exact ⟨k + 1, by omega, by go_num, by rw [HS.out], HB5.out, HR5.out⟩
        case measure => simp [intOf]; omega
      · have hk' : k = 9 := by omega
        subst hk'
        rw [HSUM.out] at *
        go_wp2_with fail
        go_ret
        exact ⟨rfl, HB4.out⟩
end Go.Proofs.Ytjglgcgkmfbdpaa
