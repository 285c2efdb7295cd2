/- The walk of the law FnCountJ. -/
import Derived.Test.YtjglgcgkmfbdpaaL7
namespace Go.Proofs.Ytjglgcgkmfbdpaa
open Go.RowKit

set_option maxHeartbeats 1000000 in
theorem fnCountJ_walk (A0 : Option Addr) (n0 c0 : Nat) (w : World) (m0 : n0 ≤ maxLen) (d0 : n0 ≤ c0) (b0 : Bytes w w.heap.size A0 n0) :
    Calls Try.prog 9 #[.slice A0 n0 c0] w fun e w' => e = .returned (.bool true) ∧ Below w.heap.size w w' := by
  unfold maxLen at m0
  have HB := Lib.hid b0; clear b0
  have hB0 := Below.refl w.heap.size w
  by_cases h0 : 1048576 < n0
  · go_enter Try.func9, Try.ntmps9
    go_wp2_with fail
    go_ret
    exact ⟨rfl, hB0⟩
  clear hB0
  go_enter Try.func9, Try.ntmps9
  go_wp2_with fail
  refine (DrawCountJ_any A0 n0 c0 w (by omega) d0 HB.out).mono ?_
  rintro e w1 ⟨A, c, n, ts, j0, rfl, ⟨hnc, hts, hn5, hdr, hrd⟩, hs0, hs1, hb1⟩
  have HR1 := Lib.hid hrd
  have HB1 := Lib.hid hb1
  have HT := Lib.hid hts
  clear hb1 hrd hts hdr
  go_wp2_with fail
  refine (implCountJ_any A n c ts j0 w1 (by omega) HT.out HR1.out).mono ?_
  rintro e w2 ⟨rfl, hb2⟩
  have HR2 := Lib.hid ((HR1.out.below hb2).more hb2.size)
  have HB2 := Lib.hid (HB1.out.trans (hb2.mono HB1.out.size)); clear hb2 HR1 HB1
  cases hall : ts.all tvB
  · rw [ctJ_neg hall]
    have HSP := Lib.hid (specCountJ_any A n c ts j0 w2 (by omega) HT.out HR2.out)
    rw [ctJ_neg hall] at HSP
    clear hall
    go_wp2_with fail
    refine HSP.out.mono ?_
    rintro e w3 ⟨rfl, hb3⟩
    have HB3 := Lib.hid (HB2.out.trans (hb3.mono HB2.out.size)); clear hb3
    go_wp2_with fail
    go_ret
    exact ⟨rfl, HB3.out⟩
  · rw [ctJ_all hall]
    have HSP := Lib.hid (specCountJ_any A n c ts j0 w2 (by omega) HT.out HR2.out)
    rw [ctJ_all hall] at HSP
    have hcl := cntJ_le ts j0
    rw [HT.out] at hcl
    have hc0 := hcl.1
    have hcle := hcl.2
    have HSUM := Lib.hid (sum_wt ts hall)
    have HTW := Lib.hid (fun W h => implTermsWeight_any A n c ts W (by omega) HT.out h)
    have HWS := Lib.hid (show wtS ts = wtSum ts by unfold wtS; rw [hall]; rfl)
    have HALL := Lib.hid hall
    have HCJ := Lib.hid (fun W j h => implCountJ_any A n c ts j W (by omega) HT.out h)
    clear hcl hall
    generalize hq : cntJ ts j0 = q at *
    clear hq
    go_wp2_with fail
    refine HSP.out.mono ?_
    rintro e w3 ⟨rfl, hb3⟩
    have HR3 := Lib.hid ((HR2.out.below hb3).more hb3.size)
    have HB3 := Lib.hid (HB2.out.trans (hb3.mono HB2.out.size)); clear hb3 HR2 HB2
    go_wp2_with fail
    go_loopw [7, 8] (fun v i wr => ∃ (k : Nat), k ≤ 25 ∧ i = .int .i64 k ∧ v = .int .i64 (sumTo (fun j => ((j : Int) + 1) * cntJ ts j) k) ∧ Below w.heap.size w wr ∧ Reads wr wr.heap.size 2 A n (tcells ts)) (fun _ i _ => 25 - (intOf i).toNat)
    case atStart => exact ⟨0, by omega, rfl, rfl, HB3.out, HR3.out⟩
    case round =>
      clear HB3 HR3
      obtain ⟨k, hk, rfl, rfl, hb4, hr4⟩ := hrel
      have HB4 := Lib.hid hb4; clear hb4
      have HR4 := Lib.hid hr4; clear hr4
      have hs : 0 ≤ sumTo (fun j => ((j : Int) + 1) * cntJ ts j) k ∧ sumTo (fun j => ((j : Int) + 1) * cntJ ts j) k ≤ (k : Int) * 125 := by
        clear HB4 HR4
        induction k with
        | zero => simp [sumTo]
        | succ k ih =>
          have h1 := ih (by omega)
          have h2 := cntJ_le ts k
          have h3 := HT.out
          have h4 : 0 ≤ ((k : Int) + 1) * cntJ ts k := Int.mul_nonneg (by omega) h2.1
          have h5 : ((k : Int) + 1) * cntJ ts k ≤ 25 * 5 := Int.mul_le_mul (by omega) (by omega) h2.1 (by omega)
          rw [sumTo_succ]; omega
      have hs1 := hs.1
      have hs2 : sumTo (fun j => ((j : Int) + 1) * cntJ ts j) k ≤ 4000 := by omega
      clear hs
      by_cases hlt : k < 25
      · have hcj := cntJ_le ts k
        have hcj1 := hcj.1
        have hcj2 : cntJ ts k ≤ 5 := by have := HT.out; omega
        have HS := Lib.hid (sumTo_succ (fun j => ((j : Int) + 1) * cntJ ts j) k)
        have HCK := Lib.hid (HCJ.out wr k HR4.out)
        rw [ctJ_all HALL.out] at HCK
        have hm1 : 0 ≤ ((k : Int) + 1) * cntJ ts k := Int.mul_nonneg (by omega) hcj1
        have hm2 : ((k : Int) + 1) * cntJ ts k ≤ 25 * 5 := Int.mul_le_mul (by omega) (by omega) hcj1 (by omega)
        clear hcj
        generalize sumTo (fun j => ((j : Int) + 1) * cntJ ts j) k = s at *
        generalize cntJ ts k = z at *
        go_wp2_with fail
        refine HCK.out.mono ?_
        rintro e w5 ⟨rfl, hb5⟩
        have HR5 := Lib.hid ((HR4.out.below hb5).more hb5.size)
        have HB5 := Lib.hid (HB4.out.trans (hb5.mono HB4.out.size)); clear hb5 HR4 HB4
        go_wp2_with fail
        go_roundw
        case rel => exact ⟨k + 1, by omega, by go_num, by rw [HS.out], HB5.out, HR5.out⟩
        case measure => simp [intOf]; omega
      · have hk' : k = 25 := by omega
        subst hk'
        rw [HSUM.out] at *
        have HTK := Lib.hid (HTW.out wr HR4.out)
        rw [HWS.out] at HTK
        go_wp2_with fail
        refine HTK.out.mono ?_
        rintro e w6 ⟨rfl, hb6⟩
        have HB6 := Lib.hid (HB4.out.trans (hb6.mono HB4.out.size)); clear hb6
        go_wp2_with fail
        go_ret
        exact ⟨rfl, HB6.out⟩

end Go.Proofs.Ytjglgcgkmfbdpaa
