/- The walk of the law FnCountSort. -/
import Derived.Test.YtjglgcgkmfbdpaaL7
import Derived.Test.YtjglgcgkmfbdpaaTs5
namespace Go.Proofs.Ytjglgcgkmfbdpaa
open Go.RowKit

set_option maxHeartbeats 1000000 in
theorem fnCountSort_walk (A0 : Option Addr) (n0 c0 : Nat) (A1 : Option Addr) (n1 c1 : Nat) (w : World) (m0 : n0 ≤ maxLen) (d0 : n0 ≤ c0) (b0 : Bytes w w.heap.size A0 n0) (m1 : n1 ≤ maxLen) (_d1 : n1 ≤ c1) (_b1 : Bytes w w.heap.size A1 n1) :
    Calls Try.prog 11 #[.slice A0 n0 c0, .slice A1 n1 c1] w fun e w' => e = .returned (.bool true) ∧ Below w.heap.size w w' := by
  unfold maxLen at m0 m1
  have HB := Lib.hid b0; clear b0
  have hB0 := Below.refl w.heap.size w
  by_cases h0 : 1048576 < n0
  · go_enter Try.func11, Try.ntmps11
    go_wp2_with fail
    go_ret
    exact ⟨rfl, hB0⟩
  by_cases h1 : 1048576 < n1
  · go_enter Try.func11, Try.ntmps11
    go_wp2_with fail
    go_ret
    exact ⟨rfl, hB0⟩
  clear hB0
  go_enter Try.func11, Try.ntmps11
  go_wp2_with fail
  refine (DrawCountLevels_any A0 n0 c0 w (by omega) d0 HB.out).mono ?_
  rintro e w1 ⟨A, c, n, ts, rfl, ⟨hnc, hts, hn5, hdr, hrd⟩, hb1⟩
  have HR1 := Lib.hid hrd
  have HB1 := Lib.hid hb1
  have HT := Lib.hid hts
  clear hb1 hrd hts hdr
  go_wp2_with fail
  refine (implCountLevels_any A n c ts w1 (by omega) HT.out HR1.out).mono ?_
  rintro e w2 ⟨rfl, hb2⟩
  have HR2 := Lib.hid ((HR1.out.below hb2).more hb2.size)
  have HB2 := Lib.hid (HB1.out.trans (hb2.mono HB1.out.size)); clear hb2 HR1 HB1
  have HSP := Lib.hid (specCountLevels_any A n c ts w2 (by omega) HT.out HR2.out)
  cases hall : ts.all tvB
  · rw [ctL_neg hall] at HSP ⊢
    clear hall
    go_wp2_with fail
    refine HSP.out.mono ?_
    rintro e w3 ⟨rfl, hb3⟩
    have HB3 := Lib.hid (HB2.out.trans (hb3.mono HB2.out.size)); clear hb3
    go_wp2_with fail
    go_ret
    exact ⟨rfl, HB3.out⟩
  have hc0 : 0 ≤ ctL ts := by rw [ctL_all hall]; exact (cntLev_le ts).1
  have HSO := Lib.hid (fun W h => termsSort_any A n c ts W (by omega) HT.out h hall)
  have HCL := Lib.hid (fun W (A' : Option Addr) c' (ts' : List T2) (hp : ts'.Perm ts) h => by have h2 := implCountLevels_any A' n c' ts' W (by omega) (hp.length_eq.trans HT.out) h; rw [ctL_perm hp] at h2; exact h2)
  have HCJ := Lib.hid (fun W (A' : Option Addr) c' (ts' : List T2) (hp : ts'.Perm ts) j h => by have h2 := implCountJ_any A' n c' ts' j W (by omega) (hp.length_eq.trans HT.out) h; rw [ctJ_perm hp] at h2; exact h2)
  clear hall
  generalize ctL ts = q at *
  have e1 : (q == q) = true := by simp
  have e2 : (q != q) = false := by simp
  go_wp2_with fail
  refine HSP.out.mono ?_
  rintro e w3 ⟨rfl, hb3⟩
  have HR3 := Lib.hid ((HR2.out.below hb3).more hb3.size)
  have HB3 := Lib.hid (HB2.out.trans (hb3.mono HB2.out.size)); clear hb3 HR2 HB2 HSP
  go_wp2_with fail
  refine (HSO.out _ HR3.out).mono ?_
  rintro e w4 ⟨g, c', ts', rfl, hp, hnc', hr4, hb4⟩
  have HP := Lib.hid hp
  have HR4 := Lib.hid hr4
  have HQ4 := Lib.hid ((HR3.out.below hb4).more hb4.size)
  have HB4 := Lib.hid (HB3.out.trans (hb4.mono HB3.out.size)); clear hb4 hp hr4 HR3 HB3
  go_wp2_with fail
  refine (HCL.out _ _ _ _ HP.out HR4.out).mono ?_
  rintro e w5 ⟨rfl, hb5⟩
  have HR5 := Lib.hid ((HR4.out.below hb5).more hb5.size)
  have HQ5 := Lib.hid ((HQ4.out.below hb5).more hb5.size)
  have HB5 := Lib.hid (HB4.out.trans (hb5.mono HB4.out.size)); clear hb5 HR4 HB4 HQ4
  have HCK := Lib.hid (HCJ.out w5 _ c' ts' HP.out ((n1 : Int) % 12) HR5.out)
  have HCM := Lib.hid (fun W h => HCJ.out W A c ts (List.Perm.refl _) ((n1 : Int) % 12) h)
  generalize ctJ ts ((n1 : Int) % 12) = z at *
  have e3 : (z == z) = true := by simp
  go_wp2_with fail
  refine HCK.out.mono ?_
  rintro e w6 ⟨rfl, hb6⟩
  have HQ6 := Lib.hid ((HQ5.out.below hb6).more hb6.size)
  have HB6 := Lib.hid (HB5.out.trans (hb6.mono HB5.out.size)); clear hb6 HR5 HB5 HQ5
  go_wp2_with fail
  refine (HCM.out _ HQ6.out).mono ?_
  rintro e w7 ⟨rfl, hb7⟩
  have HB7 := Lib.hid (HB6.out.trans (hb7.mono HB6.out.size)); clear hb7
  go_wp2_with fail
  go_ret
  exact ⟨rfl, HB7.out⟩
end Go.Proofs.Ytjglgcgkmfbdpaa
