/- Draws from a code: a list of terms with an angular momentum. -/
import Derived.Test.YtjglgcgkmfbdpaaDraw3
import Derived.Test.YtjglgcgkmfbdpaaSmall
namespace Go.Proofs.Ytjglgcgkmfbdpaa
open Go.RowKit

set_option maxHeartbeats 1000000 in
theorem DrawCountJ_any (A : Option Addr) (n c : Nat) (w : World) (hm : n ≤ 140737488355328) (hc : n ≤ c) (hb : Bytes w w.heap.size A n) :
    Calls Try.prog 23 #[.slice A n c] w (DrawTermsNumPost w) := by
  have HB := Lib.hid hb; clear hb
  go_enter Try.func23, Try.ntmps23
  go_wp2_with fail
  refine (l6Open_any A n c w hm hc HB.out).mono ?_
  rintro e w1 ⟨rfl, hR1, hb1⟩
  have HB1 := Lib.hid hb1; have HR1 := Lib.hid hR1; clear hb1 hR1
  go_wp2_with fail
  refine (l92Terms_any w.heap.size w.heap.size 0 w1 (by omega) HR1.out).mono ?_
  rintro e w2 ⟨A2, c2, n2, ts, rfl, hnc, hts, hn5, hdr, hown, hR2, hg2⟩
  have hlt1 := HR1.out.lt
  have HR2 := Lib.hid hR2
  have HG := Lib.hid (below_of_gb HB1.out hg2 HB1.out.size (Nat.le_refl _))
  have HO := Lib.hid hown
  have HTS := Lib.hid hts
  have HDR := Lib.hid hdr
  clear hg2 hR2 hown hdr hts
  by_cases h0 : n2 = 0
  · subst h0
    go_wp2_with fail
    refine (pick_any w.heap.size w.heap.size 21 12 w2 (by omega) (by omega) (by omega) HR2.out).mono ?_
    rintro e w3 ⟨v3, rfl, hv3, hR3, hg3⟩
    have b3 := hv3.lt (by omega)
    have HG3 := Lib.hid (below_of_gb HG.out hg3 HG.out.size (Nat.le_refl _))
    have HR := Lib.hid (own_reads (own_gb HO.out hg3 hlt1))
    clear hg3 hR3
    go_wp2_with fail
    go_ret2
    exact ⟨A2, c2, 0, ts, v3, rfl, ⟨hnc, HTS.out, hn5, HDR.out, HR.out⟩, by omega, by omega, HG3.out⟩
  · go_wp2_with fail
    refine (pick_any w.heap.size w.heap.size 21 4 w2 (by omega) (by omega) (by omega) HR2.out).mono ?_
    rintro e w3 ⟨v3, rfl, hv3, hR3, hg3⟩
    have b3 := hv3.lt (by omega)
    have HG3 := Lib.hid (below_of_gb HG.out hg3 HG.out.size (Nat.le_refl _))
    have HO3 := Lib.hid (own_gb HO.out hg3 hlt1)
    have HR3 := Lib.hid hR3
    clear hg3 hR3 HO HR2 HG
    by_cases h1 : 0 < v3
    · go_wp2_with fail
      refine (pick_any w.heap.size w.heap.size 22 n2 _ (by omega) (by omega) (by omega) HR3.out).mono ?_
      rintro e w4 ⟨v4, rfl, hv4, hR4, hg4⟩
      have b4 := hv4.lt (by omega)
      obtain ⟨v4, rfl⟩ := Int.eq_ofNat_of_zero_le b4.1
      obtain ⟨bb, off, x, y, rfl, hbb, k1, k2, H3, H4⟩ := (own_reads (own_gb HO3.out hg4 hlt1)).term (k := v4) (by omega)
      have hm4 := HDR.out _ (List.mem_of_getElem? H3.out)
      have dx0 := hm4.1
      have dx1 := hm4.2.1
      have dy0 := hm4.2.2.1
      have dy1 := hm4.2.2.2
      simp only at dx0 dx1 dy0 dy1
      have HG4 := Lib.hid ((below_of_gb HG3.out hg4 HG3.out.size (Nat.le_refl _)))
      have HR := Lib.hid (own_reads (own_gb HO3.out hg4 hlt1))
      clear hg4 hR4 hm4
      go_wp2_with (go_at_call 38; refine (l1Abs_any _ _ (by omega) (by omega)).mono ?_; rintro e w' ⟨rfl, rfl⟩)
      go_ret2
      exact ⟨_, c2, n2, ts, _, rfl, ⟨hnc, HTS.out, hn5, HDR.out, (HR.out.keep fun p hp => World.cell?_alloc_lt w4 _ p hp).more (by simp)⟩, by omega, by omega, HG4.out.alloc HG4.out.size _⟩
    · have h2 : (decide (0 < v3)) = false := by simpa using h1
      go_wp2_with fail
      refine (pick_any w.heap.size w.heap.size 22 12 w3 (by omega) (by omega) (by omega) HR3.out).mono ?_
      rintro e w4 ⟨v4, rfl, hv4, hR4, hg4⟩
      have b4 := hv4.lt (by omega)
      have HG4 := Lib.hid (below_of_gb HG3.out hg4 HG3.out.size (Nat.le_refl _))
      have HR := Lib.hid (own_reads (own_gb HO3.out hg4 hlt1))
      clear hg4 hR4
      go_wp2_with fail
      go_ret2
      exact ⟨A2, c2, n2, ts, v4, rfl, ⟨hnc, HTS.out, hn5, HDR.out, HR.out⟩, by omega, by omega, HG4.out⟩
end Go.Proofs.Ytjglgcgkmfbdpaa
