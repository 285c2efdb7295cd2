/- Draws from a code: lists of terms with a number. -/
import Derived.Test.YtjglgcgkmfbdpaaDraw2
import Derived.Test.YtjglgcgkmfbdpaaWords2
import Derived.Deep.RegionWith
import Derived.Deep.RegionHeld3
import Derived.Deep.DrawnRows
namespace Go.Proofs.Ytjglgcgkmfbdpaa
open Go.RowKit
attribute [local go_sem ↓] Go.wp_at_zero Go.wp_at_succ

/-- The list that was drawn. -/
def Lst (w : World) (A : Option Addr) (n c : Nat) (ts : List T2) : Prop := n ≤ c ∧ ts.length = n ∧ n ≤ 5 ∧ (∀ t ∈ ts, Drawn t) ∧ Reads w w.heap.size 2 A n (tcells ts)

def DrawTermsPost (w : World) (e : Ending) (w' : World) : Prop :=
  ∃ A c n ts, e = .returned (.slice A n c) ∧ Lst w' A n c ts ∧ Below w.heap.size w w'

set_option maxHeartbeats 1000000 in
theorem DrawCountLevels_any (A : Option Addr) (n c : Nat) (w : World) (hm : n ≤ 140737488355328) (hc : n ≤ c) (hb : Bytes w w.heap.size A n) :
    Calls Try.prog 22 #[.slice A n c] w (DrawTermsPost w) := by
  have HB := Lib.hid hb; clear hb
  go_enter Try.func22, Try.ntmps22
  go_wp2_with fail
  refine (l6Open_any A n c w hm hc HB.out).mono ?_
  rintro e w1 ⟨rfl, hR1, hb1⟩
  have HB1 := Lib.hid hb1; have HR1 := Lib.hid hR1; clear hb1 hR1
  go_wp2_with fail
  refine (l92Terms_any w.heap.size w.heap.size 0 w1 (by omega) HR1.out).mono ?_
  rintro e w2 ⟨A2, c2, n2, ts, rfl, hnc, hts, hn5, hdr, hown, hR2, hg2⟩
  have HL : Hid (Lst w2 A2 n2 c2 ts) := ⟨hnc, hts, hn5, hdr, own_reads hown⟩
  have HG := Lib.hid (below_of_gb HB1.out hg2 HB1.out.size (Nat.le_refl _))
  clear hg2 hR2 hown hdr hts
  go_wp2_with fail
  go_ret
  exact ⟨A2, c2, n2, ts, rfl, HL.out, HG.out⟩

def DrawTermsNumPost (w : World) (e : Ending) (w' : World) : Prop :=
  ∃ A c n ts s, e = .returned (.tuple #[.slice A n c, .int .i64 s]) ∧ Lst w' A n c ts ∧ -100 ≤ s ∧ s ≤ 100 ∧ Below w.heap.size w w'

set_option maxHeartbeats 1000000 in
theorem DrawCountSpins_any (A : Option Addr) (n c : Nat) (w : World) (hm : n ≤ 140737488355328) (hc : n ≤ c) (hb : Bytes w w.heap.size A n) :
    Calls Try.prog 17 #[.slice A n c] w (DrawTermsNumPost w) := by
  have HB := Lib.hid hb; clear hb
  go_enter Try.func17, Try.ntmps17
  go_wp2_with fail
  refine (l6Open_any A n c w hm hc HB.out).mono ?_
  rintro e w1 ⟨rfl, hR1, hb1⟩
  have HB1 := Lib.hid hb1; have HR1 := Lib.hid hR1; clear hb1 hR1
  go_wp2_with fail
  refine (l92Terms_any w.heap.size w.heap.size 0 w1 (by omega) HR1.out).mono ?_
  rintro e w2 ⟨A2, c2, n2, ts, rfl, hnc, hts, hn5, hdr, hown, hR2, hg2⟩
  have hlt1 := HR1.out.lt
  have HR2 := Lib.hid hR2
  have HG := Lib.hid (below_of_gb HB1.out hg2 HB1.out.size (Nat.le_refl _))
  have HO := Lib.hid hown
  have HTS := Lib.hid hts
  have HDR := Lib.hid hdr
  clear hg2 hR2 hown hdr hts
  by_cases h0 : n2 = 0
  · subst h0
    go_wp2_with fail
    refine (pick_any w.heap.size w.heap.size 21 6 w2 (by omega) (by omega) (by omega) HR2.out).mono ?_
    rintro e w3 ⟨v3, rfl, hv3, hR3, hg3⟩
    have b3 := hv3.lt (by omega)
    have HG3 := Lib.hid (below_of_gb HG.out hg3 HG.out.size (Nat.le_refl _))
    have HR := Lib.hid (own_reads (own_gb HO.out hg3 hlt1))
    clear hg3 hR3
    go_wp2_with fail
    go_ret2
    exact ⟨A2, c2, 0, ts, v3, rfl, ⟨hnc, HTS.out, hn5, HDR.out, HR.out⟩, by omega, by omega, HG3.out⟩
  · go_wp2_with fail
    refine (pick_any w.heap.size w.heap.size 21 4 w2 (by omega) (by omega) (by omega) HR2.out).mono ?_
    rintro e w3 ⟨v3, rfl, hv3, hR3, hg3⟩
    have b3 := hv3.lt (by omega)
    have HG3 := Lib.hid (below_of_gb HG.out hg3 HG.out.size (Nat.le_refl _))
    have HO3 := Lib.hid (own_gb HO.out hg3 hlt1)
    have HR3 := Lib.hid hR3
    clear hg3 hR3 HO HR2 HG
    by_cases h1 : 0 < v3
    · go_wp2_with fail
      go_region_with (go_at_call 31; refine (pick_any w.heap.size w.heap.size 22 n2 _ (by omega) (by omega) (by omega) HR3.out.drew).mono ?_; rintro e w4 ⟨v4, rfl, hv4, hR4, hg4⟩; have b4 := hv4.lt (by omega); obtain ⟨v4, rfl⟩ := Int.eq_ofNat_of_zero_le b4.1; obtain ⟨bb, off, x, y, rfl, hbb, k1, k2, H3, H4⟩ := (own_reads (own_gb (ownsRow_drew' HO3.out) hg4 hlt1)).term (k := v4) (by omega))
      have hm4 := HDR.out _ (List.mem_of_getElem? H3.out)
      have HG4 := Lib.hid (below_of_gb HG3.out.drew hg4 HG3.out.size (Nat.le_refl _))
      have HR := Lib.hid (own_reads (own_gb (ownsRow_drew' HO3.out) hg4 hlt1))
      clear hg4 hR4
      go_wp2_with fail
      go_ret2
      exact ⟨_, c2, n2, ts, x, rfl, ⟨hnc, HTS.out, hn5, HDR.out, HR.out⟩, by have := hm4.1; simp at this; omega, by have := hm4.2.1; simp at this; omega, HG4.out⟩
    · have h2 : (decide (0 < v3)) = false := by simpa using h1
      go_wp2_with fail
      refine (pick_any w.heap.size w.heap.size 22 6 w3 (by omega) (by omega) (by omega) HR3.out).mono ?_
      rintro e w4 ⟨v4, rfl, hv4, hR4, hg4⟩
      have b4 := hv4.lt (by omega)
      have HG4 := Lib.hid (below_of_gb HG3.out hg4 HG3.out.size (Nat.le_refl _))
      have HR := Lib.hid (own_reads (own_gb HO3.out hg4 hlt1))
      clear hg4 hR4
      go_wp2_with fail
      go_ret2
      exact ⟨A2, c2, n2, ts, v4, rfl, ⟨hnc, HTS.out, hn5, HDR.out, HR.out⟩, by omega, by omega, HG4.out⟩
end Go.Proofs.Ytjglgcgkmfbdpaa
