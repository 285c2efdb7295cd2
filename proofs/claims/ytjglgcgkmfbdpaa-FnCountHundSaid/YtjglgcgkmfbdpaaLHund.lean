/- The walk of the law FnCountHund. -/
import Derived.Test.YtjglgcgkmfbdpaaL7
import Derived.Test.YtjglgcgkmfbdpaaHund
namespace Go.Proofs.Ytjglgcgkmfbdpaa
open Go.RowKit
attribute [local go_sem ↓] Go.wp_at_zero Go.wp_at_succ

theorem reads_pair (w : World) (e : TypeId) (a b : Value) (L : Nat) (h : Blk w L e #[a, b]) : Reads w w.heap.size 2 (some ⟨L, 0, none⟩) 1 [a, b] :=
  Filled.reads (cs := #[a, b]) (fun j u hj => by simpa using hj) h rfl

set_option maxHeartbeats 2000000 in
theorem fnCountHund_walk (A0 : Option Addr) (n0 c0 : Nat) (A1 : Option Addr) (n1 c1 : Nat) (w : World) (m0 : n0 ≤ maxLen) (d0 : n0 ≤ c0) (b0 : Bytes w w.heap.size A0 n0) (m1 : n1 ≤ maxLen) (d1 : n1 ≤ c1) (b1 : Bytes w w.heap.size A1 n1) :
    Calls Try.prog 10 #[.slice A0 n0 c0, .slice A1 n1 c1] w fun e w' => e = .returned (.bool true) ∧ Below w.heap.size w w' := by
  unfold maxLen at m0 m1
  have HB := Lib.hid b0; clear b0 b1
  have hB0 := Below.refl w.heap.size w
  by_cases h0 : 1048576 < n0
  · go_enter Try.func10, Try.ntmps10
    go_wp2_with fail
    go_ret
    exact ⟨rfl, hB0⟩
  by_cases h1 : 1048576 < n1
  · go_enter Try.func10, Try.ntmps10
    go_wp2_with fail
    go_ret
    exact ⟨rfl, hB0⟩
  clear hB0
  have hmod : (n1 : Int) % 3 = 0 ∨ (n1 : Int) % 3 = 1 ∨ (n1 : Int) % 3 = 2 := by omega
  have HMOD := Lib.hid hmod; clear hmod
  go_enter Try.func10, Try.ntmps10
  go_wp2_with fail
  refine (DrawCountLevels_any A0 n0 c0 w (by omega) d0 HB.out).mono ?_
  rintro e w1 ⟨A, c, n, ts, rfl, ⟨hnc, hts, hn5, hdr, hrd⟩, hb1⟩
  have HR1 := Lib.hid hrd
  have HB1 := Lib.hid hb1
  have HT := Lib.hid hts
  clear hb1 hrd hts hdr
  go_wp2_with fail
  refine (implCountLevels_any A n c ts w1 (by omega) HT.out HR1.out).mono ?_
  rintro e w2 ⟨rfl, hb2⟩
  have HR2 := Lib.hid ((HR1.out.below hb2).more hb2.size)
  have HB2 := Lib.hid (HB1.out.trans (hb2.mono HB1.out.size)); clear hb2 HR1 HB1
  have HSP := Lib.hid (specCountLevels_any A n c ts w2 (by omega) HT.out HR2.out)
  cases hall : ts.all tvB
  · rw [ctL_neg hall] at HSP ⊢
    clear hall
    go_wp2_with fail
    refine HSP.out.mono ?_
    rintro e w3 ⟨rfl, hb3⟩
    have HB3 := Lib.hid (HB2.out.trans (hb3.mono HB2.out.size)); clear hb3
    go_wp2_with fail
    go_ret
    exact ⟨rfl, HB3.out⟩
  · rw [ctL_all hall] at HSP ⊢
    have hc0 := (cntLev_le ts).1
    clear hall
    generalize cntLev ts = q at *
    go_wp2_with fail
    refine HSP.out.mono ?_
    rintro e w3 ⟨rfl, hb3⟩
    have HB3 := Lib.hid (HB2.out.trans (hb3.mono HB2.out.size)); clear hb3 HR2 HB2 HSP
    have eq : (q == q) = true := by simp
    rcases HMOD.out with hmod | hmod | hmod
    · go_wp2_with fail
      refine (implHundTerm_any 0 1 _ (by omega) (by omega)).mono ?_
      rintro e w4 ⟨rfl, hb4⟩
      rw [show hundT 0 1 = (1, 0) from rfl]
      have HB4 := Lib.hid (HB3.out.trans (hb4.mono HB3.out.size)); clear hb4
      have HB6 := Lib.hid ((HB4.out.alloc HB4.out.size (.cells #[.int .i64 1, .int .i64 0] 38)).alloc (by simp; exact Nat.le_succ_of_le HB4.out.size) (.cells #[.int .i64 1, .int .i64 0] 38))
      have HX := Lib.hid (Blk.new w4 38 #[.int .i64 1, .int .i64 0])
      have HRD : Hid (Reads ((w4.alloc (.cells #[.int .i64 1, .int .i64 0] 38)).alloc (.cells #[.int .i64 1, .int .i64 0] 38)) ((w4.alloc (.cells #[.int .i64 1, .int .i64 0] 38)).alloc (.cells #[.int .i64 1, .int .i64 0] 38)).heap.size 2 (some ⟨w4.heap.size + 1, 0, none⟩) 1 (tcells [(1, 0)])) :=
        reads_pair _ 38 _ _ _ (by have := Blk.new (w4.alloc (.cells #[.int .i64 1, .int .i64 0] 38)) 38 #[.int .i64 1, .int .i64 0]; rwa [World.size_alloc] at this)
      go_wp2_with fail
      refine (implCountLevels_any _ 1 1 [(1, 0)] _ (by omega) rfl HRD.out).mono ?_
      rintro e w5 ⟨rfl, hb5⟩
      rw [show ctL [(1, 0)] = 1 from by decide +kernel]
      have HB5 := Lib.hid (HB6.out.trans (hb5.mono HB6.out.size))
      obtain ⟨x1, x2, _, _⟩ := blk2 ((HX.out.alloc (.cells #[.int .i64 1, .int .i64 0] 38)).sub hb5)
      clear hb5
      go_wp2_with fail
      go_ret
      exact ⟨rfl, HB5.out⟩
    · go_wp2_with fail
      refine (implHundTerm_any 1 3 _ (by omega) (by omega)).mono ?_
      rintro e w4 ⟨rfl, hb4⟩
      rw [show hundT 1 3 = (3, 0) from rfl]
      have HB4 := Lib.hid (HB3.out.trans (hb4.mono HB3.out.size)); clear hb4
      have HB6 := Lib.hid ((HB4.out.alloc HB4.out.size (.cells #[.int .i64 3, .int .i64 0] 38)).alloc (by simp; exact Nat.le_succ_of_le HB4.out.size) (.cells #[.int .i64 3, .int .i64 0] 38))
      have HX := Lib.hid (Blk.new w4 38 #[.int .i64 3, .int .i64 0])
      have HRD : Hid (Reads ((w4.alloc (.cells #[.int .i64 3, .int .i64 0] 38)).alloc (.cells #[.int .i64 3, .int .i64 0] 38)) ((w4.alloc (.cells #[.int .i64 3, .int .i64 0] 38)).alloc (.cells #[.int .i64 3, .int .i64 0] 38)).heap.size 2 (some ⟨w4.heap.size + 1, 0, none⟩) 1 (tcells [(3, 0)])) :=
        reads_pair _ 38 _ _ _ (by have := Blk.new (w4.alloc (.cells #[.int .i64 3, .int .i64 0] 38)) 38 #[.int .i64 3, .int .i64 0]; rwa [World.size_alloc] at this)
      go_wp2_with fail
      refine (implCountLevels_any _ 1 1 [(3, 0)] _ (by omega) rfl HRD.out).mono ?_
      rintro e w5 ⟨rfl, hb5⟩
      rw [show ctL [(3, 0)] = 1 from by decide +kernel]
      have HB5 := Lib.hid (HB6.out.trans (hb5.mono HB6.out.size))
      obtain ⟨x1, x2, _, _⟩ := blk2 ((HX.out.alloc (.cells #[.int .i64 3, .int .i64 0] 38)).sub hb5)
      clear hb5
      go_wp2_with fail
      go_ret
      exact ⟨rfl, HB5.out⟩
    · go_wp2_with fail
      refine (implHundTerm_any 2 5 _ (by omega) (by omega)).mono ?_
      rintro e w4 ⟨rfl, hb4⟩
      rw [show hundT 2 5 = (5, 0) from rfl]
      have HB4 := Lib.hid (HB3.out.trans (hb4.mono HB3.out.size)); clear hb4
      have HB6 := Lib.hid ((HB4.out.alloc HB4.out.size (.cells #[.int .i64 5, .int .i64 0] 38)).alloc (by simp; exact Nat.le_succ_of_le HB4.out.size) (.cells #[.int .i64 5, .int .i64 0] 38))
      have HX := Lib.hid (Blk.new w4 38 #[.int .i64 5, .int .i64 0])
      have HRD : Hid (Reads ((w4.alloc (.cells #[.int .i64 5, .int .i64 0] 38)).alloc (.cells #[.int .i64 5, .int .i64 0] 38)) ((w4.alloc (.cells #[.int .i64 5, .int .i64 0] 38)).alloc (.cells #[.int .i64 5, .int .i64 0] 38)).heap.size 2 (some ⟨w4.heap.size + 1, 0, none⟩) 1 (tcells [(5, 0)])) :=
        reads_pair _ 38 _ _ _ (by have := Blk.new (w4.alloc (.cells #[.int .i64 5, .int .i64 0] 38)) 38 #[.int .i64 5, .int .i64 0]; rwa [World.size_alloc] at this)
      go_wp2_with fail
      refine (implCountLevels_any _ 1 1 [(5, 0)] _ (by omega) rfl HRD.out).mono ?_
      rintro e w5 ⟨rfl, hb5⟩
      rw [show ctL [(5, 0)] = 1 from by decide +kernel]
      have HB5 := Lib.hid (HB6.out.trans (hb5.mono HB6.out.size))
      obtain ⟨x1, x2, _, _⟩ := blk2 ((HX.out.alloc (.cells #[.int .i64 5, .int .i64 0] 38)).sub hb5)
      clear hb5
      go_wp2_with fail
      go_ret
      exact ⟨rfl, HB5.out⟩
end Go.Proofs.Ytjglgcgkmfbdpaa
