/- Draws of ascending numbers. -/
import Derived.Test.YtmmnkdjibdlcjaaBlP
import Derived.Deep.RegionWith
import Derived.Deep.DrawnRows
namespace Go.Proofs.Ytmmnkdjibdlcjaa
open Go.RowKit
attribute [local go_sem ↓] Go.wp_at_zero Go.wp_at_succ

def NumsPost (T : TypeId) (w : World) (B R N : Nat) (e : Ending) (w' : World) : Prop :=
  ∃ A c n xs, e = .returned (.slice A n c) ∧ LstI w' w.heap.size A n c xs ∧ n ≤ 8 ∧ InB xs 3000 ∧ Rd T w' B R N ∧ w.grownBy w' (some R)
theorem inB_snoc {xs : List Int} {m x : Int} (h : InB xs m) (hx : 0 ≤ x ∧ x ≤ m) : InB (xs ++ [x]) m := by
  intro t ht
  simp only [List.mem_append, List.mem_singleton] at ht
  rcases ht with ht | rfl
  · exact h t ht
  · exact hx

set_option maxHeartbeats 2000000 in
theorem l93Numbers_any (B R N : Nat) (w : World) (hN : N ≤ 800000) (hR : Rd 55 w B R N) :
    Calls Try.prog 22 #[.pointer (some ⟨R, 0, none⟩)] w (NumsPost 55 w B R (N + 20)) := by
  have hlt := hR.lt
  have hle := hR.le
  have HR0 := Lib.hid (hR.alloc (.cells #[] 3))
  clear hR
  go_enter Try.func22, Try.ntmps22
  go_wp2_with fail
  refine (pick_any B R N 9 _ (by omega) (by omega) (by omega) HR0.out).mono ?_
  rintro e w1 ⟨m, rfl, hv1, hR1, hg1⟩
  have b1 := hv1.lt (by omega)
  have HO := Lib.hid (own_gb (own_empty w 3 1) hg1 hlt)
  have HR1 := Lib.hid hR1; clear hR1 hv1
  have HG := Lib.hid (gb_trans (gb_alloc (gb_refl w _) _) hg1); clear hg1 HR0
  obtain ⟨m, rfl⟩ := Int.eq_ofNat_of_zero_le b1.1
  go_wp2_with fail
  refine (pick_any B R (N + 1) 50 _ (by omega) (by omega) (by omega) HR1.out).mono ?_
  rintro e w2 ⟨p0, rfl, hv2, hR2, hg2⟩
  have b2 := hv2.lt (by omega)
  replace HO := Lib.hid (own_gb HO.out hg2 hlt)
  have HR2 := Lib.hid hR2; clear hR2 hv2
  replace HG := Lib.hid (gb_trans HG.out hg2); clear hg2 HR1
  go_wp2_with fail
  go_loopw [3, 5, 6] (fun v p i wr => ∃ (k : Nat) (A : Option Addr) (c : Nat) (xs : List Int) (x : Int), k ≤ m ∧ i = .int .i64 k ∧ v = .slice A k c ∧ p = .int .i64 x ∧ (0 ≤ x ∧ x ≤ 50 + 300 * k) ∧ k ≤ c ∧ xs.length = k ∧ InB xs 3000 ∧ wr.ownsRow w.heap.size 3 1 (.slice A k c) k (icells xs) ∧ Rd 55 wr B R (N + 2 + 2 * k) ∧ w.grownBy wr (some R)) (fun _ _ i _ => m - (intOf i).toNat)
  case atStart => exact ⟨0, _, _, [], p0, Nat.zero_le _, rfl, rfl, rfl, by omega, Nat.le_refl _, rfl, fun t ht => by simp at ht, HO.out, HR2.out, HG.out⟩
  case round =>
    clear b2 HO HR2 HG
    obtain ⟨k, A, c, xs, x, hk, rfl, rfl, rfl, hx, hkc, hts, hin, hown, hRr, hgr⟩ := hrel
    have HW := Lib.hid hown; clear hown
    have HRR := Lib.hid hRr; clear hRr
    have HGR := Lib.hid hgr; clear hgr
    have HT := Lib.hid hts; clear hts
    have HIN := Lib.hid hin; clear hin
    by_cases hkm : k < m
    · have s3 := HGR.out.size
      go_wp2_with (at_builtin; refine wpList_app1 _ rfl (.tmp 17) (.tmp 19) _ rfl w.heap.size 3 1 8 elInt A c k (icells xs) rfl (HW.out.alloc _) wr.heap.size #[.int .i64 x] rfl (Blk.new wr _ _) rfl ?h1 (by omega) (by omega) (by simp; omega) ?_)
      case h1 => simp [Value.oneCell']
      intro A' c' w4 hown4 hc4 hb4
      have HW4 := Lib.hid hown4; clear hown4
      have HR4 := Lib.hid ((HRR.out.alloc (.cells #[.int .i64 x] 3)).sub hb4 hlt)
      have HG4 := Lib.hid (gb_base (gb_alloc HGR.out (.cells #[.int .i64 x] 3)) hb4)
      clear hb4 HRR HGR HW
      go_wp2_with fail
      refine (pick_any B R _ 12 _ (by omega) (by omega) (by omega) HR4.out).mono ?_
      rintro e w5 ⟨d1, rfl, hv5, hR5, hg5⟩
      have b5 := hv5.lt (by omega)
      have HW5 := Lib.hid (own_gb HW4.out hg5 hlt)
      have HG5 := Lib.hid (gb_trans HG4.out hg5)
      have HR5 := Lib.hid (hR5.alloc (.cells #[.int .i64 1, .int .i64 1, .int .i64 20] 3))
      have HL5 := Lib.hid (Blk.new w5 3 #[.int .i64 1, .int .i64 1, .int .i64 20])
      have l5 := hR5.lt
      clear hv5 hR5 hg5 HW4 HG4 HR4
      have HW6 := Lib.hid (own_below HW5.out ((Below.refl _ _).alloc (Nat.le_refl _) (.cells #[.int .i64 1, .int .i64 1, .int .i64 20] 3)))
      have HG6 := Lib.hid (gb_alloc HG5.out (.cells #[.int .i64 1, .int .i64 1, .int .i64 20] 3))
      clear HW5 HG5
      go_wp2_with fail
      refine (pick_any B R _ 3 _ (by omega) (by omega) (by omega) HR5.out).mono ?_
      rintro e w6 ⟨d2, rfl, hv6, hR6, hg6⟩
      have b6 := hv6.lt (by omega)
      have HW7 := Lib.hid (own_gb HW6.out hg6 hlt)
      have HG7 := Lib.hid (gb_trans HG6.out hg6)
      have HR7 := Lib.hid hR6
      obtain ⟨j, rfl⟩ : ∃ j : Nat, d2 = j := ⟨d2.toNat, by omega⟩
      obtain ⟨f, hf, kf⟩ : ∃ f : Int, w6.cell? ⟨w5.heap.size, j, none⟩ = some (.int .i64 f) ∧ (1 ≤ f ∧ f ≤ 20) := by
        rw [(HL5.out.gb hg6 (by omega)).cell]
        have hj : j = 0 ∨ j = 1 ∨ j = 2 := by omega
        rcases hj with rfl | rfl | rfl <;> exact ⟨_, rfl, by omega, by omega⟩
      have i1 : (0 : Int) ≤ (j : Int) := by omega
      have i2 : (j : Int) < 3 := by omega
      have m1 : 0 ≤ d1 * f ∧ d1 * f ≤ 11 * 20 := ⟨Int.mul_nonneg (by omega) (by omega), Int.mul_le_mul (by omega) (by omega) (by omega) (by omega)⟩
      clear hv6 hR6 hg6 HW6 HG6 HR5 HL5
      go_wp2_with fail
      clear i1 i2 hf
      go_roundw
      case rel =>
        refine ⟨k + 1, A', c', xs ++ [x], x + 1 + d1 * f, by omega, by go_num, rfl, rfl, by omega, hc4, by simp [HT.out], inB_snoc HIN.out ⟨hx.1, by omega⟩, ?_, HR7.out.more (by omega), HG7.out⟩
        rw [icells_snoc]; exact HW7.out
      case measure => simp [intOf]; omega
    · obtain rfl : k = m := by omega
      by_cases h1 : 1 < k
      · have i0 : (1 : Int) < (k : Int) := by omega
        go_wp2_with fail
        refine (pick_any B R _ 30 _ (by omega) (by omega) (by omega) HRR.out).mono ?_
        rintro e w4 ⟨s, rfl, hv4, hR4, hg4⟩
        have HW4 := Lib.hid (own_gb HW.out hg4 hlt)
        have HR4 := Lib.hid (hR4.more (N' := N + 20) (by omega)); clear hR4 hv4
        have HG4 := Lib.hid (gb_trans HGR.out hg4); clear hg4 HRR HGR HW
        have HL : Hid (LstI w4 w.heap.size A k c xs) := lstI_own hkc HT.out HW4.out
        by_cases hs : s = 0
        · subst hs
          obtain ⟨g, cur, rfl, hg, hblk, hfl⟩ := own_blk HW4.out (by omega)
          obtain ⟨b', off', e', hb', k1⟩ := HL.out.reads.int (show 0 < k by omega)
          cases e'
          obtain ⟨b', off', e', hb', k2⟩ := HL.out.reads.int (show 1 < k by omega)
          cases e'
          simp only [Nat.zero_add] at k1 k2
          have f4 := hblk.frozen 1
          have h0b := HIN.out.at (k := 0) (by rw [HT.out]; omega)
          have HN : Hid (LstI (w4.setCell ⟨g, 1, none⟩ (.int .i64 (gi xs 0))) w.heap.size (some ⟨g, 0, none⟩) k c (xs.set 1 (gi xs 0))) := by
            refine ⟨hkc, by simp [HT.out], ?_, HL.out.2.2.2⟩
            rw [icells_set]
            exact (hfl.set 1 _).reads (hblk.set 1 _) (by rw [List.length_set, icells_len, HT.out]; omega)
          have HI2 : Hid (InB (xs.set 1 (gi xs 0)) 3000) := fun t ht => by
            rcases List.mem_or_eq_of_mem_set ht with h | rfl
            · exact HIN.out t h
            · exact h0b
          clear hfl hblk
          generalize gi xs 0 = y0 at *
          go_wp2_with fail
          go_ret
          exact ⟨_, c, k, _, rfl, HN.out, by omega, HI2.out, HR4.out.setCell (by show B ≤ g; omega) (by show g ≠ R; omega) _, gb_setCell HG4.out (.inr hg) _⟩
        · have e1 : (s == 0) = false := by simpa using hs
          go_wp2_with fail
          go_ret
          exact ⟨_, c, k, _, rfl, HL.out, by omega, HIN.out, HR4.out, HG4.out⟩
      · have i0 : decide ((1 : Int) < (k : Int)) = false := decide_eq_false (by omega)
        have HL : Hid (LstI wr w.heap.size A k c xs) := lstI_own hkc HT.out HW.out
        go_wp2_with fail
        go_ret
        exact ⟨_, c, k, _, rfl, HL.out, by omega, HIN.out, HRR.out.more (by omega), HGR.out⟩

def DrawNumsPost (w : World) (e : Ending) (w' : World) : Prop :=
  ∃ A c n xs, e = .returned (.slice A n c) ∧ LstI w' w.heap.size A n c xs ∧ n ≤ 8 ∧ InB xs 3000 ∧ Below w.heap.size w w'
set_option maxHeartbeats 1000000 in
theorem DrawBlendMean_any (A : Option Addr) (n c : Nat) (w : World) (hm : n ≤ 140737488355328) (hc : n ≤ c) (hb : Bytes w w.heap.size A n) :
    Calls Try.prog 15 #[.slice A n c] w (DrawNumsPost w) := by
  have HB := Lib.hid hb; clear hb
  go_enter Try.func15, Try.ntmps15
  go_wp2_with fail
  refine (l6Open_any A n c w hm hc HB.out).mono ?_
  rintro e w1 ⟨rfl, hR1, hb1⟩
  have HB1 := Lib.hid hb1; have HR1 := Lib.hid hR1; clear hb1 hR1
  go_wp2_with fail
  refine (l93Numbers_any w.heap.size w.heap.size 0 w1 (by omega) HR1.out).mono ?_
  rintro e w2 ⟨A2, c2, n2, xs, rfl, hL, h8, hin, hR2, hg2⟩
  have HG := Lib.hid (below_of_gb HB1.out hg2 HB1.out.size (Nat.le_refl _))
  have HL := Lib.hid (hL.mono HB1.out.size)
  have HI := Lib.hid hin
  clear hg2 hR2 hL hin
  go_wp2_with fail
  go_ret
  exact ⟨A2, c2, n2, xs, rfl, HL.out, h8, HI.out, HG.out⟩
end Go.Proofs.Ytmmnkdjibdlcjaa
