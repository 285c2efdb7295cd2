/- The walk of the law FnMarkShift. -/
import Derived.Test.YtogbjneldipnpaaMkSh2
import Derived.Test.YtogbjneldipnpaaMkSh3
import Derived.Test.YtogbjneldipnpaaLawKit
namespace Go.Proofs.Ytogbjneldipnpaa
open Go.RowKit
attribute [local go_sem ↓] Go.wp_at_zero Go.wp_at_succ

theorem mnV_shf {ms : List T2} {y p : Int} (hv : mvB ms = true) (hv2 : mvB (shf ms y) = true) (hp : gp ms 0 ≤ p) : mnV (shf ms y) (p + y) = mnV ms p := by
  have hn := (mvB_iff.1 hv).1
  have hl : (shf ms y).length = ms.length := by simp [shf]
  have hi : inB (p + y) (gp (shf ms y) 0) (gp (shf ms y) ((shf ms y).length - 1)) = inB p (gp ms 0) (gp ms (ms.length - 1)) := by
    rw [hl, (gp_shf (by omega)).1, (gp_shf (by omega)).1]
    unfold inB
    congr 1 <;> apply decide_eq_decide.2 <;> omega
  unfold mnV
  rw [hi, hv, hv2, numF_shf hv hv2 hp]

set_option maxHeartbeats 2000000 in
theorem fnMarkShift_walk (A : Option Addr) (n c : Nat) (A1 : Option Addr) (n1 c1' : Nat) (w : World) (hn : n ≤ maxLen) (hc : n ≤ c) (hb : Bytes w w.heap.size A n) (hn1 : n1 ≤ maxLen) (_ : n1 ≤ c1') (_ : Bytes w w.heap.size A1 n1) :
    Calls Try.prog 11 #[.slice A n c, .slice A1 n1 c1'] w fun e w' => e = .returned (.bool true) ∧ Below w.heap.size w w' := by
  unfold maxLen at hn hn1
  have HB := Lib.hid hb; clear hb
  have hB0 := Below.refl w.heap.size w
  by_cases hbig : 1048576 < n
  · go_enter Try.func11, Try.ntmps11
    go_wp2_with fail
    go_ret
    exact ⟨rfl, hB0⟩
  by_cases hbig1 : 1048576 < n1
  · go_enter Try.func11, Try.ntmps11
    go_wp2_with fail
    go_ret
    exact ⟨rfl, hB0⟩
  clear hB0
  go_enter Try.func11, Try.ntmps11
  go_wp2_with fail
  refine (DrawMarkShift_any A n c w (by omega) hc HB.out).mono ?_
  rintro e w1 ⟨A2, c1, m, ms, y, rfl, hL, hyy, hb1⟩
  obtain ⟨b, off, rfl⟩ := hL.form
  have hm1 : 1 ≤ m ∧ m ≤ 5 := ⟨hL.2.2.1, hL.2.2.2.1⟩
  have HML := Lib.hid hL.2.1
  have hRd := hL.2.2.2.2.2.1
  have HB1 := Lib.hid hb1; have HR1 := Lib.hid hRd; clear hb1 hRd hL hbig hbig1
  go_wp2_with fail
  refine (implMarkShift_any _ m c1 ms y w1 (by omega) HML.out HR1.out).mono ?_
  rintro e w2 ⟨⟨A3, c3, rfl, hr3⟩, hb2⟩
  have HR2 := Lib.hid ((HR1.out.below hb2).more hb2.size)
  have HZ2 := Lib.hid hr3
  have HB2 := Lib.hid (HB1.out.trans (hb2.mono HB1.out.size)); clear hb2 HR1 HB1 hr3
  go_wp2_with fail
  refine (specMarkShift_any _ m c1 ms y w2 (by omega) HML.out HR2.out).mono ?_
  rintro e w3 ⟨⟨A4, c4, rfl, hr4⟩, hb3⟩
  have HR3 := Lib.hid ((HR2.out.below hb3).more hb3.size)
  have HZ3 := Lib.hid ((HZ2.out.below hb3).more hb3.size)
  have HY3 := Lib.hid hr4
  have HB3 := Lib.hid (HB2.out.trans (hb3.mono HB2.out.size)); clear hb3 HR2 HB2 HZ2 hr4
  cases hok : (mvB ms && inB y (-100000) 100000 && mvB (shf ms y))
  · have hmr := msR_no hok
    rw [hmr] at HZ3 HY3 ⊢
    clear hok hmr
    have HS := Lib.hid (fun W (h : Below w3.heap.size w3 W) => sameMarks_same A3 A4 0 c3 c4 [] W (by omega) Reads.none_0 Reads.none_0)
    simp only [List.length_nil] at HZ3 HY3 ⊢
    go_wp2_with fail
    refine (HS.out _ (Below.refl _ _)).mono ?_
    rintro e w4 ⟨rfl, hb4⟩
    have HB4 := Lib.hid (HB3.out.trans (hb4.mono HB3.out.size))
    have HB34 := Lib.hid hb4; clear hb4
    go_wp2_with fail
    refine (HS.out _ HB34.out).mono ?_
    rintro e w5 ⟨rfl, hb5⟩
    have HB5 := Lib.hid (HB4.out.trans (hb5.mono HB4.out.size)); clear hb5
    go_wp2_with fail
    go_ret
    exact ⟨rfl, HB5.out⟩
  · have hmr : msR ms y = (shf ms y, true) := by unfold msR; rw [if_pos hok]
    simp only [Bool.and_eq_true, inB_iff] at hok
    obtain ⟨⟨hv, hyb⟩, hv2⟩ := hok
    rw [hmr] at HZ3 HY3 ⊢
    clear hmr
    have hl2 : (shf ms y).length = m := by simp [shf, HML.out]
    simp only [hl2] at HZ3 HY3 ⊢
    have HS := Lib.hid (sameMarks_same A3 A4 m c3 c4 (shf ms y) w3 (by omega) HZ3.out HY3.out)
    have hb0 := (mvB_bd hv (k := 0) (by rw [HML.out]; omega)).1
    have hmod0 : 0 ≤ (n1 : Int) % 400 := Int.emod_nonneg _ (by omega)
    have hmod1 : (n1 : Int) % 400 < 400 := Int.emod_lt_of_pos _ (by omega)
    obtain ⟨N, ok, hV⟩ : ∃ (N : Int) (ok : Bool), mnV ms (gp ms 0 + (n1 : Int) % 400) = .tuple #[.int .i64 N, .bool ok] := by
      unfold mnV; split <;> exact ⟨_, _, rfl⟩
    have hV2 := (mnV_shf (y := y) (p := gp ms 0 + (n1 : Int) % 400) hv hv2 (by omega)).trans hV
    have HN1 := Lib.hid (fun W (hR : Reads W W.heap.size 2 (some ⟨b, off, none⟩) m (tcells ms)) => implMarkNumber_any _ m c1 ms (gp ms 0 + (n1 : Int) % 400) W (by omega) HML.out hR)
    have HN2 := Lib.hid (fun W (hR : Reads W W.heap.size 2 A3 m (tcells (shf ms y))) => implMarkNumber_any A3 m c3 (shf ms y) (gp ms 0 + (n1 : Int) % 400 + y) W (by omega) hl2 hR)
    rw [hV] at HN1
    rw [hV2] at HN2
    obtain ⟨b', off', e', hb', s1, _⟩ := HR3.out.mark (show 0 < m by omega)
    cases e'
    simp only [Nat.zero_mul, Nat.add_zero] at s1
    have en : (N == N) = true := by simp
    clear hV hV2 hv hv2 HY3
    generalize gp ms 0 = p0 at *
    go_wp2_with fail
    refine HS.out.mono ?_
    rintro e w4 ⟨rfl, hb4⟩
    have HR4 := Lib.hid ((HR3.out.below hb4).more hb4.size)
    have HZ4 := Lib.hid ((HZ3.out.below hb4).more hb4.size)
    have HB4 := Lib.hid (HB3.out.trans (hb4.mono HB3.out.size))
    replace s1 := (hb4.cell (p := ⟨b, off, none⟩) hb').trans s1
    clear hb4 HS
    go_wp2_with fail
    refine (HN1.out _ HR4.out).mono ?_
    rintro e w5 ⟨rfl, hb5⟩
    have HZ5 := Lib.hid ((HZ4.out.below hb5).more hb5.size)
    have HB5 := Lib.hid (HB4.out.trans (hb5.mono HB4.out.size)); clear hb5
    go_wp2_with fail
    refine (HN2.out _ HZ5.out).mono ?_
    rintro e w6 ⟨rfl, hb6⟩
    have HB6 := Lib.hid (HB5.out.trans (hb6.mono HB5.out.size)); clear hb6
    cases ok
    all_goals
      go_wp2_with fail
      go_ret
      exact ⟨rfl, HB6.out⟩
end Go.Proofs.Ytogbjneldipnpaa
