/- SeriesFind of both. -/
import Derived.Test.YtaaiklhkhgennaaSerP3
namespace Go.Proofs.Ytaaiklhkhgennaa
open Go.RowKit
attribute [local go_sem ↓] Go.wp_at_zero Go.wp_at_succ

def FindPost (x : T2) (w : World) (e : Ending) (w' : World) : Prop :=
  ∃ n m ok, e = .returned (.tuple #[.int .i64 n, .int .i64 m, .bool ok]) ∧ SF x n m ok ∧ Below w.heap.size w w'

set_option maxHeartbeats 2000000 in
theorem implSeriesFind_any (a b : Int) (w : World) :
    Calls Try.prog 20 #[.agg #[.int .i64 a, .int .i64 b]] w (FindPost (a, b) w) := by
  have HX0 := Lib.hid (Blk.new w 23 #[.int .i64 a, .int .i64 b])
  have HB0 := Lib.hid ((Below.refl w.heap.size w).alloc (Nat.le_refl _) (.cells #[.int .i64 a, .int .i64 b] 23))
  have HV := Lib.hid (fun W => implRatValid_any a b W)
  cases hv : rvB (a, b)
  · rw [hv] at HV
    have HN := Lib.hid (nf_bad hv 60 0)
    clear hv
    go_enter Try.func20, Try.ntmps20
    go_wp2_with fail
    refine (HV.out _).mono ?_
    rintro e w1 ⟨rfl, hb1⟩
    have HB1 := Lib.hid (HB0.out.trans (hb1.mono HB0.out.size)); clear hb1
    go_wp2_with fail
    go_ret3
    exact ⟨0, 0, false, rfl, .inr ⟨rfl, rfl, rfl, HN.out⟩, HB1.out⟩
  rw [hv] at HV
  clear hv
  go_enter Try.func20, Try.ntmps20
  go_wp2_with fail
  refine (HV.out _).mono ?_
  rintro e w1 ⟨rfl, hb1⟩
  have HB1 := Lib.hid (HB0.out.trans (hb1.mono HB0.out.size))
  have HX1 := Lib.hid (HX0.out.sub hb1); clear hb1 HX0 HB0 HV
  go_wp2_with fail
  go_loopw [5] (fun v wr => ∃ k : Int, 1 ≤ k ∧ k ≤ 60 ∧ v = .int .i64 k ∧ Hid (NF (a, b) k 0) ∧ Hid (Below w.heap.size w wr) ∧ Hid (Blk wr w.heap.size 23 #[.int .i64 a, .int .i64 b])) (fun v _ => (60 - intOf v).toNat)
  case atStart => exact ⟨1, by omega, by omega, rfl, nf_start _, HB1.out, HX1.out⟩
  case round =>
    clear HB1 HX1
    obtain ⟨k, hk1, hk2, rfl, HNF, HB, HX⟩ := hrel
    by_cases hlt : k < 60
    · go_wp2_with fail
      go_loopw [6] (fun v wr => ∃ m : Int, k < m ∧ m ≤ 61 ∧ v = .int .i64 m ∧ Hid (NF (a, b) k m) ∧ Hid (Below w.heap.size w wr) ∧ Hid (Blk wr w.heap.size 23 #[.int .i64 a, .int .i64 b])) (fun v _ => (61 - intOf v).toNat)
      case atStart => exact ⟨k + 1, by omega, by omega, rfl, nf_inner HNF.out, HB.out, HX.out⟩
      case round =>
        clear HNF HB HX
        obtain ⟨m, hm1, hm2, rfl, HNF, HB, HX⟩ := hrel
        by_cases hm : m ≤ 60
        · have HL := Lib.hid (fun W => line_any k m W (by omega) (by omega) (by omega))
          obtain ⟨r1, r2, hser⟩ : ∃ r1 r2, serB k m = ((r1, r2), true) := ⟨_, _, ser_yes (by omega)⟩
          rw [hser] at HL
          have HSER := Lib.hid hser; clear hser
          go_wp2_with fail
          refine (HL.out _).mono ?_
          rintro e w2 ⟨rfl, hb2⟩
          rw [okV_form]
          have HX2 := Lib.hid (HX.out.sub hb2)
          have HB2 := Lib.hid (HB.out.trans (hb2.mono HB.out.size)); clear hb2 HX HB HL
          have HX3 := Lib.hid (HX2.out.alloc (.cells #[.int .i64 r1, .int .i64 r2] 23))
          have HB3 := Lib.hid (HB2.out.alloc HB2.out.size (.cells #[.int .i64 r1, .int .i64 r2] 23))
          obtain ⟨x1, x2, _, _⟩ := blk2 HX2.out
          have q0 := HX2.out.lt
          have hne : (r1, r2) ≠ (a, b) → (serB k m).1 ≠ (a, b) := fun h => by rw [HSER.out]; exact h
          by_cases e1 : r1 = a
          · by_cases e2 : r2 = b
            · subst e1 e2
              have f1 : (r1 == r1) = true := by simp
              have f2 : (r2 == r2) = true := by simp
              clear hne
              go_wp2_with fail
              go_ret3
              exact ⟨k, m, true, rfl, .inl ⟨rfl, by omega, by rw [HSER.out], HNF.out⟩, HB3.out⟩
            · subst e1
              have f1 : (r1 == r1) = true := by simp
              have f2 : (r2 == b) = false := by simpa using e2
              have f3 : (b == r2) = false := by simpa using fun h => e2 h.symm
              have HNF2 := Lib.hid (nf_step HNF.out (hne (fun h => e2 (by injection h))))
              clear hne e2
              go_wp2_with fail
              go_roundw
              case rel => exact ⟨m + 1, by omega, by omega, rfl, HNF2.out, HB3.out, HX3.out⟩
              case measure => simp [intOf]; omega
          · have f1 : (r1 == a) = false := by simpa using e1
            have f3 : (a == r1) = false := by simpa using fun h => e1 h.symm
            have HNF2 := Lib.hid (nf_step HNF.out (hne (fun h => e1 (by injection h))))
            clear hne e1
            go_wp2_with fail
            go_roundw
            case rel => exact ⟨m + 1, by omega, by omega, rfl, HNF2.out, HB3.out, HX3.out⟩
            case measure => simp [intOf]; omega
        · go_wp2_with fail
          go_roundw
          case rel => exact ⟨k + 1, by omega, by omega, rfl, nf_next HNF.out (by omega), HB.out, HX.out⟩
          case measure => simp [intOf]; omega
    · go_wp2_with fail
      go_ret3
      exact ⟨0, 0, false, rfl, sf_no HNF.out (by omega), HB.out⟩

set_option maxHeartbeats 2000000 in
theorem specSeriesFind_any (a b : Int) (w : World) :
    Calls Try.prog 18 #[.agg #[.int .i64 a, .int .i64 b]] w (FindPost (a, b) w) := by
  have HX0 := Lib.hid (Blk.new w 23 #[.int .i64 a, .int .i64 b])
  have HB0 := Lib.hid ((Below.refl w.heap.size w).alloc (Nat.le_refl _) (.cells #[.int .i64 a, .int .i64 b] 23))
  go_enter Try.func18, Try.ntmps18
  go_wp2_with fail
  have HB1 := Lib.hid HB0.out
  have HX1 := Lib.hid HX0.out; clear HX0 HB0
  go_loopw [5] (fun v wr => ∃ k : Int, 1 ≤ k ∧ k ≤ 60 ∧ v = .int .i64 k ∧ Hid (NF (a, b) k 0) ∧ Hid (Below w.heap.size w wr) ∧ Hid (Blk wr w.heap.size 23 #[.int .i64 a, .int .i64 b])) (fun v _ => (60 - intOf v).toNat)
  case atStart => exact ⟨1, by omega, by omega, rfl, nf_start _, HB1.out, HX1.out⟩
  case round =>
    clear HB1 HX1
    obtain ⟨k, hk1, hk2, rfl, HNF, HB, HX⟩ := hrel
    by_cases hlt : k < 60
    · go_wp2_with fail
      go_loopw [6] (fun v wr => ∃ m : Int, k < m ∧ m ≤ 61 ∧ v = .int .i64 m ∧ Hid (NF (a, b) k m) ∧ Hid (Below w.heap.size w wr) ∧ Hid (Blk wr w.heap.size 23 #[.int .i64 a, .int .i64 b])) (fun v _ => (61 - intOf v).toNat)
      case atStart => exact ⟨k + 1, by omega, by omega, rfl, nf_inner HNF.out, HB.out, HX.out⟩
      case round =>
        clear HNF HB HX
        obtain ⟨m, hm1, hm2, rfl, HNF, HB, HX⟩ := hrel
        by_cases hm : m ≤ 60
        · have HL := Lib.hid (fun W => specSeriesLine_any k m W)
          obtain ⟨r1, r2, hser⟩ : ∃ r1 r2, serB k m = ((r1, r2), true) := ⟨_, _, ser_yes (by omega)⟩
          rw [hser] at HL
          have HSER := Lib.hid hser; clear hser
          go_wp2_with fail
          refine (HL.out _).mono ?_
          rintro e w2 ⟨rfl, hb2⟩
          rw [okV_form]
          have HX2 := Lib.hid (HX.out.sub hb2)
          have HB2 := Lib.hid (HB.out.trans (hb2.mono HB.out.size)); clear hb2 HX HB HL
          have HX3 := Lib.hid (HX2.out.alloc (.cells #[.int .i64 r1, .int .i64 r2] 23))
          have HB3 := Lib.hid (HB2.out.alloc HB2.out.size (.cells #[.int .i64 r1, .int .i64 r2] 23))
          obtain ⟨x1, x2, _, _⟩ := blk2 HX2.out
          have q0 := HX2.out.lt
          have hne : (r1, r2) ≠ (a, b) → (serB k m).1 ≠ (a, b) := fun h => by rw [HSER.out]; exact h
          by_cases e1 : r1 = a
          · by_cases e2 : r2 = b
            · subst e1 e2
              have f1 : (r1 == r1) = true := by simp
              have f2 : (r2 == r2) = true := by simp
              clear hne
              go_wp2_with fail
              go_ret3
              exact ⟨k, m, true, rfl, .inl ⟨rfl, by omega, by rw [HSER.out], HNF.out⟩, HB3.out⟩
            · subst e1
              have f1 : (r1 == r1) = true := by simp
              have f2 : (r2 == b) = false := by simpa using e2
              have f3 : (b == r2) = false := by simpa using fun h => e2 h.symm
              have HNF2 := Lib.hid (nf_step HNF.out (hne (fun h => e2 (by injection h))))
              clear hne e2
              go_wp2_with fail
              go_roundw
              case rel => exact ⟨m + 1, by omega, by omega, rfl, HNF2.out, HB3.out, HX3.out⟩
              case measure => simp [intOf]; omega
          · have f1 : (r1 == a) = false := by simpa using e1
            have f3 : (a == r1) = false := by simpa using fun h => e1 h.symm
            have HNF2 := Lib.hid (nf_step HNF.out (hne (fun h => e1 (by injection h))))
            clear hne e1
            go_wp2_with fail
            go_roundw
            case rel => exact ⟨m + 1, by omega, by omega, rfl, HNF2.out, HB3.out, HX3.out⟩
            case measure => simp [intOf]; omega
        · go_wp2_with fail
          go_roundw
          case rel => exact ⟨k + 1, by omega, by omega, rfl, nf_next HNF.out (by omega), HB.out, HX.out⟩
          case measure => simp [intOf]; omega
    · go_wp2_with fail
      go_ret3
      exact ⟨0, 0, false, rfl, sf_no HNF.out (by omega), HB.out⟩
end Go.Proofs.Ytaaiklhkhgennaa
