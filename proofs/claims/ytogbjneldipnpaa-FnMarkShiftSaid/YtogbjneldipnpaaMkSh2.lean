/- The reference's MarkShift; whether two lists of marks are the same. -/
import Derived.Test.YtogbjneldipnpaaMkSh1
namespace Go.Proofs.Ytogbjneldipnpaa
open Go.RowKit
attribute [local go_sem ↓] Go.wp_at_zero Go.wp_at_succ

theorem Reads.none_0 {w : World} {B size : Nat} {A : Option Addr} : Reads w B size A 0 [] := ⟨by simp, fun h => absurd h (by omega)⟩
theorem sameMarks_same (A A' : Option Addr) (n c c' : Nat) (ts : List T2) (w : World) (hn : n ≤ 1048576) (hr : Reads w w.heap.size 2 A n (tcells ts)) (hr' : Reads w w.heap.size 2 A' n (tcells ts)) :
    Calls Try.prog 27 #[.slice A n c, .slice A' n c'] w fun e w' => e = .returned (.bool true) ∧ Below w.heap.size w w' := by
  have HR := Lib.hid hr; clear hr
  have HR' := Lib.hid hr'; clear hr'
  have hB0 : ∃ q, w = w.drewN q := ⟨0, rfl⟩
  have HB := Lib.hid (Below.refl w.heap.size w)
  go_enter Try.func27, Try.ntmps27
  go_wp2_with fail
  go_loopw [5] (fun i wr => ∃ (k : Nat), k ≤ n ∧ i = .int .i64 k ∧ ∃ q, wr = w.drewN q) (fun i _ => n - (intOf i).toNat)
  case atStart => exact ⟨0, Nat.zero_le _, rfl, hB0⟩
  case round =>
    clear hB0
    obtain ⟨k, hk, rfl, q, rfl⟩ := hrel
    by_cases hlt : k < n
    · obtain ⟨b, off, x, y, rfl, hb, h1, h2, H3, H4⟩ := HR.out.term hlt
      obtain ⟨b', off', x', y', rfl, hb', h1', h2', H3', H4'⟩ := HR'.out.term hlt
      have hxy := H3.out.symm.trans H3'.out
      simp only [Option.some.injEq, Prod.mk.injEq] at hxy
      obtain ⟨rfl, rfl⟩ := hxy
      have i1 : (0 : Int) ≤ (k : Int) := by omega
      have i2 : (k : Int) < (n : Int) := by omega
      have e1 : (x != x) = false := by simp
      have e2 : (y != y) = false := by simp
      have e3 : (x == x) = true := by simp
      have e4 : (y == y) = true := by simp
      go_wp2_with fail
      go_quiet (fail)
      go_wp2_with fail
      go_roundw
      case rel => exact ⟨k + 1, by omega, by go_num, _, by first | exact World.drewN_drewN _ _ _ | rfl⟩
      case measure => simp [intOf]; omega
    · go_wp2_with fail
      go_ret
      exact ⟨rfl, below_drewN HB.out _⟩

set_option maxHeartbeats 2000000 in
theorem specMarkShift_any (A : Option Addr) (n c : Nat) (ms : List T2) (y : Int) (w : World) (hn : n ≤ 1048576) (hts : ms.length = n) (hr : Reads w w.heap.size 2 A n (tcells ms)) :
    Calls Try.prog 26 #[.slice A n c, .int .i64 y] w (ShiftPost w (msR ms y)) := by
  have hrA : Reads (w.alloc (.cells #[] 34)) (w.alloc (.cells #[] 34)).heap.size 2 A n (tcells ms) := (hr.keep fun p hp => World.cell?_alloc_lt w _ p hp).more (by simp)
  have HMV := Lib.hid (specMarksValid_any A n c ms _ hn hts hrA)
  have HB0 := Lib.hid ((Below.refl w.heap.size w).alloc (Nat.le_refl _) (.cells #[] 34))
  have HT := Lib.hid hts
  obtain ⟨r, hR⟩ : ∃ r, msR ms y = r := ⟨_, rfl⟩
  rw [hR]
  have HRR := Lib.hid hR; clear hR
  cases hv : mvB ms
  · have he : r = ([], false) := by rw [← HRR.out]; exact msR_no (by rw [hv]; rfl)
    have HE := Lib.hid he; clear he HRR
    rw [hv] at HMV; clear hv hr hts hrA
    go_enter Try.func26, Try.ntmps26
    go_wp2_with fail
    refine HMV.out.mono ?_
    rintro e w1 ⟨rfl, hb1⟩
    have HB1 := Lib.hid (HB0.out.trans (hb1.mono HB0.out.size)); clear hb1
    go_wp2_with fail
    go_ret2
    rw [HE.out]
    exact ⟨⟨_, 0, rfl, Reads.none_0⟩, HB1.out⟩
  cases hx : inB y (-100000) 100000
  · have he : r = ([], false) := by rw [← HRR.out]; exact msR_no (by rw [hv, hx]; rfl)
    have HE := Lib.hid he; clear he HRR
    rw [hv] at HMV
    have HX := Lib.hid hx
    clear hv hr hts hx hrA
    go_enter Try.func26, Try.ntmps26
    go_wp2_with fail
    refine HMV.out.mono ?_
    rintro e w1 ⟨rfl, hb1⟩
    have HB1 := Lib.hid (HB0.out.trans (hb1.mono HB0.out.size)); clear hb1
    go_wp2_with fail
    refine (l6In_any _ _ _ _).mono ?_
    rintro e w2 ⟨rfl, rfl⟩
    rw [HX.out]
    go_wp2_with fail
    go_ret2
    rw [HE.out]
    exact ⟨⟨_, 0, rfl, Reads.none_0⟩, HB1.out⟩
  have hyy := inB_iff.1 hx
  have hm2 := (mvB_iff.1 hv).1
  rw [hts] at hm2
  have hrr : r = if mvB (shf ms y) = true then (shf ms y, true) else ([], false) := by rw [← HRR.out]; unfold msR; rw [hv, hx]; rfl
  have HE := Lib.hid hrr; clear hrr HRR
  have HBN := Lib.hid (fun k (hk : k < n) => (mvB_bd hv (k := k) (by rw [hts]; exact hk)).1)
  obtain ⟨b, off, rfl, hb, _⟩ := hr.2 (by omega)
  rw [hv] at HMV
  have HX := Lib.hid hx
  clear hv hx hrA
  have HRD := Lib.hid (fun W (hB : Below w.heap.size w W) => (hr.below hB)); clear hr hts
  have HO := Lib.hid (own_empty w 34 2)
  go_enter Try.func26, Try.ntmps26
  go_wp2_with fail
  refine HMV.out.mono ?_
  rintro e w1 ⟨rfl, hb1⟩
  have HO1 := Lib.hid (own_below HO.out hb1)
  have HB1 := Lib.hid (HB0.out.trans (hb1.mono HB0.out.size)); clear hb1 HB0 HO HMV
  go_wp2_with fail
  refine (l6In_any _ _ _ _).mono ?_
  rintro e w2 ⟨rfl, rfl⟩
  rw [HX.out]
  go_wp2_with fail
  go_loopw [6, 7] (fun v i wr => ∃ (k : Nat) (A' : Option Addr) (c' : Nat), k ≤ n ∧ i = .int .i64 k ∧ v = .slice A' k c' ∧ k ≤ c' ∧ wr.ownsRow w.heap.size 34 2 (.slice A' k c') k (tcells ((shf ms y).take k)) ∧ Below w.heap.size w wr) (fun _ i _ => n - (intOf i).toNat)
  case atStart => exact ⟨0, _, _, Nat.zero_le _, rfl, rfl, Nat.le_refl _, HO1.out, HB1.out⟩
  case round =>
    clear HB1 HO1
    obtain ⟨k, A', c', hk, rfl, rfl, hkc, hown, hB⟩ := hrel
    have HW := Lib.hid hown; have HB := Lib.hid hB; clear hown hB
    by_cases hlt : k < n
    · obtain ⟨b', off', e', hb', h1, h2⟩ := (HRD.out wr HB.out).mark hlt
      cases e'
      have hbk := HBN.out k hlt
      have i1 : (0 : Int) ≤ (k : Int) := by omega
      have i2 : (k : Int) < (n : Int) := by omega
      have u1 : IntKind.i64.wrap (gp ms k + y) = gp ms k + y := IntWalk.i64_in _ (by omega)
      have HSR := Lib.hid (show w.heap.size ≤ (wr.drew.alloc (.cells #[.int .i64 (gp ms k + y), .int .i64 (gn ms k)] 34)).heap.size by have := HB.out.size; simp; omega)
      have HTK : Hid ((shf ms y).take (k + 1) = (shf ms y).take k ++ [(gp ms k + y, gn ms k)]) := by
        have hk2 : k < ms.length := by rw [HT.out]; exact hlt
        have hk3 : k < (shf ms y).length := by simpa [shf] using hk2
        unfold Hid
        rw [List.take_succ_eq_append_getElem hk3]
        congr 2
        simp [shf, gp, gn, List.getElem?_eq_getElem hk2]
      generalize gp ms k = p at *
      generalize gn ms k = q at *
      go_wp2_with fail
      go_region_held3 (fun w' => w'.cell? ⟨b, off + k * 2, none⟩ = some (.int .i64 p) ∧ w'.cell? ⟨b, off + k * 2 + 1, none⟩ = some (.int .i64 q))
        (first | exact ⟨h1, h2⟩ | exact ⟨cell_past _ h1, cell_past _ h2⟩ | exact ⟨(hb3.cell hb').trans (cell_past (w := wr.drew) _ h1), (hb3.cell hb').trans (cell_past (w := wr.drew) _ h2)⟩)
        ((refine step_app2 _ (by rfl) (.tmp 24) (.tmp 38) _ (by rfl) w.heap.size 34 2 16 elMark A' c' k (tcells ((shf ms y).take k)) (by rfl) ((ownsRow_drew' HW.out).alloc _) wr.heap.size #[.int .i64 (p + y), .int .i64 q] (by rfl) (Blk.new wr.drew _ _) (by rfl) (one2 (by rfl) (by rfl)) (by omega) (by omega) HSR.out ?_; intro A'' c'' w3 hown3 hc3 hb3 hk3))
      have HW3 := Lib.hid hown3
      have HB3 := Lib.hid (((HB.out.drew).alloc (by show w.heap.size ≤ wr.heap.size; exact HB.out.size) _).trans hb3)
      clear hown3 hk3 hb3 u1
      go_wp2_with fail
      go_roundw
      case rel => exact ⟨k + 1, A'', c'', by omega, by go_num, rfl, hc3, by rw [HTK.out, tcells_snoc]; exact HW3.out, HB3.out⟩
      case measure => simp [intOf]; omega
    · obtain rfl : k = n := by omega
      have hl2 : (shf ms y).length = k := by simp [shf, HT.out]
      have hrz := own_reads HW.out
      rw [List.take_of_length_le (by omega)] at hrz
      have HC := Lib.hid (specMarksValid_any _ k c' (shf ms y) wr (by omega) hl2 hrz)
      have HL2 := Lib.hid hl2
      have HRZ := Lib.hid hrz; clear hrz hl2
      cases hv2 : mvB (shf ms y)
      · rw [hv2] at HC HE
        clear hv2
        go_wp2_with fail
        refine HC.out.mono ?_
        rintro e w5 ⟨rfl, hb5⟩
        have HB5 := Lib.hid (HB.out.trans (hb5.mono HB.out.size)); clear hb5
        go_wp2_with fail
        go_ret2
        rw [HE.out]
        exact ⟨⟨_, 0, rfl, Reads.none_0⟩, HB5.out.alloc HB5.out.size _⟩
      · rw [hv2] at HC HE
        clear hv2
        go_wp2_with fail
        refine HC.out.mono ?_
        rintro e w5 ⟨rfl, hb5⟩
        have HB5 := Lib.hid (HB.out.trans (hb5.mono HB.out.size))
        have HRZ5 := Lib.hid ((HRZ.out.below hb5).more hb5.size); clear hb5
        go_wp2_with fail
        go_ret2
        rw [HE.out]
        refine ⟨⟨A', c', ?_, ?_⟩, HB5.out⟩
        · show Ending.returned (.tuple #[.slice A' k c', .bool true]) = .returned (.tuple #[.slice A' (shf ms y).length c', .bool true])
          rw [HL2.out]
        · show Reads _ _ 2 _ (shf ms y).length (tcells (shf ms y))
          rw [HL2.out]; exact HRZ5.out
end Go.Proofs.Ytogbjneldipnpaa
