/- Blends: means, widths, mirrored lists. -/
import Derived.Test.YtmmnkdjibdlcjaaBlP
namespace Go.Proofs.Ytmmnkdjibdlcjaa
open Go.RowKit
attribute [local go_sem ↓] Go.wp_at_zero Go.wp_at_succ

set_option maxHeartbeats 1000000 in
theorem specRatOf_zero (num : Int) (w : World) :
    Calls Try.prog 30 #[.int .i64 num, .int .i64 0] w fun e w' => e = .returned (okV ((0, 0), false)) ∧ Below w.heap.size w w' := by
  go_enter Try.func30, Try.ntmps30
  go_wp2_with fail
  refine bodyPost_ret (v := okV ((0, 0), false)) (by simp [results, Try.results30, go_sem]; rfl) rfl ?_
  refine ⟨rfl, ?_⟩
  repeat (first | exact Below.refl _ _ | refine Below.alloc ?_ (by simp; try omega) _ | refine Below.setCell ?_ (by simp; try omega) _)

set_option maxHeartbeats 2000000 in
theorem implBlendMean_any (A : Option Addr) (n c : Nat) (xs : List Int) (w : World) (h8 : n ≤ 8) (hxs : xs.length = n) (hin : InB xs 3000) (hr : Reads w w.heap.size 1 A n (icells xs)) :
    Calls Try.prog 16 #[.slice A n c] w fun e w' => e = .returned (okV (bmB xs)) ∧ Below w.heap.size w w' := by
  have HD := Lib.hid (Blk.new w 36 #[.int .i64 0, .int .i64 0])
  have HB1 := Lib.hid ((Below.refl w.heap.size w).alloc (Nat.le_refl _) (.cells #[.int .i64 0, .int .i64 0] 36))
  have HR := Lib.hid hr; clear hr
  have HT := Lib.hid hxs
  have HI := Lib.hid hin
  have hpn := psum_bd hin n (by omega)
  by_cases h0 : n = 0
  · have he : bmB xs = ((0, 0), false) := by unfold bmB; rw [if_pos (by omega)]
    rw [he]; clear he hxs hin hpn
    subst h0
    go_enter Try.func16, Try.ntmps16
    go_wp2_with fail
    refine bodyPost_ret (v := okV ((0, 0), false)) (by simp [results, Try.results16, go_sem]; rfl) rfl ?_
    refine ⟨rfl, ?_⟩
    repeat (first | exact Below.refl _ _ | refine Below.alloc ?_ (by simp; try omega) _ | refine Below.setCell ?_ (by simp; try omega) _)
  have he : bmB xs = ratOf (psum xs n) (n : Int) := by unfold bmB; rw [if_neg (by omega), hxs]
  rw [he]; clear he hxs hin
  have HRO := Lib.hid (fun W => implRatOf_any (psum xs n) (n : Int) W)
  generalize ratOf (psum xs n) (n : Int) = r at *
  clear hpn
  go_enter Try.func16, Try.ntmps16
  go_wp2_with fail
  go_loop [4, 18] (fun t i => ∃ k : Nat, k ≤ n ∧ i = .int .i64 k ∧ t = .int .i64 (psum xs k)) (fun _ i => n - (intOf i).toNat)
  case atStart => exact ⟨0, Nat.zero_le _, rfl, rfl⟩
  case round =>
    obtain ⟨k, hk, rfl, rfl⟩ := hrel
    by_cases hlt : k < n
    · obtain ⟨b, off, rfl, hb, h1⟩ := HR.out.int hlt
      have hg := HI.out.at (k := k) (by rw [HT.out]; exact hlt)
      have hp := psum_bd HI.out k (by rw [HT.out]; omega)
      have HS : Hid (psum xs (k + 1) = psum xs k + gi xs k) := rfl
      generalize gi xs k = x at *
      have d1 : decide (x < 0) = false := decide_eq_false (by omega)
      have d2 : decide (200000 < x) = false := decide_eq_false (by omega)
      have d3 : decide ((40 : Int) ≤ (k : Int)) = false := decide_eq_false (by omega)
      go_wp2_with fail
      go_round
      case rel => exact ⟨k + 1, by omega, by go_num, by rw [HS.out]⟩
      case measure => simp [intOf]; omega
    · obtain rfl : k = n := by omega
      go_wp2_with fail
      refine (HRO.out _).mono ?_
      rintro e w3 ⟨rfl, hb3⟩
      rw [okV_form]
      have HB3 := Lib.hid (HB1.out.trans (hb3.mono HB1.out.size))
      have HX4 := Lib.hid (HD.out.sub hb3)
      obtain ⟨y1, y2, y3, y4⟩ := blk2 HX4.out
      have HZ := Lib.hid ((HX4.out.set 0 (.int .i64 r.1.1)).set 1 (.int .i64 r.1.2))
      have HB4 := Lib.hid ((HB3.out.setCell (p := ⟨w.heap.size, 0, none⟩) (Nat.le_refl _) (.int .i64 r.1.1)).setCell (p := ⟨w.heap.size, 1, none⟩) (Nat.le_refl _) (.int .i64 r.1.2))
      go_wp2_with fail
      refine bodyPost_ret (results_rat_tmp rfl _ _ w.heap.size _ _ rfl HZ.out Try.underlying36 rfl (by kernel_rfl)) rfl ?_
      exact ⟨rfl, HB4.out⟩

set_option maxHeartbeats 2000000 in
theorem specBlendMean_any (A : Option Addr) (n c : Nat) (xs : List Int) (w : World) (h8 : n ≤ 8) (hxs : xs.length = n) (hin : InB xs 3000) (hr : Reads w w.heap.size 1 A n (icells xs)) :
    Calls Try.prog 17 #[.slice A n c] w fun e w' => e = .returned (okV (bmB xs)) ∧ Below w.heap.size w w' := by
  have HD := Lib.hid (Blk.new w 36 #[.int .i64 0, .int .i64 0])
  have HB1 := Lib.hid ((Below.refl w.heap.size w).alloc (Nat.le_refl _) (.cells #[.int .i64 0, .int .i64 0] 36))
  have HR := Lib.hid hr; clear hr
  have HT := Lib.hid hxs
  have HI := Lib.hid hin
  have hpn := psum_bd hin n (by omega)
  by_cases h0 : n = 0
  · have he : bmB xs = ((0, 0), false) := by unfold bmB; rw [if_pos (by omega)]
    rw [he]; clear he hxs hin hpn
    subst h0
    have HRO := Lib.hid (fun W => specRatOf_zero 0 W)
    go_enter Try.func17, Try.ntmps17
    go_wp2_with fail
    go_loop [4, 5] (fun t i => t = .int .i64 0 ∧ i = .int .i64 0) (fun _ _ => 0)
    case atStart => exact ⟨rfl, rfl⟩
    case round =>
      obtain ⟨rfl, rfl⟩ := hrel
      go_wp2_with fail
      refine (HRO.out _).mono ?_
      rintro e w3 ⟨rfl, hb3⟩
      rw [okV_form]
      have HB3 := Lib.hid (HB1.out.trans (hb3.mono HB1.out.size))
      have HX4 := Lib.hid (HD.out.sub hb3)
      obtain ⟨y1, y2, y3, y4⟩ := blk2 HX4.out
      have HZ := Lib.hid ((HX4.out.set 0 (.int .i64 0)).set 1 (.int .i64 0))
      have HB4 := Lib.hid ((HB3.out.setCell (p := ⟨w.heap.size, 0, none⟩) (Nat.le_refl _) (.int .i64 0)).setCell (p := ⟨w.heap.size, 1, none⟩) (Nat.le_refl _) (.int .i64 0))
      go_wp2_with fail
      refine bodyPost_ret (results_rat_tmp rfl _ _ w.heap.size _ _ rfl HZ.out Try.underlying36 rfl (by kernel_rfl)) rfl ?_
      exact ⟨rfl, HB4.out⟩
  have he : bmB xs = ratOf (psum xs n) (n : Int) := by unfold bmB; rw [if_neg (by omega), hxs]
  rw [he]; clear he hxs hin
  have HRO := Lib.hid (fun W => specRatOf_any (psum xs n) (n : Int) W (by omega) (by omega) (by omega))
  generalize ratOf (psum xs n) (n : Int) = r at *
  clear hpn
  go_enter Try.func17, Try.ntmps17
  go_wp2_with fail
  go_loop [4, 5] (fun t i => ∃ k : Nat, k ≤ n ∧ i = .int .i64 k ∧ t = .int .i64 (psum xs k)) (fun _ i => n - (intOf i).toNat)
  case atStart => exact ⟨0, Nat.zero_le _, rfl, rfl⟩
  case round =>
    obtain ⟨k, hk, rfl, rfl⟩ := hrel
    by_cases hlt : k < n
    · obtain ⟨b, off, rfl, hb, h1⟩ := HR.out.int hlt
      have hg := HI.out.at (k := k) (by rw [HT.out]; exact hlt)
      have hp := psum_bd HI.out k (by rw [HT.out]; omega)
      have HS : Hid (psum xs (k + 1) = psum xs k + gi xs k) := rfl
      generalize gi xs k = x at *
      have d1 : decide (x < 0) = false := decide_eq_false (by omega)
      have d2 : decide (200000 < x) = false := decide_eq_false (by omega)
      have d3 : decide ((40 : Int) ≤ (k : Int)) = false := decide_eq_false (by omega)
      have hv1 : Hid (inB x 0 200000 = true) := inB_iff.2 (by omega)
      go_wp2_with fail
      refine (l6In_any _ _ _ _).mono ?_
      rintro e w1 ⟨rfl, rfl⟩
      rw [hv1.out]
      go_wp2_with fail
      go_round
      case rel => exact ⟨k + 1, by omega, by go_num, by rw [HS.out]⟩
      case measure => simp [intOf]; omega
    · obtain rfl : k = n := by omega
      go_wp2_with fail
      refine (HRO.out _).mono ?_
      rintro e w3 ⟨rfl, hb3⟩
      rw [okV_form]
      have HB3 := Lib.hid (HB1.out.trans (hb3.mono HB1.out.size))
      have HX4 := Lib.hid (HD.out.sub hb3)
      obtain ⟨y1, y2, y3, y4⟩ := blk2 HX4.out
      have HZ := Lib.hid ((HX4.out.set 0 (.int .i64 r.1.1)).set 1 (.int .i64 r.1.2))
      have HB4 := Lib.hid ((HB3.out.setCell (p := ⟨w.heap.size, 0, none⟩) (Nat.le_refl _) (.int .i64 r.1.1)).setCell (p := ⟨w.heap.size, 1, none⟩) (Nat.le_refl _) (.int .i64 r.1.2))
      go_wp2_with fail
      refine bodyPost_ret (results_rat_tmp rfl _ _ w.heap.size _ _ rfl HZ.out Try.underlying36 rfl (by kernel_rfl)) rfl ?_
      exact ⟨rfl, HB4.out⟩

set_option maxHeartbeats 2000000 in
theorem implBlendListValid_any (A : Option Addr) (n c : Nat) (xs : List Int) (w : World) (h8 : n ≤ 8) (hxs : xs.length = n) (hin : InB xs 3001) (hr : Reads w w.heap.size 1 A n (icells xs)) :
    Calls Try.prog 24 #[.slice A n c] w fun e w' => e = .returned (.bool (ascB xs)) ∧ w' = w := by
  have HR := Lib.hid hr; clear hr
  have HT := Lib.hid hxs; clear hxs
  have HI := Lib.hid hin; clear hin
  go_enter Try.func24, Try.ntmps24
  go_wp2_with fail
  go_loop [10] (fun i => ∃ k : Nat, k ≤ n ∧ i = .int .i64 k ∧ ∀ j, j + 1 < k → gi xs j < gi xs (j + 1)) (fun i => n - (intOf i).toNat)
  case atStart => exact ⟨0, Nat.zero_le _, rfl, fun j hj => absurd hj (by omega)⟩
  case round =>
    obtain ⟨k, hk, rfl, hasc⟩ := hrel
    have HA := Lib.hid hasc; clear hasc
    by_cases hlt : k < n
    · obtain ⟨b, off, rfl, hb, h1⟩ := HR.out.int hlt
      have hg := HI.out.at (k := k) (by rw [HT.out]; exact hlt)
      by_cases h0 : k = 0
      · subst h0
        simp only [Nat.add_zero] at h1
        generalize gi xs 0 = x at *
        have d1 : decide (x < 0) = false := decide_eq_false (by omega)
        have d2 : decide (200000 < x) = false := decide_eq_false (by omega)
        go_wp2_with fail
        go_round
        case rel => exact ⟨1, by omega, rfl, fun j hj => absurd hj (by omega)⟩
        case measure => simp [intOf]; omega
      · obtain ⟨j, rfl⟩ : ∃ j, k = j + 1 := ⟨k - 1, by omega⟩
        obtain ⟨b', off', e', hb', h2⟩ := HR.out.int (show j < n by omega)
        cases e'
        have hg2 := HI.out.at (k := j) (by rw [HT.out]; omega)
        have HX : Hid (gi xs j < gi xs (j + 1) ↔ gi xs j < gi xs (j + 1)) := Iff.rfl
        obtain ⟨x, hx⟩ : ∃ x, gi xs (j + 1) = x := ⟨_, rfl⟩
        obtain ⟨y, hy⟩ : ∃ y, gi xs j = y := ⟨_, rfl⟩
        rw [hx] at h1 hg
        rw [hy] at h2 hg2
        have HXY := Lib.hid (And.intro hx hy); clear hx hy HX
        have d1 : decide (x < 0) = false := decide_eq_false (by omega)
        have d2 : decide (200000 < x) = false := decide_eq_false (by omega)
        have i1 : IntKind.i64.wrap (((j + 1 : Nat) : Int) - 1) = (j : Int) := (IntWalk.i64_in _ (by omega)).trans (by omega)
        have i2 : (0 : Int) < ((j + 1 : Nat) : Int) := by omega
        by_cases hxy : x ≤ y
        · go_wp2_with fail
          go_ret
          refine ⟨ret_bool ?_, rfl⟩
          symm
          rw [← Bool.not_eq_true, ascB_iff]
          intro h
          have := h j (by rw [HT.out]; omega)
          rw [HXY.out.1, HXY.out.2] at this
          omega
        · have d3 : decide (x ≤ y) = false := decide_eq_false hxy
          go_wp2_with fail
          go_round
          case rel =>
            refine ⟨j + 1 + 1, by omega, by go_num, fun i hi => ?_⟩
            rcases Nat.lt_or_ge (i + 1) (j + 1) with h | h
            · exact HA.out i h
            · obtain rfl : i = j := by omega
              rw [HXY.out.1, HXY.out.2]; omega
          case measure => simp [intOf]; omega
    · obtain rfl : k = n := by omega
      go_wp2_with fail
      go_ret
      refine ⟨ret_bool (ascB_iff.2 (fun i hi => HA.out i (by rw [HT.out] at hi; exact hi))).symm, rfl⟩

set_option maxHeartbeats 2000000 in
theorem implBlendWidth_any (A : Option Addr) (n c : Nat) (xs : List Int) (w : World) (h8 : n ≤ 8) (hxs : xs.length = n) (hin : InB xs 3001) (hr : Reads w w.heap.size 1 A n (icells xs)) :
    Calls Try.prog 14 #[.slice A n c] w fun e w' => e = .returned (.int .i64 (bwF xs)) ∧ Below w.heap.size w w' := by
  have hB0 : ∃ q, w = w.drewN q := ⟨0, rfl⟩
  have HV := Lib.hid (implBlendListValid_any A n c xs w h8 hxs hin hr)
  have HR := Lib.hid hr; clear hr
  have HT := Lib.hid hxs; clear hxs
  have HI := Lib.hid hin; clear hin
  cases hv : ascB xs
  · have he : bwF xs = -1 := by unfold bwF; rw [hv]; simp
    rw [he]; rw [hv] at HV; clear hv he
    go_enter Try.func14, Try.ntmps14
    go_wp2_with fail
    refine HV.out.mono ?_
    rintro e w1 ⟨rfl, rfl⟩
    go_wp2_with fail
    go_ret
    exact ⟨rfl, Below.refl _ _⟩
  have he : bwF xs = gapF xs (n - 1) := by unfold bwF; rw [hv, if_pos rfl, HT.out]
  rw [he]; rw [hv] at HV; clear hv he
  go_enter Try.func14, Try.ntmps14
  go_wp2_with fail
  refine HV.out.mono ?_
  rintro e w1 ⟨rfl, rfl⟩
  go_wp2_with fail
  go_loopw [3, 4] (fun t i wr => ∃ k : Nat, (k < n ∨ k = 0) ∧ i = .int .i64 ((k + 1 : Nat) : Int) ∧ t = .int .i64 (gapF xs k) ∧ ∃ q, wr = w1.drewN q) (fun _ i _ => n - (intOf i).toNat)
  case atStart => exact ⟨0, by omega, rfl, rfl, hB0⟩
  case round =>
    clear hB0
    obtain ⟨k, hk, rfl, rfl, q, rfl⟩ := hrel
    by_cases hlt : k + 1 < n
    · obtain ⟨b, off, rfl, hb, h1⟩ := HR.out.int hlt
      obtain ⟨b', off', e', hb', h2⟩ := HR.out.int (show k < n by omega)
      cases e'
      have hg1 := HI.out.at (k := k + 1) (by rw [HT.out]; exact hlt)
      have hg2 := HI.out.at (k := k) (by rw [HT.out]; omega)
      have hgp := gapF_le HI.out (by omega) k (by rw [HT.out]; omega)
      have hgn := gapF_nn xs k
      have HG : Hid (gapF xs (k + 1) = if gapF xs k < gi xs (k + 1) - gi xs k then gi xs (k + 1) - gi xs k else gapF xs k) := rfl
      obtain ⟨x, hx⟩ : ∃ x, gi xs (k + 1) = x := ⟨_, rfl⟩
      obtain ⟨y, hy⟩ : ∃ y, gi xs k = y := ⟨_, rfl⟩
      obtain ⟨g, hgg⟩ : ∃ g, gapF xs k = g := ⟨_, rfl⟩
      rw [hx, hy, hgg] at HG
      rw [hx] at h1 hg1
      rw [hy] at h2 hg2
      rw [hgg] at hgp hgn
      rw [hgg]
      clear hx hy hgg
      have i1 : IntKind.i64.wrap (((k + 1 : Nat) : Int) - 1) = (k : Int) := (IntWalk.i64_in _ (by omega)).trans (by omega)
      have i2 : (0 : Int) ≤ ((k + 1 : Nat) : Int) := by omega
      have i3 : ((k + 1 : Nat) : Int) < (n : Int) := by omega
      have i4 : (0 : Int) ≤ (k : Int) := by omega
      have i5 : (k : Int) < (n : Int) := by omega
      have i6 : IntKind.i64.wrap (x - y) = x - y := IntWalk.i64_in _ (by omega)
      by_cases hm : g < x - y
      · rw [if_pos hm] at HG
        go_wp2_with fail
        go_quiet (fail)
        clear i1 i6
        go_wp2_with fail
        go_roundw
        case rel => exact ⟨k + 1, by omega, by go_num, by rw [HG.out], _, by first | exact World.drewN_drewN _ _ _ | rfl⟩
        case measure => simp [intOf]; omega
      · rw [if_neg hm] at HG
        go_wp2_with fail
        go_quiet (fail)
        clear i1 i6
        go_wp2_with fail
        go_roundw
        case rel => exact ⟨k + 1, by omega, by go_num, by rw [HG.out], _, by first | exact World.drewN_drewN _ _ _ | rfl⟩
        case measure => simp [intOf]; omega
    · go_wp2_with fail
      go_ret
      exact ⟨ret_int (by congr 1; omega), below_drewN (Below.refl _ _) q⟩

theorem reverse_take (xs : List Int) (k : Nat) (hk : k < xs.length) : xs.reverse.take (k + 1) = xs.reverse.take k ++ [gi xs (xs.length - 1 - k)] := by
  rw [List.take_succ_eq_append_getElem (by simpa using hk)]
  congr 2
  rw [List.getElem_reverse, gi_eq (by omega)]
set_option maxHeartbeats 2000000 in
theorem mirrored_any (A : Option Addr) (n c : Nat) (xs : List Int) (w : World) (h8 : n ≤ 8) (hxs : xs.length = n) (hr : Reads w w.heap.size 1 A n (icells xs)) :
    Calls Try.prog 18 #[.slice A n c] w fun e w' => (∃ A' c', e = .returned (.slice A' n c') ∧ LstI w' w.heap.size A' n c' xs.reverse) ∧ Below w.heap.size w w' := by
  have HR := Lib.hid (fun W (hB : Below w.heap.size w W) => hr.below hB); clear hr
  have HT := Lib.hid hxs; clear hxs
  have HO := Lib.hid (own_empty w 3 1)
  have HB0 := Lib.hid ((Below.refl w.heap.size w).alloc (Nat.le_refl _) (.cells #[] 3))
  go_enter Try.func18, Try.ntmps18
  go_wp2_with fail
  go_loopw [3, 4] (fun v i wr => ∃ (k : Nat) (A' : Option Addr) (c' : Nat), k ≤ n ∧ i = .int .i64 ((n : Int) - 1 - k) ∧ v = .slice A' k c' ∧ k ≤ c' ∧ wr.ownsRow w.heap.size 3 1 (.slice A' k c') k (icells (xs.reverse.take k)) ∧ Below w.heap.size w wr) (fun _ i _ => ((intOf i) + 1).toNat)
  case atStart => exact ⟨0, _, _, Nat.zero_le _, by simp, rfl, Nat.le_refl _, HO.out, HB0.out⟩
  case round =>
    clear HO HB0
    obtain ⟨k, A', c', hk, rfl, rfl, hkc, hown, hB⟩ := hrel
    have HW := Lib.hid hown; have HB := Lib.hid hB; clear hown hB
    by_cases hlt : k < n
    · obtain ⟨b, off, rfl, hb, h1⟩ := (HR.out wr HB.out).int (show n - 1 - k < n by omega)
      have HTK := Lib.hid (reverse_take xs k (by rw [HT.out]; exact hlt))
      rw [HT.out] at HTK
      obtain ⟨j, hj⟩ : ∃ j, n - 1 - k = j := ⟨_, rfl⟩
      rw [hj] at HTK h1
      rw [show ((n : Int) - 1 - (k : Int)) = (j : Int) by omega]
      have hjn : j < n := by omega
      have HJ := Lib.hid hj; clear hj
      generalize gi xs j = x at *
      have hbl : b < wr.heap.size := Nat.lt_of_lt_of_le hb HB.out.size
      have hsz := HB.out.size
      go_wp2_with (at_builtin; refine wpList_app1 _ rfl (.tmp 13) (.tmp 18) _ rfl w.heap.size 3 1 8 elInt A' c' k (icells (xs.reverse.take k)) rfl (HW.out.alloc _) wr.heap.size #[.int .i64 x] rfl (Blk.new wr _ _) rfl ?h1 (by omega) (by omega) (by simp; omega) ?_)
      case h1 => simp [Value.oneCell']
      intro A2 c2 w4 hown4 hc4 hb4
      have HW4 := Lib.hid hown4; clear hown4
      have HB4 := Lib.hid ((HB.out.alloc HB.out.size (.cells #[.int .i64 x] 3)).trans hb4); clear hb4
      go_wp2_with fail
      go_roundw
      case rel =>
        have := HJ.out
        refine ⟨k + 1, A2, c2, by omega, by first | (congr 1; omega) | (simp; omega), rfl, hc4, ?_, HB4.out⟩
        rw [HTK.out, icells_snoc]; exact HW4.out
      case measure => simp [intOf]
    · obtain rfl : k = n := by omega
      go_wp2_with fail
      go_ret
      exact ⟨⟨A', c', rfl, lstI_own hkc (by rw [List.length_reverse, HT.out]) (by have := HW.out; rwa [List.take_of_length_le (by rw [List.length_reverse, HT.out]; exact Nat.le_refl _)] at this)⟩, HB.out⟩
end Go.Proofs.Ytmmnkdjibdlcjaa
