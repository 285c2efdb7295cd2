/- The implementation's MarkPos. -/
import Derived.Test.YtogbjneldipnpaaMk5
import Derived.Test.YtogbjneldipnpaaAfter
namespace Go.Proofs.Ytogbjneldipnpaa
open Go.RowKit
attribute [local go_sem ↓] Go.wp_at_zero Go.wp_at_succ

set_option maxHeartbeats 1000000 in
theorem markPos1_any (G D1 D2 D3 n : Nat) (ms : List T2) (lo y : Int) (i : Nat) (w : World) (hts : ms.length = n) (hp : Plate w G n ms) (hv : mvB ms = true) (h0 : gp ms 0 ≤ lo) (h1 : lo + i ≤ gp ms (n - 1))
    (c1 : w.cell? ⟨D1, 0, none⟩ = some (.pointer (some ⟨G, 0, none⟩))) (c2 : w.cell? ⟨D2, 0, none⟩ = some (.int .i64 lo)) (c3 : w.cell? ⟨D3, 0, none⟩ = some (.int .i64 y))
    (b1 : D1 < w.heap.size) (b2 : D2 < w.heap.size) (b3 : D3 < w.heap.size) :
    Calls Try.prog 39 (#[.int .i64 i] ++ #[.pointer (some ⟨D1, 0, none⟩), .pointer (some ⟨D2, 0, none⟩), .pointer (some ⟨D3, 0, none⟩)]) w fun e w' => e = .returned (.bool (decide (y ≤ numF ms (lo + i)))) ∧ Below w.heap.size w w' := by
  have hnn := (mvB_iff.1 hv).1
  have hbd0 := mvB_bd hv (k := 0) (by omega)
  have hbdm := mvB_bd hv (k := n - 1) (by omega)
  have HN := Lib.hid (number_any G n ms (lo + i) w.drew hts hp hv (by omega) h1)
  have i1 : IntKind.i64.wrap (lo + (i : Int)) = lo + (i : Int) := IntWalk.i64_in _ (by omega)
  have HB0 := Lib.hid (Below.refl w.heap.size w)
  generalize numF ms (lo + i) = N at *
  clear hp hv
  go_enter Try.func39, Try.ntmps39
  go_wp2_with fail
  go_region_held3 (fun w' => w'.cell? ⟨D1, 0, none⟩ = some (.pointer (some ⟨G, 0, none⟩)) ∧ w'.cell? ⟨D2, 0, none⟩ = some (.int .i64 lo) ∧ w'.cell? ⟨D3, 0, none⟩ = some (.int .i64 y))
    (first | exact ⟨c1, c2, c3⟩ | exact ⟨(hb.cell b1).trans c1, (hb.cell b2).trans c2, (hb.cell b3).trans c3⟩)
    (first | (go_at_call 33; refine HN.out.mono ?_; rintro e w2 ⟨rfl, hb⟩))
  have HB1 := Lib.hid (HB0.out.drew.trans hb); clear hb
  go_wp2_with fail
  go_ret
  exact ⟨rfl, HB1.out⟩

theorem enters39 : ∀ args w, (callFunc 39 args).run Try.prog w = .ok (.enter 39 args) w :=
  enters_of Try.func39 (by kernel_rfl) rfl

theorem posSearch_any (G D1 D2 D3 n : Nat) (ms : List T2) (y v : Int) (w : World) (hts : ms.length = n) (hp : Plate w G n ms) (hv : mvB ms = true) (hl : Least ms y v)
    (c1 : w.cell? ⟨D1, 0, none⟩ = some (.pointer (some ⟨G, 0, none⟩))) (c2 : w.cell? ⟨D2, 0, none⟩ = some (.int .i64 (gp ms 0))) (c3 : w.cell? ⟨D3, 0, none⟩ = some (.int .i64 y)) :
    Calls Try.prog 38 #[.int .i64 (gp ms (n - 1) - gp ms 0), .func (.func 39) #[] #[.pointer (some ⟨D1, 0, none⟩), .pointer (some ⟨D2, 0, none⟩), .pointer (some ⟨D3, 0, none⟩)]] w
      fun e w' => e = .returned (.int .i64 (v - gp ms 0)) ∧ Below w.heap.size w w' := by
  have hnn := (mvB_iff.1 hv).1
  have hm := mvB_rises hv
  have hbd0 := mvB_bd hv (k := 0) (by omega)
  have hbdm := mvB_bd hv (k := n - 1) (by omega)
  obtain ⟨hl1, hl2, hl3⟩ := hl
  rw [hts] at hl1
  have e1 : gp ms (n - 1) - gp ms 0 = (((gp ms (n - 1) - gp ms 0).toNat : Nat) : Int) := by omega
  have e2 : v - gp ms 0 = (((v - gp ms 0).toNat : Nat) : Int) := by omega
  rw [e1, e2]
  refine search_any _ _ _ (v - gp ms 0).toNat w enters39 (by omega) (by omega) ?_
  intro i w' hi hb
  refine (markPos1_any G D1 D2 D3 n ms (gp ms 0) y i w' hts (hp.below hb) hv (Int.le_refl _) (by omega) ((hb.cell (World.block_lt_of_cell? _ _ c1)).trans c1) ((hb.cell (World.block_lt_of_cell? _ _ c2)).trans c2) ((hb.cell (World.block_lt_of_cell? _ _ c3)).trans c3)
    (Nat.lt_of_lt_of_le (World.block_lt_of_cell? _ _ c1) hb.size) (Nat.lt_of_lt_of_le (World.block_lt_of_cell? _ _ c2) hb.size) (Nat.lt_of_lt_of_le (World.block_lt_of_cell? _ _ c3) hb.size)).mono ?_
  rintro e w2 ⟨rfl, hb2⟩
  refine ⟨ret_bool ?_, hb2⟩
  apply decide_eq_decide.2
  constructor
  · intro h5
    rcases Int.lt_or_le (gp ms 0 + i) v with h6 | h6
    · have := hl3 _ (by omega) h6; omega
    · omega
  · intro h5
    have := numF_mono hm (by omega) hl1.1 (show v ≤ gp ms 0 + i by omega)
    omega

set_option maxHeartbeats 2000000 in
theorem implMarkPos_any (A : Option Addr) (n c : Nat) (ms : List T2) (y : Int) (w : World) (hn : n ≤ 1048576) (hts : ms.length = n) (hr : Reads w w.heap.size 2 A n (tcells ms)) :
    Calls Try.prog 22 #[.slice A n c, .int .i64 y] w fun e w' => e = .returned (mpV ms y) ∧ Below w.heap.size w w' := by
  have hR := fun W (hB : Below w.heap.size w W) => (hr.below hB).more hB.size
  have HMV := Lib.hid (fun W hB => implMarksValid_any A n c ms W hn hts (hR W hB))
  have HT := Lib.hid hts
  have HB0 := Lib.hid ((Below.refl w.heap.size w).alloc (Nat.le_refl _) (.cells #[.int .i64 y] 3))
  have HD3 := Lib.hid (Blk.new w 3 #[.int .i64 y])
  cases hv : mvB ms
  · obtain ⟨V, hV⟩ : ∃ V, mpV ms y = V := ⟨_, rfl⟩
    rw [hV]
    have HVV := Lib.hid (hV.symm.trans (mpV_no1 hv)); clear hV
    rw [hv] at HMV; clear hv
    clear hr hts hR
    go_enter Try.func22, Try.ntmps22
    go_wp2_with fail
    refine wp_region_after (by kernel_rfl) (by kernel_rfl) ?_
    repeat (go_big_quiet_step ((go_at_call 20; exact after_call _ (HMV.out _ (HB0.out.trans ((After.below _).mono HB0.out.size))))))
    refine wpQuiet_nil ?_
    intro w1 hw'
    obtain ⟨⟨w1', hb1⟩, hw''⟩ := hw'
    subst hw''
    have HB1 := Lib.hid (HB0.out.trans (hb1.mono HB0.out.size)); clear hb1
    go_wp2_with fail
    go_ret2
    exact ⟨ret_val HVV.out.symm, HB1.out⟩
  have hnn := (mvB_iff.1 hv).1
  rw [hts] at hnn
  have HY := Lib.hid (fun h' => mpV_yes (y := y) hv h')
  have HNO := Lib.hid (fun h' => mpV_no2 (ms := ms) (y := y) h')
  obtain ⟨V, hV⟩ : ∃ V, mpV ms y = V := ⟨_, rfl⟩
  rw [hV] at HY HNO ⊢
  rw [hts] at HY HNO
  clear hV
  have hm := mvB_rises hv
  have HLE := Lib.hid (fun h => posF_least hm (by omega) (y := y) h)
  have HMO := Lib.hid (fun (u v : Int) (h0 : gp ms 0 ≤ u) (h : u ≤ v) => numF_mono hm (by omega) h0 h)
  rw [hts] at HLE
  have hbd0 := mvB_bd hv (k := 0) (by omega)
  have hbdm := mvB_bd hv (k := n - 1) (by omega)
  have HGO := Lib.hid (fun G D1 D2 D3 v W hp hl => posSearch_any G D1 D2 D3 n ms y v W hts hp hv hl)
  have HV := Lib.hid hv
  rw [hv] at HMV; clear hv
  obtain ⟨m, rfl⟩ : ∃ m, n = m + 1 := ⟨n - 1, by omega⟩
  simp only [Nat.add_sub_cancel] at HY HNO HLE hbdm HGO
  obtain ⟨b, off, rfl, hb, r1, r2⟩ := hr.mark (show m < m + 1 by omega)
  obtain ⟨b', off', e', hb', s1, s2⟩ := hr.mark (show 0 < m + 1 by omega)
  cases e'
  have HR := Lib.hid hR; clear hr hR
  have i1 : IntKind.i64.wrap (((m + 1 : Nat) : Int) - 1) = (m : Int) := (IntWalk.i64_in _ (by omega)).trans (by omega)
  have i2 : (0 : Int) ≤ (m : Int) := by omega
  have i3 : (m : Int) < ((m + 1 : Nat) : Int) := by omega
  have i4 : (0 : Int) < ((m + 1 : Nat) : Int) := by omega
  simp only [Nat.zero_mul, Nat.add_zero] at s1 s2
  have HLD : Hid (∀ v, Least ms y v → (gp ms 0 ≤ v ∧ v ≤ gp ms m) ∧ y ≤ numF ms v ∧ ∀ z, gp ms 0 ≤ z → z < v → numF ms z < y) := fun v h => by
    have h2 : Least ms y v := h
    unfold Least at h2
    rw [hts] at h2
    exact h2
  clear hts
  generalize hg0 : gp ms 0 = p0 at *
  generalize hgm : gp ms m = pm at *
  generalize hgn0 : gn ms 0 = n0 at *
  generalize hgnm : gn ms m = nm at *
  clear hg0 hgm hgn0 hgnm
  have x3 := (blk1 HD3.out).1
  replace r1 := cell_past (.cells #[.int .i64 y] 3) r1
  replace r2 := cell_past (.cells #[.int .i64 y] 3) r2
  replace s1 := cell_past (.cells #[.int .i64 y] 3) s1
  replace s2 := cell_past (.cells #[.int .i64 y] 3) s2
  have k1 := After.cell x3
  have k2 := After.cell r2
  have k3 := After.cell s2
  by_cases hx0 : y < n0
  · go_enter Try.func22, Try.ntmps22
    go_wp2_with fail
    refine wp_region_after (by kernel_rfl) (by kernel_rfl) ?_
    repeat (go_big_quiet_step ((go_at_call 20; exact after_call _ (HMV.out _ (HB0.out.trans ((After.below _).mono HB0.out.size))))))
    refine wpQuiet_nil ?_
    intro w1 hw'
    obtain ⟨⟨w1', hb1⟩, hw''⟩ := hw'
    subst hw''
    have HB1 := Lib.hid (HB0.out.trans (hb1.mono HB0.out.size)); clear hb1
    go_wp2_with fail
    go_ret2
    exact ⟨ret_val (HNO.out (inB_not.2 (.inl hx0))).symm, HB1.out⟩
  have d0 : decide (y < n0) = false := by simpa using hx0
  by_cases hx1 : nm < y
  · go_enter Try.func22, Try.ntmps22
    go_wp2_with fail
    refine wp_region_after (by kernel_rfl) (by kernel_rfl) ?_
    repeat (go_big_quiet_step ((go_at_call 20; exact after_call _ (HMV.out _ (HB0.out.trans ((After.below _).mono HB0.out.size))))))
    refine wpQuiet_nil ?_
    intro w1 hw'
    obtain ⟨⟨w1', hb1⟩, hw''⟩ := hw'
    subst hw''
    have HB1 := Lib.hid (HB0.out.trans (hb1.mono HB0.out.size)); clear hb1
    go_wp2_with fail
    go_ret2
    exact ⟨ret_val (HNO.out (inB_not.2 (.inr hx1))).symm, HB1.out⟩
  · have d1 : decide (nm < y) = false := by simpa using hx1
    replace HY := Lib.hid (HY.out (inB_iff.2 (by omega)))
    have hl := HLE.out (by omega)
    have hl1 := (HLD.out _ hl).1
    have HL := Lib.hid hl; clear hl HLE HNO HLD
    generalize posF ms y = v at *
    go_enter Try.func22, Try.ntmps22
    go_wp2_with fail
    refine wp_region_after (by kernel_rfl) (by kernel_rfl) ?_
    repeat (go_big_quiet_step ((go_at_call 20; exact after_call _ (HMV.out _ (HB0.out.trans ((After.below _).mono HB0.out.size))))))
    refine wpQuiet_nil ?_
    intro w1 hw'
    obtain ⟨⟨w1', hb1⟩, hw''⟩ := hw'
    subst hw''
    have HB1 := Lib.hid (HB0.out.trans (hb1.mono HB0.out.size))
    replace x3 := k1 ⟨w1, hb1⟩
    replace r1 := After.cell r1 ⟨w1, hb1⟩
    replace s1 := After.cell s1 ⟨w1, hb1⟩
    simp only at x3 r1 s1
    have hsz := hb1.size
    simp only [World.size_alloc] at hsz
    clear hb1 k1 k2 k3 r2 s2
    have q1 : w.heap.size < w1.heap.size := by omega
    have q2 : b < w1.heap.size := by omega
    go_wp2_with fail
    refine (newPlate_any _ _ _ _ _ rfl).mono ?_
    rintro e w2 ⟨rfl, rfl⟩
    go_wp2_with fail
    have HP1 := Lib.hid (Blk.new w1 55 #[.slice (some ⟨b, off, none⟩) (m + 1) c])
    have HP2 := Lib.hid (Blk.new (w1.alloc (.cells #[.slice (some ⟨b, off, none⟩) (m + 1) c] 55)) 44 #[.pointer (some ⟨w1.heap.size, 0, none⟩)])
    replace HP1 := Lib.hid (HP1.out.alloc (.cells #[.pointer (some ⟨w1.heap.size, 0, none⟩)] 44))
    have HB2 := Lib.hid ((HB1.out.alloc HB1.out.size (.cells #[.slice (some ⟨b, off, none⟩) (m + 1) c] 55)).alloc (by simp; omega) (.cells #[.pointer (some ⟨w1.heap.size, 0, none⟩)] 44))
    replace x3 := cell_past (.cells #[.pointer (some ⟨w1.heap.size, 0, none⟩)] 44) (cell_past (.cells #[.slice (some ⟨b, off, none⟩) (m + 1) c] 55) x3)
    replace r1 := cell_past (.cells #[.pointer (some ⟨w1.heap.size, 0, none⟩)] 44) (cell_past (.cells #[.slice (some ⟨b, off, none⟩) (m + 1) c] 55) r1)
    replace s1 := cell_past (.cells #[.pointer (some ⟨w1.heap.size, 0, none⟩)] 44) (cell_past (.cells #[.slice (some ⟨b, off, none⟩) (m + 1) c] 55) s1)
    rw [World.size_alloc] at HP2
    generalize (w1.alloc (.cells #[.slice (some ⟨b, off, none⟩) (m + 1) c] 55)).alloc (.cells #[.pointer (some ⟨w1.heap.size, 0, none⟩)] 44) = W2 at *
    have q3 : b < W2.heap.size := World.block_lt_of_cell? _ _ s1
    have i5 : IntKind.i64.wrap (m : Int) = (m : Int) := IntWalk.i64_in _ (by omega)
    have hq2 : Hid (w.heap.size ≤ W2.heap.size) := HB2.out.size
    clear q1 q2 hb hb' hsz
    go_region
    have c2 := (blk1 (Blk.new W2 3 #[.int .i64 p0])).1
    have c1 := cell_past (.cells #[.int .i64 p0] 3) (blk1 HP2.out).1
    have c3 := cell_past (.cells #[.int .i64 p0] 3) x3
    have HB3 := Lib.hid ((HB2.out.alloc HB2.out.size (.cells #[.int .i64 p0] 3)).drew)
    have HPL : Hid (Plate (W2.alloc (.cells #[.int .i64 p0] 3)).drew w1.heap.size (m + 1) ms) :=
      ⟨_, c, cell_past (.cells #[.int .i64 p0] 3) (blk1 HP1.out).1, Nat.lt_of_lt_of_le HP1.out.lt (by simp), HR.out _ HB3.out⟩
    replace c1 : (W2.alloc (.cells #[.int .i64 p0] 3)).drew.cell? _ = _ := c1
    replace c2 : (W2.alloc (.cells #[.int .i64 p0] 3)).drew.cell? _ = _ := c2
    replace c3 : (W2.alloc (.cells #[.int .i64 p0] 3)).drew.cell? _ = _ := c3
    generalize (W2.alloc (.cells #[.int .i64 p0] 3)).drew = W3 at *
    generalize W2.heap.size = D2 at *
    clear x3 r1 s1 i5 HP1 HP2
    have HPP := Lib.hid (fun p : After W3 => HPL.out.below p.below)
    have k1 := After.cell c1
    have k2 := After.cell c2
    have k3 := After.cell c3
    have i6 : IntKind.i64.wrap (pm - p0) = pm - p0 := IntWalk.i64_in _ (by omega)
    have i7 : IntKind.i64.wrap (p0 + (v - p0)) = v := (IntWalk.i64_in _ (by omega)).trans (by omega)
    go_wp2_with fail
    refine wp_region_after (by kernel_rfl) (by kernel_rfl) ?_
    repeat (go_big_quiet_step ((go_at_call 38; exact after_call _ (HGO.out _ _ _ _ v _ (HPP.out _) HL.out (k1 _) (k2 _) (k3 _)))))
    refine wpQuiet_nil ?_
    intro w4 hw'
    obtain ⟨⟨w4', hb4⟩, hw''⟩ := hw'
    subst hw''
    have HB4 := Lib.hid (HB3.out.trans (hb4.mono HB3.out.size)); clear hb4 k1 k2 k3 c1 c2 c3
    go_wp2_with fail
    go_ret2
    exact ⟨ret_val HY.out.symm, HB4.out⟩
end Go.Proofs.Ytogbjneldipnpaa
