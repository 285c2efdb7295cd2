/- The reference: ways, counts of microstates, the list of all terms of a shell. -/
import Derived.Test.YtjglgcgkmfbdpaaDoorMicP
import Derived.Test.YtjglgcgkmfbdpaaDoorSmall
import Derived.Test.YtjglgcgkmfbdpaaDoorCpl
import Derived.Test.YtjglgcgkmfbdpaaDoorAfter
import Derived.Test.YtjglgcgkmfbdpaaDoorDraw2
namespace Go.Proofs.YtjglgcgkmfbdpaaDoor
open Go.RowKit

theorem pow4_le {d : Nat} (h : d ≤ 5) : (4 : Int) ^ d ≤ 1024 := by
  have h5 : d = 0 ∨ d = 1 ∨ d = 2 ∨ d = 3 ∨ d = 4 ∨ d = 5 := by omega
  rcases h5 with rfl | rfl | rfl | rfl | rfl | rfl <;> decide

set_option maxHeartbeats 1000000 in
theorem ways_any (l : Int) (hl : 0 ≤ l ∧ l ≤ 2) : ∀ (d : Nat), d ≤ 5 → ∀ (m n o s : Int) (w : World), m + d = l + 1 → (-2000 + 100 * (d : Int) ≤ n ∧ n ≤ 2000) → (-2000 + 100 * (d : Int) ≤ o ∧ o ≤ 2000 - 100 * (d : Int)) → (-2000 + 100 * (d : Int) ≤ s ∧ s ≤ 2000 - 100 * (d : Int)) →
    Calls Tryd.prog 31 #[.int .i64 l, .int .i64 m, .int .i64 n, .int .i64 o, .int .i64 s] w fun e w' => e = .returned (.int .i64 (ways l d n o s)) ∧ w = w' := by
  intro d
  induction d with
  | zero =>
    intro _ m n o s w hm hn ho hs
    have hlt : l < m := by omega
    have HW : Hid (ways l 0 n o s = if n = 0 ∧ o = 0 ∧ s = 0 then 1 else 0) := rfl
    by_cases h1 : n = 0 ∧ o = 0 ∧ s = 0
    · obtain ⟨rfl, rfl, rfl⟩ := h1
      clear hm
      go_enter Tryd.func31, Tryd.ntmps31
      go_wp2_with fail
      go_ret
      exact ⟨ret_int (by rw [HW.out]; rfl), rfl⟩
    · have HZ : Hid (ways l 0 n o s = 0) := by unfold Hid; rw [HW.out, if_neg h1]
      clear hm HW
      by_cases hn0 : n = 0
      · by_cases ho0 : o = 0
        · have hs0 : ¬ s = 0 := fun h => h1 ⟨hn0, ho0, h⟩
          clear h1
          subst hn0 ho0
          have q : (s == 0) = false := by simpa using hs0
          clear hs0
          go_enter Tryd.func31, Tryd.ntmps31
          go_wp2_with fail
          go_ret
          exact ⟨ret_int HZ.out.symm, rfl⟩
        · clear h1
          subst hn0
          have q : (o == 0) = false := by simpa using ho0
          clear ho0
          go_enter Tryd.func31, Tryd.ntmps31
          go_wp2_with fail
          go_ret
          exact ⟨ret_int HZ.out.symm, rfl⟩
      · clear h1
        have q : (n == 0) = false := by simpa using hn0
        clear hn0
        go_enter Tryd.func31, Tryd.ntmps31
        go_wp2_with fail
        go_ret
        exact ⟨ret_int HZ.out.symm, rfl⟩
  | succ d ih =>
    intro hd m n o s w hm hn ho hs
    have hle : m ≤ l := by omega
    have hmd : l - d = m := by omega
    by_cases h1 : n < 0 ∨ 2 * ((d : Int) + 1) < n
    · have HW : Hid (ways l (d + 1) n o s = 0) := by unfold Hid ways; rw [if_pos h1]
      have e1 : 2 * (l - m + 1) = 2 * ((d : Int) + 1) := by omega
      have HE := Lib.hid e1
      clear ih
      rcases h1 with h1 | h1
      · clear hm hmd e1
        go_enter Tryd.func31, Tryd.ntmps31
        go_wp2_with fail
        go_ret
        exact ⟨ret_int HW.out.symm, rfl⟩
      · have h2 : 2 * (l - m + 1) < n := by omega
        have h3 : ¬ n < 0 := by omega
        clear hm hmd e1
        go_enter Tryd.func31, Tryd.ntmps31
        go_wp2_with fail
        go_ret
        exact ⟨ret_int HW.out.symm, rfl⟩
    · have HW : Hid (ways l (d + 1) n o s = ways l d n o s + ways l d (n - 1) (o - m) (s - 1) + ways l d (n - 1) (o - m) (s + 1) + ways l d (n - 2) (o - 2 * m) s) := by unfold Hid; rw [ways, if_neg h1, hmd]
      have h2 : ¬ 2 * (l - m + 1) < n := by omega
      have h3 : ¬ n < 0 := by omega
      have c1 := Lib.hid (fun W => ih (by omega) (m + 1) n o s W (by omega) (by omega) (by omega) (by omega))
      have c2 := Lib.hid (fun W => ih (by omega) (m + 1) (n - 1) (o - m) (s - 1) W (by omega) (by omega) (by omega) (by omega))
      have c3 := Lib.hid (fun W => ih (by omega) (m + 1) (n - 1) (o - m) (s + 1) W (by omega) (by omega) (by omega) (by omega))
      have c4 := Lib.hid (fun W => ih (by omega) (m + 1) (n - 2) (o - 2 * m) s W (by omega) (by omega) (by omega) (by omega))
      have p4 := pow4_le (d := d) (by omega)
      have b1 := ways_bd l d n o s
      have b2 := ways_bd l d (n - 1) (o - m) (s - 1)
      have b3 := ways_bd l d (n - 1) (o - m) (s + 1)
      have b4 := ways_bd l d (n - 2) (o - 2 * m) s
      have d1 : 0 ≤ ways l d n o s ∧ ways l d n o s ≤ 1024 := by omega
      have d2 : 0 ≤ ways l d (n - 1) (o - m) (s - 1) ∧ ways l d (n - 1) (o - m) (s - 1) ≤ 1024 := by omega
      have d3 : 0 ≤ ways l d (n - 1) (o - m) (s + 1) ∧ ways l d (n - 1) (o - m) (s + 1) ≤ 1024 := by omega
      have d4 : 0 ≤ ways l d (n - 2) (o - 2 * m) s ∧ ways l d (n - 2) (o - 2 * m) s ≤ 1024 := by omega
      have bm : -5 ≤ m ∧ m ≤ 3 := by omega
      clear b1 b2 b3 b4 p4 ih hm hmd h1
      generalize ways l d n o s = x1 at *
      generalize ways l d (n - 1) (o - m) (s - 1) = x2 at *
      generalize ways l d (n - 1) (o - m) (s + 1) = x3 at *
      generalize ways l d (n - 2) (o - 2 * m) s = x4 at *
      generalize ways l (d + 1) n o s = x at *
      go_enter Tryd.func31, Tryd.ntmps31
      go_wp2_with fail
      refine (c1.out _).mono ?_
      rintro e w1 ⟨rfl, rfl⟩
      go_wp2_with fail
      refine (c2.out _).mono ?_
      rintro e w1 ⟨rfl, rfl⟩
      go_wp2_with fail
      refine (c3.out _).mono ?_
      rintro e w1 ⟨rfl, rfl⟩
      go_wp2_with fail
      refine (c4.out _).mono ?_
      rintro e w1 ⟨rfl, rfl⟩
      go_wp2_with fail
      go_ret
      exact ⟨ret_int HW.out.symm, rfl⟩

theorem l12Ok_any (l n : Int) (hl : -100 ≤ l ∧ l ≤ 100) (w : World) : Calls Tryd.prog 15 #[.int .i64 l, .int .i64 n] w fun e w' => e = .returned (.bool (inB l 0 2 && inB n 0 (4 * l + 2))) ∧ w = w' := by
  have H := Lib.hid (fun n lo hi W => l6In_any n lo hi W)
  cases h1 : inB l 0 2
  · have HV := Lib.hid (fun W => l6In_any l 0 2 W)
    rw [h1] at HV
    clear h1
    go_enter Tryd.func15, Tryd.ntmps15
    go_wp2_with fail
    refine (HV.out _).mono ?_
    rintro e w1 ⟨rfl, rfl⟩
    go_wp2_with fail
    go_ret
    exact ⟨rfl, rfl⟩
  · have HV := Lib.hid (fun W => l6In_any l 0 2 W)
    rw [h1] at HV
    clear h1
    go_enter Tryd.func15, Tryd.ntmps15
    go_wp2_with fail
    refine (HV.out _).mono ?_
    rintro e w1 ⟨rfl, rfl⟩
    go_wp2_with fail
    refine (H.out _ _ _ _).mono ?_
    rintro e w1 ⟨rfl, rfl⟩
    go_wp2_with fail
    go_ret
    exact ⟨rfl, rfl⟩
theorem okLN {l n : Nat} (hl : l ≤ 2) (hn : n ≤ capL l) : (inB (l : Int) 0 2 && inB (n : Int) 0 (4 * (l : Int) + 2)) = true := by
  unfold capL at hn
  rw [Bool.and_eq_true, inB_iff, inB_iff]; omega
theorem mcS_bd (l n : Nat) (hl : l ≤ 2) (o s : Int) : 0 ≤ mcS l n o s ∧ mcS l n o s ≤ 1024 := by
  have := ways_bd l (2 * l + 1) n o s
  have := pow4_le (d := 2 * l + 1) (by omega)
  unfold mcS; omega

theorem specMicroCount_any (l n : Nat) (hl : l ≤ 2) (hn : n ≤ capL l) (o s : Int) (ho : -20 ≤ o ∧ o ≤ 20) (hs : -20 ≤ s ∧ s ≤ 20) (w : World) :
    Calls Tryd.prog 25 #[.int .i64 (l : Int), .int .i64 (n : Int), .int .i64 o, .int .i64 s] w fun e w' => e = .returned (.int .i64 (mcS l n o s)) ∧ w = w' := by
  have HOK := Lib.hid (fun W => l12Ok_any (l : Int) (n : Int) (by omega) W)
  rw [okLN hl hn] at HOK
  have hn' : n ≤ 10 := by unfold capL at hn; omega
  have HO := Lib.hid (fun W => l6In_any o (-20) 20 W)
  rw [inB_iff.2 ho] at HO
  have HS := Lib.hid (fun W => l6In_any s (-20) 20 W)
  rw [inB_iff.2 hs] at HS
  have HW := Lib.hid (fun W => ways_any (l : Int) (by omega) (2 * l + 1) (by omega) (0 - (l : Int)) (n : Int) o s W (by omega) (by omega) (by omega) (by omega))
  have HM := Lib.hid (show ways (l : Int) (2 * l + 1) (n : Int) o s = mcS l n o s from rfl)
  rw [HM.out] at HW
  simp only [Int.zero_sub] at HW
  generalize mcS l n o s = x at *
  clear hn HM
  go_enter Tryd.func25, Tryd.ntmps25
  go_wp2_with fail
  refine (HOK.out _).mono ?_
  rintro e w1 ⟨rfl, rfl⟩
  go_wp2_with fail
  refine (HO.out _).mono ?_
  rintro e w1 ⟨rfl, rfl⟩
  go_wp2_with fail
  refine (HS.out _).mono ?_
  rintro e w1 ⟨rfl, rfl⟩
  go_wp2_with fail
  refine (HW.out _).mono ?_
  rintro e w1 ⟨rfl, rfl⟩
  go_wp2_with fail
  go_ret
  exact ⟨rfl, rfl⟩

set_option maxHeartbeats 1000000 in
theorem specTermCount_any (l n : Nat) (hl : l ≤ 2) (hn : n ≤ capL l) (o s : Int) (ho : 0 ≤ o ∧ o ≤ 8) (hs : 0 ≤ s ∧ s ≤ 8) (w : World) :
    Calls Tryd.prog 16 #[.int .i64 (l : Int), .int .i64 (n : Int), .agg #[.int .i64 s, .int .i64 o]] w fun e w' => e = .returned (.int .i64 (tcS l n o s)) ∧ Below w.heap.size w w' := by
  have HOK := Lib.hid (fun W => l12Ok_any (l : Int) (n : Int) (by omega) W)
  rw [okLN hl hn] at HOK
  have HTV := Lib.hid (fun W => specTermValid_any (s, o) W)
  rw [tvB_iff.2 ⟨hs, ho⟩] at HTV
  have HM := Lib.hid (fun (o s : Int) (ho : -20 ≤ o ∧ o ≤ 20) (hs : -20 ≤ s ∧ s ≤ 20) W => specMicroCount_any l n hl hn o s ho hs W)
  have HT := Lib.hid (show tcS l n o s = mcS l n o s - mcS l n (o + 1) s - mcS l n o (s + 2) + mcS l n (o + 1) (s + 2) from rfl)
  have HBD := Lib.hid (fun o s => mcS_bd l n hl o s)
  generalize tcS l n o s = x at *
  obtain ⟨M, hM⟩ : ∃ M, mcS l n = M := ⟨_, rfl⟩
  rw [hM] at HM HT HBD
  clear hM
  have b1 := HBD.out o s
  have b2 := HBD.out (o + 1) s
  have b3 := HBD.out o (s + 2)
  have b4 := HBD.out (o + 1) (s + 2)
  have hB := (Below.refl w.heap.size w).alloc (Nat.le_refl _) (.cells #[.int .i64 s, .int .i64 o] 41)
  have HB := Lib.hid hB; clear hB
  go_enter Tryd.func16, Tryd.ntmps16
  go_wp2_with fail
  refine (HTV.out _).mono ?_
  rintro e w1 ⟨rfl, hb1⟩
  have HBK := Lib.hid ((Blk.new w 41 #[.int .i64 s, .int .i64 o]).sub hb1)
  have HB1 := Lib.hid (HB.out.trans (hb1.mono HB.out.size)); clear hb1 HB
  go_wp2_with fail
  refine (HOK.out _).mono ?_
  rintro e w2 ⟨rfl, rfl⟩
  go_wp2_with fail
  have k1 := After.cell (HBK.out.cell 0)
  have k2 := After.cell (HBK.out.cell 1)
  have u1 : IntKind.i64.wrap (o + 1) = o + 1 := IntWalk.i64_in _ (by omega)
  have u2 : IntKind.i64.wrap (M o s - M (o + 1) s) = M o s - M (o + 1) s := IntWalk.i64_in _ (by omega)
  refine wp_region_after (by kernel_rfl) (by kernel_rfl) ?_
  repeat (go_big_quiet_step ((go_at_call 25; exact after_same _ (HM.out _ _ (by omega) (by omega) _))))
  refine wpQuiet_nil ?_
  intro w9 hw'
  obtain ⟨⟨w9', hb9⟩, hw''⟩ := hw'
  subst hw''
  have HBK9 := Lib.hid (HBK.out.sub hb9)
  have HB9 := Lib.hid (HB1.out.trans (hb9.mono HB1.out.size)); clear hb9 k1 k2 u1 u2
  go_wp2_with fail
  have k1 := After.cell (HBK9.out.cell 0)
  have k2 := After.cell (HBK9.out.cell 1)
  have u1 : IntKind.i64.wrap (o + 1) = o + 1 := IntWalk.i64_in _ (by omega)
  have u3 : IntKind.i64.wrap (s + 2) = s + 2 := IntWalk.i64_in _ (by omega)
  have u2 : IntKind.i64.wrap (M o s - M (o + 1) s - M o (s + 2)) = M o s - M (o + 1) s - M o (s + 2) := IntWalk.i64_in _ (by omega)
  have u4 : IntKind.i64.wrap (M o s - M (o + 1) s - M o (s + 2) + M (o + 1) (s + 2)) = M o s - M (o + 1) s - M o (s + 2) + M (o + 1) (s + 2) := IntWalk.i64_in _ (by omega)
  refine wp_region_after (by kernel_rfl) (by kernel_rfl) ?_
  repeat (go_big_quiet_step ((go_at_call 25; exact after_same _ (HM.out _ _ (by omega) (by omega) _))))
  refine wpQuiet_nil ?_
  intro w10 hw'
  obtain ⟨⟨w10', hb10⟩, hw''⟩ := hw'
  subst hw''
  have HB10 := Lib.hid (HB9.out.trans (hb10.mono HB9.out.size)); clear hb10 k1 k2 u1 u2 u3 u4
  go_wp2_with fail
  go_ret
  exact ⟨ret_int HT.out.symm, HB10.out⟩
end Go.Proofs.YtjglgcgkmfbdpaaDoor
