/- A line is put at its place. -/
import Derived.Test.YtnljibgjfobkbaaLn1
namespace Go.Proofs.Ytnljibgjfobkbaa
open Go.RowKit
attribute [local go_sem ↓] Go.wp_at_zero Go.wp_at_succ

set_option maxHeartbeats 4000000 in
theorem l31Put_any (g n c : Nat) (ls : List L3) (x1 x2 x3 : Int) (w : World) (hn : n ≤ 1000) (hnc : n ≤ c) (hls : ls.length = n) (hr : Reads w w.heap.size 3 (some ⟨g, 0, none⟩) n (lcells ls)) :
    Calls Try.prog 23 #[.slice (some ⟨g, 0, none⟩) n c, .agg #[.int .i64 x1, .int .i64 x2, .int .i64 x3]] w fun e w' => (∃ g' c' ls', e = .returned (.slice (some ⟨g', 0, none⟩) (n + 1) c') ∧ n + 1 ≤ c' ∧ g' < w'.heap.size ∧ ls'.length = n + 1 ∧ ls'.Perm ((x1, x2, x3) :: ls) ∧ Reads w' w'.heap.size 3 (some ⟨g', 0, none⟩) (n + 1) (lcells ls')) ∧ Below w.heap.size w w' := by
  have HR := Lib.hid (fun W (hB : Below w.heap.size w W) => (hr.below hB).more hB.size); clear hr
  have HT := Lib.hid hls; clear hls
  have HX := Lib.hid (Blk.new w 45 #[.int .i64 x1, .int .i64 x2, .int .i64 x3])
  have HB0 := Lib.hid ((Below.refl w.heap.size w).alloc (Nat.le_refl _) (.cells #[.int .i64 x1, .int .i64 x2, .int .i64 x3] 45))
  go_enter Try.func23, Try.ntmps23
  go_wp2_with fail
  go_loopw [5] (fun i wr => ∃ k : Nat, k ≤ n ∧ i = .int .i64 k ∧ Hid (Blk wr w.heap.size 45 #[.int .i64 x1, .int .i64 x2, .int .i64 x3]) ∧ Hid (Below w.heap.size w wr)) (fun i _ => (intOf i).toNat)
  case atStart => exact ⟨n, Nat.le_refl _, rfl, HX.out, HB0.out⟩
  case round =>
    clear HX HB0
    obtain ⟨k, hk, rfl, HX, HB⟩ := hrel
    obtain ⟨y1, y2, y3, _, _, _⟩ := blk3 HX.out
    have hlt := HX.out.lt
    by_cases h0 : k = 0
    · have d0 : decide (0 < k) = false := decide_eq_false (by omega)
      have HK : Hid (k = 0) := h0
      clear h0
      go_wp2_with fail
      refine wp_region_after (by kernel_rfl) (by kernel_rfl) ?_
      repeat (go_big_quiet_step (fail))
      refine wpQuiet_nil ?_
      intro w9 hw'
      obtain ⟨⟨w9', hb9⟩, hw''⟩ := hw'
      subst hw''
      have HX9 := Lib.hid (HX.out.sub hb9)
      have HB9 := Lib.hid (HB.out.trans (hb9.mono HB.out.size)); clear hb9
      have s9 := HB9.out.size
      have hlt9 := HX9.out.lt
      obtain ⟨z1, z2, z3, _, _, _⟩ := blk3 HX9.out
      have HR9 := Lib.hid (HR.out _ HB9.out)
      have HBa := Lib.hid (HB9.out.alloc HB9.out.size (.cells #[] 45))
      have hcut : ∀ W, Below w9.heap.size w9 W → ∀ q u, (lcells (ls.take k))[q]? = some u → W.cell? ((⟨g, 0, none⟩ : Addr).add q) = some u := fun W hW q u hj => by
        rw [← lcells_take, List.getElem?_take] at hj
        split at hj
        · obtain ⟨b, off, e, hb, hc⟩ := HR9.out.2 (by omega)
          cases e
          have h := hc _ _ hj
          rw [Nat.zero_add] at h
          have : (⟨g, 0, none⟩ : Addr).add q = ⟨g, q, none⟩ := by unfold Addr.add; split <;> simp_all
          rw [this]
          exact (hW.cell hb).trans h
        · cases hj
      have hcut2 : ∀ W, Below w9.heap.size w9 W → ∀ q u, (lcells (ls.drop k))[q]? = some u → W.cell? ((⟨g, k * 3, none⟩ : Addr).add q) = some u := fun W hW q u hj => by
        rw [← lcells_drop, List.getElem?_drop] at hj
        have hkn : k < n := by
          rcases Nat.lt_or_ge k n with h | h
          · exact h
          · rw [List.getElem?_eq_none (by rw [lcells_len, HT.out]; omega)] at hj; cases hj
        obtain ⟨b, off, e, hb, hc⟩ := HR9.out.2 (by omega)
        cases e
        have h := hc _ _ hj
        rw [Nat.zero_add] at h
        have : (⟨g, k * 3, none⟩ : Addr).add q = ⟨g, k * 3 + q, none⟩ := by unfold Addr.add; split <;> simp_all
        rw [this]
        exact (hW.cell hb).trans h
      have i3 : (0 : Int) ≤ (k : Int) := by omega
      have i4 : (k : Int) ≤ (n : Int) := by omega
      have i5 : (k : Int) ≤ (c : Int) := by omega
      have HC1 := Lib.hid hcut; have HC2 := Lib.hid hcut2; clear hcut hcut2
      go_wp2_with (at_builtin; go_loud (refine wpList_appN _ rfl (.tmp 22) (.tmp 25) _ rfl w9.heap.size 45 3 24 elLine _ 0 0 [] rfl (own_empty w9 45 3) ⟨g, 0, none⟩ k c (lcells (ls.take k)) rfl (by rw [lcells_len, List.length_take, HT.out, Nat.min_eq_left (by omega)]) (HC1.out _ ((Below.refl _ _).alloc (Nat.le_refl _) _)) (lcells_one_cell _) k (by omega) (by omega) (by omega) (by simp) ?_))
      intro A1 c1 v1 hown1 hc1 hb1
      try rw [List.nil_append] at hown1
      have HW1 := Lib.hid hown1; clear hown1
      have HBb := Lib.hid (Below.trans ((Below.refl w9.heap.size w9).alloc (Nat.le_refl _) (.cells #[] 45)) hb1); clear hb1
      replace z1 := (HBb.out.cell (p := ⟨w.heap.size, 0, none⟩) hlt9).trans z1
      replace z2 := (HBb.out.cell (p := ⟨w.heap.size, 1, none⟩) hlt9).trans z2
      replace z3 := (HBb.out.cell (p := ⟨w.heap.size, 2, none⟩) hlt9).trans z3
      have s1 := HBb.out.size
      go_wp2_with (at_builtin; refine wpList_app1 _ rfl (.tmp 27) (.tmp 29) _ rfl w9.heap.size 45 3 24 elLine A1 c1 k (lcells (ls.take k)) rfl (HW1.out.alloc _) v1.heap.size #[.int .i64 x1, .int .i64 x2, .int .i64 x3] rfl (Blk.new v1 _ _) rfl ?h1 (by omega) (by omega) (by simp; omega) ?_)
      case h1 => simp [Value.oneCell']
      intro A2 c2 v2 hown2 hc2 hb2
      have HW2 := Lib.hid hown2; clear hown2 HW1
      have HBc := Lib.hid ((HBb.out.alloc HBb.out.size (.cells #[.int .i64 x1, .int .i64 x2, .int .i64 x3] 45)).trans hb2); clear hb2 HBb
      have s2 := HBc.out.size
      by_cases hkc : c = k
      · obtain rfl : k = n := by omega
        subst hkc
        go_wp2_with (at_builtin; refine wpList_appN _ rfl (.tmp 31) (.tmp 34) _ rfl w9.heap.size 45 3 24 elLine A2 c2 (c + 1) _ rfl HW2.out ⟨g, 0, none⟩ 0 0 [] rfl rfl (fun j u hj => by simp at hj) (fun u hu => by simp at hu) (c + 1) (by omega) (by omega) (by omega) (by omega) ?_)
        intro A3 c3 v3 hown3 hc3 hb3
        have HW3 := Lib.hid hown3; clear hown3 HW2
        have HBd := Lib.hid (HBc.out.trans hb3); clear hb3 HBc
        obtain ⟨g3, rfl, hg3⟩ := own_some HW3.out (by omega)
        go_wp2_with fail
        go_ret
        refine ⟨⟨g3, c3, ls ++ [(x1, x2, x3)], rfl, hc3, ?_, by simp [HT.out], List.perm_append_comm, ?_⟩, HB9.out.trans (HBd.out.mono HB9.out.size)⟩
        · exact (HW3.out.lt g3 rfl).2
        · have h := own_reads HW3.out
          try rw [List.append_nil] at h
          rwa [List.take_of_length_le (by rw [HT.out]; exact Nat.le_refl _), ← lcells_one, ← lcells_append] at h
      · go_wp2_with (at_builtin; refine wpList_appN _ rfl (.tmp 31) (.tmp 34) _ rfl w9.heap.size 45 3 24 elLine A2 c2 (k + 1) _ rfl HW2.out ⟨g, k * 3, none⟩ (n - k) (c - k) (lcells (ls.drop k)) rfl (by rw [lcells_len, List.length_drop, HT.out]) (HC2.out _ HBc.out) (lcells_one_cell _) (n + 1) (by omega) (by omega) (by omega) (by omega) ?_)
        intro A3 c3 v3 hown3 hc3 hb3
        have HW3 := Lib.hid hown3; clear hown3 HW2
        have HBd := Lib.hid (HBc.out.trans hb3); clear hb3 HBc
        obtain ⟨g3, rfl, hg3⟩ := own_some HW3.out (by omega)
        go_wp2_with fail
        go_ret
        refine ⟨⟨g3, c3, ls.take k ++ [(x1, x2, x3)] ++ ls.drop k, rfl, hc3, ?_, by simp [HT.out]; omega, ?_, ?_⟩, HB9.out.trans (HBd.out.mono HB9.out.size)⟩
        · exact (HW3.out.lt g3 rfl).2
        · refine (List.Perm.append_right _ List.perm_append_comm).trans ?_
          rw [List.append_assoc, List.take_append_drop]; exact List.Perm.refl _
        · have h : Reads v3 v3.heap.size 3 (some ⟨g3, 0, none⟩) (n + 1) (lcells (ls.take k) ++ (lcells [(x1, x2, x3)] ++ lcells (ls.drop k))) := own_reads HW3.out
          rwa [← lcells_append, ← lcells_append, ← List.append_assoc] at h
    obtain ⟨j, rfl⟩ : ∃ j, k = j + 1 := ⟨k - 1, by omega⟩
    clear h0
    have d0 : decide (0 < j + 1) = true := decide_eq_true (by omega)
    obtain ⟨r1, r2, r3⟩ := (HR.out wr HB.out).line (show j < n by omega)
    have HA := Lib.hid (fun W => l31Ahead_any x1 x2 x3 (gL ls j).1 (gL ls j).2.1 (gL ls j).2.2 W)
    generalize (gL ls j).1 = e1 at *
    generalize (gL ls j).2.1 = e2 at *
    generalize (gL ls j).2.2 = e3 at *
    have k1 := After.cell y1
    have k2 := After.cell y2
    have k3 := After.cell y3
    have k4 := After.cell r1
    have k5 := After.cell r2
    have k6 := After.cell r3
    have u1 : IntKind.i64.wrap ((j : Int) + 1 - 1) = (j : Int) := (IntWalk.i64_in _ (by omega)).trans (by omega)
    have i1 : (0 : Int) ≤ (j : Int) := by omega
    have i2 : (j : Int) < (n : Int) := by omega
    cases ha : ahB (x1, x2, x3) (e1, e2, e3)
    · rw [ha] at HA; clear ha
      go_wp2_with fail
      refine wp_region_after (by kernel_rfl) (by kernel_rfl) ?_
      repeat (go_big_quiet_step ((go_at_call 32; exact after_call _ (HA.out _))))
      refine wpQuiet_nil ?_
      intro w9 hw'
      obtain ⟨⟨w9', hb9⟩, hw''⟩ := hw'
      subst hw''
      have HX9 := Lib.hid (HX.out.sub hb9)
      have HB9 := Lib.hid (HB.out.trans (hb9.mono HB.out.size)); clear hb9
      clear k1 k2 k3 k4 k5 k6 u1 i1 i2 r1 r2 r3 y1 y2 y3
      have s9 := HB9.out.size
      have hlt9 := HX9.out.lt
      obtain ⟨z1, z2, z3, _, _, _⟩ := blk3 HX9.out
      have HR9 := Lib.hid (HR.out _ HB9.out)
      have HBa := Lib.hid (HB9.out.alloc HB9.out.size (.cells #[] 45))
      have hcut : ∀ W, Below w9.heap.size w9 W → ∀ q u, (lcells (ls.take (j + 1)))[q]? = some u → W.cell? ((⟨g, 0, none⟩ : Addr).add q) = some u := fun W hW q u hj => by
        rw [← lcells_take, List.getElem?_take] at hj
        split at hj
        · obtain ⟨b, off, e, hb, hc⟩ := HR9.out.2 (by omega)
          cases e
          have h := hc _ _ hj
          rw [Nat.zero_add] at h
          have : (⟨g, 0, none⟩ : Addr).add q = ⟨g, q, none⟩ := by unfold Addr.add; split <;> simp_all
          rw [this]
          exact (hW.cell hb).trans h
        · cases hj
      have hcut2 : ∀ W, Below w9.heap.size w9 W → ∀ q u, (lcells (ls.drop (j + 1)))[q]? = some u → W.cell? ((⟨g, (j + 1) * 3, none⟩ : Addr).add q) = some u := fun W hW q u hj => by
        rw [← lcells_drop, List.getElem?_drop] at hj
        have hkn : j + 1 < n := by
          rcases Nat.lt_or_ge (j + 1) n with h | h
          · exact h
          · rw [List.getElem?_eq_none (by rw [lcells_len, HT.out]; omega)] at hj; cases hj
        obtain ⟨b, off, e, hb, hc⟩ := HR9.out.2 (by omega)
        cases e
        have h := hc _ _ hj
        rw [Nat.zero_add] at h
        have : (⟨g, (j + 1) * 3, none⟩ : Addr).add q = ⟨g, (j + 1) * 3 + q, none⟩ := by unfold Addr.add; split <;> simp_all
        rw [this]
        exact (hW.cell hb).trans h
      have i3 : (0 : Int) ≤ ((j : Int) + 1) := by omega
      have i4 : ((j : Int) + 1) ≤ (n : Int) := by omega
      have i5 : ((j : Int) + 1) ≤ (c : Int) := by omega
      have HC1 := Lib.hid hcut; have HC2 := Lib.hid hcut2; clear hcut hcut2
      go_wp2_with (at_builtin; go_loud (refine wpList_appN _ rfl (.tmp 22) (.tmp 25) _ rfl w9.heap.size 45 3 24 elLine _ 0 0 [] rfl (own_empty w9 45 3) ⟨g, 0, none⟩ (j + 1) c (lcells (ls.take (j + 1))) rfl (by rw [lcells_len, List.length_take, HT.out, Nat.min_eq_left (by omega)]) (HC1.out _ ((Below.refl _ _).alloc (Nat.le_refl _) _)) (lcells_one_cell _) (j + 1) (by omega) (by omega) (by omega) (by simp) ?_))
      intro A1 c1 v1 hown1 hc1 hb1
      try rw [List.nil_append] at hown1
      have HW1 := Lib.hid hown1; clear hown1
      have HBb := Lib.hid (Below.trans ((Below.refl w9.heap.size w9).alloc (Nat.le_refl _) (.cells #[] 45)) hb1); clear hb1
      replace z1 := (HBb.out.cell (p := ⟨w.heap.size, 0, none⟩) hlt9).trans z1
      replace z2 := (HBb.out.cell (p := ⟨w.heap.size, 1, none⟩) hlt9).trans z2
      replace z3 := (HBb.out.cell (p := ⟨w.heap.size, 2, none⟩) hlt9).trans z3
      have s1 := HBb.out.size
      go_wp2_with (at_builtin; refine wpList_app1 _ rfl (.tmp 27) (.tmp 29) _ rfl w9.heap.size 45 3 24 elLine A1 c1 (j + 1) (lcells (ls.take (j + 1))) rfl (HW1.out.alloc _) v1.heap.size #[.int .i64 x1, .int .i64 x2, .int .i64 x3] rfl (Blk.new v1 _ _) rfl ?h1 (by omega) (by omega) (by simp; omega) ?_)
      case h1 => simp [Value.oneCell']
      intro A2 c2 v2 hown2 hc2 hb2
      have HW2 := Lib.hid hown2; clear hown2 HW1
      have HBc := Lib.hid ((HBb.out.alloc HBb.out.size (.cells #[.int .i64 x1, .int .i64 x2, .int .i64 x3] 45)).trans hb2); clear hb2 HBb
      have s2 := HBc.out.size
      by_cases hkc : c = j + 1
      · obtain rfl : n = j + 1 := by omega
        subst hkc
        go_wp2_with (at_builtin; refine wpList_appN _ rfl (.tmp 31) (.tmp 34) _ rfl w9.heap.size 45 3 24 elLine A2 c2 (j + 1 + 1) _ rfl HW2.out ⟨g, 0, none⟩ 0 0 [] rfl rfl (fun j u hj => by simp at hj) (fun u hu => by simp at hu) (j + 1 + 1) (by omega) (by omega) (by omega) (by omega) ?_)
        intro A3 c3 v3 hown3 hc3 hb3
        have HW3 := Lib.hid hown3; clear hown3 HW2
        have HBd := Lib.hid (HBc.out.trans hb3); clear hb3 HBc
        obtain ⟨g3, rfl, hg3⟩ := own_some HW3.out (by omega)
        go_wp2_with fail
        go_ret
        refine ⟨⟨g3, c3, ls ++ [(x1, x2, x3)], rfl, hc3, ?_, by simp [HT.out], List.perm_append_comm, ?_⟩, HB9.out.trans (HBd.out.mono HB9.out.size)⟩
        · exact (HW3.out.lt g3 rfl).2
        · have h := own_reads HW3.out
          try rw [List.append_nil] at h
          rwa [List.take_of_length_le (by rw [HT.out]; exact Nat.le_refl _), ← lcells_one, ← lcells_append] at h
      · go_wp2_with (at_builtin; refine wpList_appN _ rfl (.tmp 31) (.tmp 34) _ rfl w9.heap.size 45 3 24 elLine A2 c2 (j + 1 + 1) _ rfl HW2.out ⟨g, (j + 1) * 3, none⟩ (n - (j + 1)) (c - (j + 1)) (lcells (ls.drop (j + 1))) rfl (by rw [lcells_len, List.length_drop, HT.out]) (HC2.out _ HBc.out) (lcells_one_cell _) (n + 1) (by omega) (by omega) (by omega) (by omega) ?_)
        intro A3 c3 v3 hown3 hc3 hb3
        have HW3 := Lib.hid hown3; clear hown3 HW2
        have HBd := Lib.hid (HBc.out.trans hb3); clear hb3 HBc
        obtain ⟨g3, rfl, hg3⟩ := own_some HW3.out (by omega)
        go_wp2_with fail
        go_ret
        refine ⟨⟨g3, c3, ls.take (j + 1) ++ [(x1, x2, x3)] ++ ls.drop (j + 1), rfl, hc3, ?_, by simp [HT.out]; omega, ?_, ?_⟩, HB9.out.trans (HBd.out.mono HB9.out.size)⟩
        · exact (HW3.out.lt g3 rfl).2
        · refine (List.Perm.append_right _ List.perm_append_comm).trans ?_
          rw [List.append_assoc, List.take_append_drop]; exact List.Perm.refl _
        · have h : Reads v3 v3.heap.size 3 (some ⟨g3, 0, none⟩) (n + 1) (lcells (ls.take (j + 1)) ++ (lcells [(x1, x2, x3)] ++ lcells (ls.drop (j + 1)))) := own_reads HW3.out
          rwa [← lcells_append, ← lcells_append, ← List.append_assoc] at h
    · rw [ha] at HA; clear ha
      go_wp2_with fail
      refine wp_region_after (by kernel_rfl) (by kernel_rfl) ?_
      repeat (go_big_quiet_step ((go_at_call 32; exact after_call _ (HA.out _))))
      refine wpQuiet_nil ?_
      intro w9 hw'
      obtain ⟨⟨w9', hb9⟩, hw''⟩ := hw'
      subst hw''
      have HX9 := Lib.hid (HX.out.sub hb9)
      have HB9 := Lib.hid (HB.out.trans (hb9.mono HB.out.size)); clear hb9
      clear k1 k2 k3 k4 k5 k6 r1 r2 r3 y1 y2 y3
      go_wp2_with fail
      go_roundw
      case rel => exact ⟨j, by omega, rfl, HX9.out, HB9.out⟩
      case measure => first | (simp [intOf]; done) | (simp [intOf]; omega)
end Go.Proofs.Ytnljibgjfobkbaa
