/- The reference's number at a position; MarkNumber of both. -/
import Derived.Test.YtogbjneldipnpaaMk2
namespace Go.Proofs.Ytogbjneldipnpaa
open Go.RowKit
attribute [local go_sem ↓] Go.wp_at_zero Go.wp_at_succ

set_option maxHeartbeats 2000000 in
theorem l35Number_any (A : Option Addr) (n c : Nat) (ms : List T2) (x : Int) (w : World) (hts : ms.length = n) (hr : Reads w w.heap.size 2 A n (tcells ms)) (hv : mvB ms = true) (hx0 : gp ms 0 ≤ x) (hx1 : x ≤ gp ms (n - 1)) :
    Calls Try.prog 30 #[.slice A n c, .int .i64 x] w fun e w' => e = .returned (.int .i64 (numF ms x)) ∧ Below w.heap.size w w' := by
  have hnn := (mvB_iff.1 hv).1
  rw [hts] at hnn
  have hm := mvB_rises hv
  obtain ⟨m, rfl⟩ : ∃ m, n = m + 1 := ⟨n - 1, by omega⟩
  simp only [Nat.add_sub_cancel] at hx1
  have HNA := Lib.hid (fun k (h : At ms k x) => numF_at hm h hx0)
  have HNM := Lib.hid (numF_mark hm (k := m) (by omega))
  obtain ⟨N, hN⟩ : ∃ N, numF ms x = N := ⟨_, rfl⟩
  rw [hN]
  have HN := Lib.hid hN; clear hN
  have hB0 := Below.refl w.heap.size w
  obtain ⟨b, off, rfl, hb, r1, r2⟩ := hr.mark (show m < m + 1 by omega)
  have HR := Lib.hid hr; clear hr
  have i1 : IntKind.i64.wrap (((m + 1 : Nat) : Int) - 1) = (m : Int) := (IntWalk.i64_in _ (by omega)).trans (by omega)
  have HM := Lib.hid hm; clear hm
  have HV := Lib.hid hv; clear hv
  by_cases hxl : x = gp ms m
  · have hq : (x == gp ms m) = true := by simpa using hxl
    replace HN : Hid (gn ms m = N) := by unfold Hid; rw [← HN.out, hxl, HNM.out]
    clear hxl HNM HNA
    generalize gp ms m = a at *
    generalize gn ms m = g at *
    go_enter Try.func30, Try.ntmps30
    go_wp2_with fail
    go_ret
    exact ⟨ret_int HN.out, hB0⟩
  have hq : (x == gp ms m) = false := by simpa using hxl
  have hxm : x < gp ms m := by omega
  have HXM := Lib.hid hxm; clear hxm hxl hx1
  go_enter Try.func30, Try.ntmps30
  go_wp2_with fail
  clear hq r1 r2 HNM
  go_loop [6] (fun i => ∃ (k : Nat), k < m ∧ i = .int .i64 k ∧ gp ms k ≤ x) (fun i => m - (intOf i).toNat)
  case atStart => exact ⟨0, by omega, rfl, hx0⟩
  case round =>
    obtain ⟨k, hk, rfl, hkx⟩ := hrel
    obtain ⟨b', off', e', hb', s1, s2⟩ := HR.out.mark (show k < m + 1 by omega)
    cases e'
    obtain ⟨b', off', e', hb', t1, t2⟩ := HR.out.mark (show k + 1 < m + 1 by omega)
    cases e'
    have HMM := Lib.hid (HM.out k (k + 1) (by omega) (by omega))
    have HBK := Lib.hid (mvB_bd HV.out (k := k) (by omega))
    have HBK2 := Lib.hid (mvB_bd HV.out (k := k + 1) (by omega))
    by_cases hgo : k + 1 < m ∧ gp ms (k + 1) ≤ x
    · obtain ⟨hg1, hg2⟩ := hgo
      have HG2 := Lib.hid hg2
      generalize hy : gp ms (k + 1) = y at *
      have HY := Lib.hid hy; clear hy
      go_wp2_with fail
      go_round
      case rel => exact ⟨k + 1, hg1, by go_num, by rw [HY.out]; exact HG2.out⟩
      case measure => simp [intOf]; omega
    · have ha1 : x < gp ms (k + 1) := by
        rcases Nat.lt_or_ge (k + 1) m with h | h
        · omega
        · obtain rfl : k + 1 = m := by omega
          exact HXM.out
      have hA : At ms k x := ⟨by omega, hkx, fun _ => ha1⟩
      replace HN : Hid (ip (gp ms k) (gn ms k) (gp ms (k + 1)) (gn ms (k + 1)) x = N) := by
        unfold Hid
        rw [← HN.out, HNA.out k hA]
        unfold numI
        rw [if_pos (by omega)]
      have hbk := HBK.out
      have hbk2 := HBK2.out
      have hmm := HMM.out
      have HGO := Lib.hid hgo; clear hgo
      clear HNA HXM hx0 HR HM HBK HBK2 HMM
      generalize gp ms k = a at *
      generalize gn ms k = g at *
      generalize gp ms (k + 1) = a2 at *
      generalize gn ms (k + 1) = g2 at *
      obtain ⟨p1, p2, p3, p4⟩ := ip_parts (a := a) (b := g) (c := a2) (d := g2) (x := x) (by omega) (by omega) (by omega) (by omega) (by omega) (by omega) (by omega)
      unfold ip at HN
      have hle : decide (a2 ≤ x) = false := by simp; omega
      have HB3 := Lib.hid ((hB0.alloc hB0.size (.cells #[.int .i64 a, .int .i64 g] 34)).alloc (by simp) (.cells #[.int .i64 a2, .int .i64 g2] 34))
      go_wp2_with fail
      all_goals
        obtain ⟨y1, y2, _, _⟩ := blk2 ((Blk.new w 34 #[.int .i64 a, .int .i64 g]).alloc (.cells #[.int .i64 a2, .int .i64 g2] 34))
        have hz := blk2 (Blk.new (w.alloc (.cells #[.int .i64 a, .int .i64 g] 34)) 34 #[.int .i64 a2, .int .i64 g2])
        rw [World.size_alloc] at hz
        obtain ⟨z1, z2, _, _⟩ := hz
        have u1 : IntKind.i64.wrap (x - a) = x - a := IntWalk.i64_in _ (by omega)
        have u2 : IntKind.i64.wrap (g2 - g) = g2 - g := IntWalk.i64_in _ (by omega)
        have u3 : IntKind.i64.wrap ((x - a) * (g2 - g)) = (x - a) * (g2 - g) := IntWalk.i64_in _ (by omega)
        have u4 : IntKind.i64.wrap (a2 - a) = a2 - a := IntWalk.i64_in _ (by omega)
        have u5 : IntKind.i64.wrap (((x - a) * (g2 - g)).tdiv (a2 - a)) = (x - a) * (g2 - g) / (a2 - a) := IntWalk.i64_quo _ _ (by omega)
        have u6 : IntKind.i64.wrap (g + (x - a) * (g2 - g) / (a2 - a)) = g + (x - a) * (g2 - g) / (a2 - a) := IntWalk.i64_in _ (by omega)
        have u7 : ¬ (a2 - a = 0) := by omega
        clear s1 s2 t1 t2
        go_quiet (fail)
        clear u1 u2 u3 u4 u5 u6
        go_wp2_with fail
        go_ret
        exact ⟨ret_int HN.out, below_drewN HB3.out _⟩

/-- What MarkNumber says. -/
def mnV (ms : List T2) (x : Int) : Value :=
  if (mvB ms && inB x (gp ms 0) (gp ms (ms.length - 1))) = true then .tuple #[.int .i64 (numF ms x), .bool true] else .tuple #[.int .i64 0, .bool false]
theorem mnV_yes {ms : List T2} {x : Int} (h : mvB ms = true) (h' : inB x (gp ms 0) (gp ms (ms.length - 1)) = true) : mnV ms x = .tuple #[.int .i64 (numF ms x), .bool true] := by simp [mnV, h, h']
theorem mnV_no1 {ms : List T2} {x : Int} (h : mvB ms = false) : mnV ms x = .tuple #[.int .i64 0, .bool false] := by simp [mnV, h]
theorem mnV_no2 {ms : List T2} {x : Int} (h' : inB x (gp ms 0) (gp ms (ms.length - 1)) = false) : mnV ms x = .tuple #[.int .i64 0, .bool false] := by simp [mnV, h']
theorem ret_val {a b : Value} (h : a = b) : Ending.returned a = .returned b := by rw [h]

set_option maxHeartbeats 2000000 in
theorem implMarkNumber_any (A : Option Addr) (n c : Nat) (ms : List T2) (x : Int) (w : World) (hn : n ≤ 1048576) (hts : ms.length = n) (hr : Reads w w.heap.size 2 A n (tcells ms)) :
    Calls Try.prog 17 #[.slice A n c, .int .i64 x] w fun e w' => e = .returned (mnV ms x) ∧ Below w.heap.size w w' := by
  have HMV := Lib.hid (implMarksValid_any A n c ms w hn hts hr)
  have HT := Lib.hid hts
  cases hv : mvB ms
  · obtain ⟨V, hV⟩ : ∃ V, mnV ms x = V := ⟨_, rfl⟩
    rw [hV]
    have HVV := Lib.hid (hV.symm.trans (mnV_no1 hv)); clear hV
    have HV := Lib.hid hv; clear hv
    clear hr hts
    go_enter Try.func17, Try.ntmps17
    go_wp2_with fail
    refine HMV.out.mono ?_
    rintro e w1 ⟨rfl, hb1⟩
    rw [HV.out]
    have HB1 := Lib.hid hb1; clear hb1
    go_wp2_with fail
    go_ret2
    exact ⟨ret_val HVV.out.symm, HB1.out⟩
  have hnn := (mvB_iff.1 hv).1
  rw [hts] at hnn
  have HNP := Lib.hid (fun G W h0 h1 (hp : Plate W G n ms) => number_any G n ms x W hts hp hv h0 h1)
  have HL := Lib.hid (fun (h : mnV ms x = .tuple #[.int .i64 0, .bool false]) => h)
  have HY := Lib.hid (fun h' => mnV_yes (x := x) hv h')
  have HNO := Lib.hid (fun h' => mnV_no2 (ms := ms) (x := x) h')
  obtain ⟨V, hV⟩ : ∃ V, mnV ms x = V := ⟨_, rfl⟩
  rw [hV] at HY HNO ⊢
  rw [hts] at HY HNO
  clear hV HL
  have HV := Lib.hid hv; clear hv
  obtain ⟨m, rfl⟩ : ∃ m, n = m + 1 := ⟨n - 1, by omega⟩
  simp only [Nat.add_sub_cancel] at HY HNO HNP
  obtain ⟨b, off, rfl, hb, r1, r2⟩ := hr.mark (show m < m + 1 by omega)
  obtain ⟨b', off', e', hb', s1, s2⟩ := hr.mark (show 0 < m + 1 by omega)
  cases e'
  have HR := Lib.hid (fun W (hB : Below w.heap.size w W) => (hr.below hB).more hB.size); clear hr
  have i1 : IntKind.i64.wrap (((m + 1 : Nat) : Int) - 1) = (m : Int) := (IntWalk.i64_in _ (by omega)).trans (by omega)
  simp only [Nat.zero_mul, Nat.add_zero] at s1 s2
  clear hts
  generalize hg0 : gp ms 0 = p0 at *
  generalize hgm : gp ms m = pm at *
  go_enter Try.func17, Try.ntmps17
  go_wp2_with fail
  refine HMV.out.mono ?_
  rintro e w1 ⟨rfl, hb1⟩
  rw [HV.out]
  replace r1 := (hb1.cell (p := ⟨b, off + m * 2, none⟩) hb).trans r1
  replace s1 := (hb1.cell (p := ⟨b, off, none⟩) hb).trans s1
  have HB1 := Lib.hid hb1; clear hb1
  by_cases hx0 : x < p0
  · go_wp2_with fail
    go_ret2
    exact ⟨ret_val (HNO.out (inB_not.2 (.inl hx0))).symm, HB1.out⟩
  by_cases hx1 : pm < x
  · go_wp2_with fail
    go_ret2
    exact ⟨ret_val (HNO.out (inB_not.2 (.inr hx1))).symm, HB1.out⟩
  replace HY := Lib.hid (HY.out (inB_iff.2 (by omega)))
  replace HNP := Lib.hid (fun G W => HNP.out G W (by omega) (by omega))
  go_wp2_with fail
  refine (newPlate_any _ _ _ _ _ rfl).mono ?_
  rintro e w2 ⟨rfl, rfl⟩
  have HP : Hid (Plate (w1.alloc (.cells #[.slice (some ⟨b, off, none⟩) (m + 1) c] 55)) w1.heap.size (m + 1) ms) :=
    ⟨_, c, (blk1 (Blk.new _ _ _)).1, by simp, HR.out _ (HB1.out.alloc HB1.out.size _)⟩
  have HB2 := Lib.hid (HB1.out.alloc HB1.out.size (.cells #[.slice (some ⟨b, off, none⟩) (m + 1) c] 55))
  go_wp2_with fail
  refine (HNP.out _ _ HP.out).mono ?_
  rintro e w3 ⟨rfl, hb3⟩
  have HB3 := Lib.hid (HB2.out.trans (hb3.mono HB2.out.size)); clear hb3
  generalize numF ms x = N at *
  go_wp2_with fail
  go_ret2
  exact ⟨ret_val HY.out.symm, HB3.out⟩
end Go.Proofs.Ytogbjneldipnpaa
