/- Which lines there are; the reference's count of them. -/
import Derived.Test.YtnljibgjfobkbaaLn2
import Derived.StillTailTactics
namespace Go.Proofs.Ytnljibgjfobkbaa
open Go.RowKit
attribute [local go_sem ↓] Go.wp_at_zero Go.wp_at_succ

theorem l1Abs_any (n : Int) (w : World) (h : -9223372036854775807 ≤ n) (h' : n ≤ 9223372036854775807) :
    Calls Try.prog 38 #[.int .i64 n] w fun e w' => e = .returned (.int .i64 (n.natAbs : Int)) ∧ w = w' := by
  by_cases h1 : n < 0
  · go_enter Try.func38, Try.ntmps38
    go_wp2
    go_ret
    exact ⟨ret_int (by omega), rfl⟩
  · go_enter Try.func38, Try.ntmps38
    go_wp2
    go_ret
    exact ⟨ret_int (by omega), rfl⟩

theorem abs_any (n : Int) (w : World) (h : -9223372036854775807 ≤ n) (h' : n ≤ 9223372036854775807) :
    Calls Try.prog 34 #[.int .i64 n] w fun e w' => e = .returned (.int .i64 (n.natAbs : Int)) ∧ w = w' := by
  by_cases h1 : n < 0
  · go_enter Try.func34, Try.ntmps34
    go_wp2
    go_ret
    exact ⟨ret_int (by omega), rfl⟩
  · go_enter Try.func34, Try.ntmps34
    go_wp2
    go_ret
    exact ⟨ret_int (by omega), rfl⟩


def nrB (j k : Int) : Bool := decide ((j - k).natAbs ≤ 2) && (j != 0 || k != 0)

theorem l25Near_any (j k : Int) (w : World) (hj : 0 ≤ j ∧ j ≤ 24) (hk : 0 ≤ k ∧ k ≤ 24) :
    Calls Try.prog 31 #[.int .i64 j, .int .i64 k, .int .i64 2] w fun e w' => e = .returned (.bool (nrB j k)) ∧ w = w' := by
  have HA := Lib.hid (l1Abs_any (j - k) w (by omega) (by omega))
  have u1 : IntKind.i64.wrap (j - k) = j - k := IntWalk.i64_in _ (by omega)
  by_cases h2 : (j - k).natAbs ≤ 2
  · have d1 : decide (((j - k).natAbs : Int) ≤ 2) = true := decide_eq_true (by omega)
    have d2 : decide ((j - k).natAbs ≤ 2) = true := decide_eq_true h2
    have he : nrB j k = (j != 0 || k != 0) := by simp [nrB, h2]
    rw [he]
    by_cases hj0 : j = 0
    · have e1 : (j != 0) = false := by simpa using hj0
      rw [e1, Bool.false_or]
      clear he hj0 h2
      go_enter Try.func31, Try.ntmps31
      go_wp2_with fail
      refine HA.out.mono ?_
      rintro e w1 ⟨rfl, rfl⟩
      go_wp2_with fail
      go_ret
      exact ⟨rfl, rfl⟩
    · have e1 : (j != 0) = true := by simpa using hj0
      rw [e1, Bool.true_or]
      clear he hj0 h2
      go_enter Try.func31, Try.ntmps31
      go_wp2_with fail
      refine HA.out.mono ?_
      rintro e w1 ⟨rfl, rfl⟩
      go_wp2_with fail
      go_ret
      exact ⟨rfl, rfl⟩
  · have d1 : decide (((j - k).natAbs : Int) ≤ 2) = false := decide_eq_false (by omega)
    have d2 : decide ((j - k).natAbs ≤ 2) = false := decide_eq_false h2
    have he : nrB j k = false := by simp [nrB, h2]
    rw [he]
    clear he h2
    go_enter Try.func31, Try.ntmps31
    go_wp2_with fail
    refine HA.out.mono ?_
    rintro e w1 ⟨rfl, rfl⟩
    go_wp2_with fail
    go_ret
    exact ⟨rfl, rfl⟩

theorem stepsBy_any (j k : Int) (w : World) (hj : 0 ≤ j ∧ j ≤ 24) (hk : 0 ≤ k ∧ k ≤ 24) :
    Calls Try.prog 25 #[.int .i64 j, .int .i64 k, .int .i64 2] w fun e w' => e = .returned (.bool (nrB j k)) ∧ w = w' := by
  have HA := Lib.hid (abs_any (j - k) w (by omega) (by omega))
  have u1 : IntKind.i64.wrap (j - k) = j - k := IntWalk.i64_in _ (by omega)
  by_cases h2 : (j - k).natAbs ≤ 2
  · have d1 : decide (((j - k).natAbs : Int) ≤ 2) = true := decide_eq_true (by omega)
    have d2 : decide ((j - k).natAbs ≤ 2) = true := decide_eq_true h2
    have he : nrB j k = (j != 0 || k != 0) := by simp [nrB, h2]
    rw [he]
    by_cases hj0 : j = 0
    · have e1 : (j != 0) = false := by simpa using hj0
      rw [e1, Bool.false_or]
      clear he hj0 h2
      go_enter Try.func25, Try.ntmps25
      go_wp2_with fail
      refine HA.out.mono ?_
      rintro e w1 ⟨rfl, rfl⟩
      go_wp2_with fail
      go_ret
      exact ⟨rfl, rfl⟩
    · have e1 : (j != 0) = true := by simpa using hj0
      rw [e1, Bool.true_or]
      clear he hj0 h2
      go_enter Try.func25, Try.ntmps25
      go_wp2_with fail
      refine HA.out.mono ?_
      rintro e w1 ⟨rfl, rfl⟩
      go_wp2_with fail
      go_ret
      exact ⟨rfl, rfl⟩
  · have d1 : decide (((j - k).natAbs : Int) ≤ 2) = false := decide_eq_false (by omega)
    have d2 : decide ((j - k).natAbs ≤ 2) = false := decide_eq_false h2
    have he : nrB j k = false := by simp [nrB, h2]
    rw [he]
    clear he h2
    go_enter Try.func25, Try.ntmps25
    go_wp2_with fail
    refine HA.out.mono ?_
    rintro e w1 ⟨rfl, rfl⟩
    go_wp2_with fail
    go_ret
    exact ⟨rfl, rfl⟩

/-- Whether there is a line between two nodes. -/
def alB (t u : T3) : Bool := (t.2.2 != u.2.2) && nrB t.2.1 u.2.1
set_option maxHeartbeats 1000000 in
theorem l31Allowed_any (e1 j1 : Int) (o1 : Bool) (e2 j2 : Int) (o2 : Bool) (w : World) (h1 : 0 ≤ j1 ∧ j1 ≤ 24) (h2 : 0 ≤ j2 ∧ j2 ≤ 24) :
    Calls Try.prog 22 #[.agg #[.int .i64 e1, .int .i64 j1, .bool o1], .agg #[.int .i64 e2, .int .i64 j2, .bool o2]] w fun e w' => e = .returned (.bool (alB (e1, j1, o1) (e2, j2, o2))) ∧ Below w.heap.size w w' := by
  have hB : ∀ o1 o2, Below w.heap.size w ((w.alloc o1).alloc o2) := fun o1 o2 => (((Below.refl _ _).alloc (Nat.le_refl _) _).alloc (by simp) _)
  have HB := Lib.hid hB; clear hB
  have HN := Lib.hid (fun W => l25Near_any j1 j2 W h1 h2)
  clear h1 h2
  unfold alB
  generalize nrB j1 j2 = b at *
  cases o1 <;> cases o2
  · go_enter Try.func22, Try.ntmps22
    go_wp2_with fail
    go_ret
    exact ⟨rfl, HB.out _ _⟩
  · go_enter Try.func22, Try.ntmps22
    go_wp2_with fail
    refine (HN.out _).mono ?_
    rintro e w1 ⟨rfl, rfl⟩
    go_wp2_with fail
    go_ret
    exact ⟨rfl, HB.out _ _⟩
  · go_enter Try.func22, Try.ntmps22
    go_wp2_with fail
    refine (HN.out _).mono ?_
    rintro e w1 ⟨rfl, rfl⟩
    go_wp2_with fail
    go_ret
    exact ⟨rfl, HB.out _ _⟩
  · go_enter Try.func22, Try.ntmps22
    go_wp2_with fail
    go_ret
    exact ⟨rfl, HB.out _ _⟩

/-- The lines of one upper node, of all. -/
def rowL (ns : List T3) (i : Nat) : Nat → List L3
  | 0 => []
  | k + 1 => rowL ns i k ++ (if alB (gN ns i) (gN ns k) = true then [((i : Int), (k : Int), (gN ns i).1 - (gN ns k).1)] else [])
def allL (ns : List T3) : Nat → List L3
  | 0 => []
  | i + 1 => allL ns i ++ rowL ns i i
theorem rowL_len (ns : List T3) (i k : Nat) : (rowL ns i k).length ≤ k := by
  induction k with
  | zero => simp [rowL]
  | succ k ih => simp only [rowL, List.length_append]; split <;> simp <;> omega
theorem allL_len (ns : List T3) (i : Nat) (hi : i ≤ 12) : (allL ns i).length ≤ 12 * i := by
  induction i with
  | zero => simp [allL]
  | succ i ih => have h1 := ih (by omega); have h2 := rowL_len ns i i; simp only [allL, List.length_append]; omega
theorem svB_at {ns : List T3} (h : svB ns = true) {k : Nat} (hk : k < ns.length) : (0 ≤ (gN ns k).1 ∧ (gN ns k).1 ≤ 200000) ∧ (0 ≤ (gN ns k).2.1 ∧ (gN ns k).2.1 ≤ 24) := by
  have h1 := (okN_iff.1 ((svB_iff.1 h).2.2 k hk)).1
  unfold ndB at h1
  rwa [Bool.and_eq_true, inB_iff, inB_iff] at h1

set_option maxHeartbeats 4000000 in
theorem specSchemeLines_any (A : Option Addr) (n c : Nat) (ns : List T3) (w : World) (hn : n ≤ 1048576) (hns : ns.length = n) (hv : svB ns = true) (hr : Reads w w.heap.size 3 A n (ncells ns)) :
    Calls Try.prog 13 #[.slice A n c] w fun e w' => (∃ g c', e = .returned (.slice (some ⟨g, 0, none⟩) (allL ns n).length c')) ∧ Below w.heap.size w w' := by
  have hN := (svB_iff.1 hv).1
  rw [hns] at hN
  have HR := Lib.hid (fun W (hB : Below w.heap.size w W) => (hr.below hB).more hB.size)
  have HBA := Lib.hid (fun k (hk : k < n) => svB_at (k := k) hv (by rw [hns]; exact hk))
  have HV := Lib.hid (fun W (hB : Below w.heap.size w W) => specSchemeValid_any A n c ns W hn hns (HR.out W hB))
  rw [hv] at HV
  obtain ⟨b, off, rfl, hb, _, _, _⟩ := hr.node (show 0 < n by omega)
  clear hr hv hns
  have HB0 := Lib.hid ((Below.refl w.heap.size w).alloc (Nat.le_refl _) (.cells #[] 45))
  go_enter Try.func13, Try.ntmps13
  go_wp2_with fail
  refine (HV.out _ HB0.out).mono ?_
  rintro e w1 ⟨rfl, hb1⟩
  have HB1 := Lib.hid (HB0.out.trans (hb1.mono HB0.out.size)); clear hb1 HB0 HV
  go_wp2_with fail
  go_loopw [3, 4] (fun v i wr => ∃ (k q g c' : Nat) (ls : List L3), k ≤ n ∧ i = .int .i64 k ∧ v = .slice (some ⟨g, 0, none⟩) q c' ∧ q ≤ c' ∧ q = (allL ns k).length ∧ ls.length = q ∧ Hid (Reads wr wr.heap.size 3 (some ⟨g, 0, none⟩) q (lcells ls)) ∧ Hid (Below w.heap.size w wr)) (fun _ i _ => n - (intOf i).toNat)
  case atStart => exact ⟨0, 0, _, 0, [], Nat.zero_le _, rfl, rfl, Nat.le_refl _, rfl, rfl, ⟨rfl, fun h => absurd h (Nat.lt_irrefl 0)⟩, HB1.out⟩
  case round =>
    clear HB1
    obtain ⟨i, q, g, c', ls, hi, rfl, rfl, hqc, hq, hls, HL, HB⟩ := hrel
    have HQ := Lib.hid hq; clear hq
    have HLS := Lib.hid hls; clear hls
    by_cases hlt : i < n
    · have i3 : (0 : Int) ≤ (i : Int) := by omega
      have i4 : (i : Int) < (n : Int) := by omega
      go_wp2_with fail
      go_loopw [3, 5] (fun v j wq => ∃ (k q g c' : Nat) (ls : List L3), k ≤ i ∧ j = .int .i64 k ∧ v = .slice (some ⟨g, 0, none⟩) q c' ∧ q ≤ c' ∧ q = (allL ns i ++ rowL ns i k).length ∧ ls.length = q ∧ Hid (Reads wq wq.heap.size 3 (some ⟨g, 0, none⟩) q (lcells ls)) ∧ Hid (Below w.heap.size w wq)) (fun _ j _ => i - (intOf j).toNat)
      case atStart => exact ⟨0, q, g, c', ls, Nat.zero_le _, rfl, rfl, hqc, by rw [HQ.out]; simp [rowL], HLS.out, HL.out, HB.out⟩
      case round =>
        clear HL HB HQ HLS hqc
        obtain ⟨k, q, g, c', ls, hk, rfl, rfl, hqc, hq, hls, HL, HB⟩ := hrel
        have hq0 : q ≤ 1000 := by
          have h1 := rowL_len ns i k
          have h2 := allL_len ns i (by omega)
          rw [hq, List.length_append]; omega
        have HQ := Lib.hid hq; clear hq
        have HLS := Lib.hid hls; clear hls
        by_cases hki : k < i
        · obtain ⟨b', off', e', hb2, r1, r2, r3⟩ := (HR.out wr HB.out).node hlt
          cases e'
          obtain ⟨b', off', e', hb3, s1, s2, s3⟩ := (HR.out wr HB.out).node (show k < n by omega)
          cases e'
          have hbi := HBA.out i hlt
          have hbk := HBA.out k (by omega)
          have HAL := Lib.hid (fun W => l31Allowed_any (gN ns i).1 (gN ns i).2.1 (gN ns i).2.2 (gN ns k).1 (gN ns k).2.1 (gN ns k).2.2 W hbi.2 hbk.2)
          have HRW : Hid (rowL ns i (k + 1) = rowL ns i k ++ (if alB (gN ns i) (gN ns k) = true then [((i : Int), (k : Int), (gN ns i).1 - (gN ns k).1)] else [])) := rfl
          have HAE : Hid (alB ((gN ns i).1, (gN ns i).2.1, (gN ns i).2.2) ((gN ns k).1, (gN ns k).2.1, (gN ns k).2.2) = alB (gN ns i) (gN ns k)) := rfl
          obtain ⟨al, hal⟩ : ∃ al, alB (gN ns i) (gN ns k) = al := ⟨_, rfl⟩
          rw [HAE.out, hal] at HAL
          rw [hal] at HRW
          clear HAE hal
          generalize (gN ns i).1 = e1 at *
          generalize (gN ns i).2.1 = j1 at *
          generalize (gN ns i).2.2 = o1 at *
          generalize (gN ns k).1 = e2 at *
          generalize (gN ns k).2.1 = j2 at *
          generalize (gN ns k).2.2 = o2 at *
          have k1 := After.cell r1
          have k2 := After.cell r2
          have k3 := After.cell r3
          have k4 := After.cell s1
          have k5 := After.cell s2
          have k6 := After.cell s3
          have i5 : (0 : Int) ≤ (k : Int) := by omega
          have i6 : (k : Int) < (n : Int) := by omega
          go_wp2_with fail
          refine wp_region_after (by kernel_rfl) (by kernel_rfl) ?_
          repeat (go_big_quiet_step ((go_at_call 22; exact after_call _ (HAL.out _))))
          refine wpQuiet_nil ?_
          intro w9 hw'
          obtain ⟨⟨w9', hb9⟩, hw''⟩ := hw'
          subst hw''
          replace r1 := (hb9.cell (p := ⟨b, off + i * 3, none⟩) (by have := HB.out.size; omega)).trans r1
          replace s1 := (hb9.cell (p := ⟨b, off + k * 3, none⟩) (by have := HB.out.size; omega)).trans s1
          have HL9 := Lib.hid ((HL.out.below hb9).more hb9.size)
          have HB9 := Lib.hid (HB.out.trans (hb9.mono HB.out.size)); clear hb9 k1 k2 k3 k4 k5 k6 HL
          cases al
          · go_wp2_with fail
            go_roundw
            case rel => exact ⟨k + 1, q, g, c', ls, by omega, by go_num, rfl, hqc, by rw [HRW.out, HQ.out]; simp, HLS.out, HL9.out, HB9.out⟩
            case measure => simp [intOf]; omega
          · have u1 : IntKind.i64.wrap (e1 - e2) = e1 - e2 := IntWalk.i64_in _ (by omega)
            go_wp2_with fail
            go_still_tail 15, (by kernel_rfl)
            change wpList _ _ _ _ _ w9.drew
            have HB10 := Lib.hid HB9.out.drew
            have HL10 : Hid (Reads w9.drew w9.drew.heap.size 3 (some ⟨g, 0, none⟩) q (lcells ls)) := HL9.out
            clear HB9 HL9 r1 s1
            generalize w9.drew = w10 at *
            go_wp2_with fail
            refine (l31Put_any g q c' ls i k (e1 - e2) w10 hq0 hqc HLS.out HL10.out).mono ?_
            rintro e w11 ⟨⟨g', c2, ls', rfl, hc2, hg', hl', _, hr'⟩, hb11⟩
            have HB11 := Lib.hid (HB10.out.trans (hb11.mono HB10.out.size))
            have HL11 := Lib.hid hr'
            have HLS' := Lib.hid hl'
            clear hb11 hr' hl' HB10 HL10
            go_wp2_with fail
            go_roundw
            case rel => exact ⟨k + 1, q + 1, g', c2, ls', by omega, by go_num, rfl, hc2, by rw [HRW.out, HQ.out]; simp; omega, HLS'.out, HL11.out, HB11.out⟩
            case measure => simp [intOf]; omega
        · obtain rfl : k = i := by omega
          go_wp2_with fail
          go_roundw
          case rel => exact ⟨k + 1, q, g, c', ls, by omega, by go_num, rfl, hqc, HQ.out, HLS.out, HL.out, HB.out⟩
          case measure => simp [intOf]; omega
    · obtain rfl : i = n := by omega
      go_wp2_with fail
      go_ret
      exact ⟨⟨g, c', by rw [← HQ.out]; rfl⟩, HB.out⟩
end Go.Proofs.Ytnljibgjfobkbaa
