/- The walk of the law FnTermsText. -/
import Derived.Test.YtnljibgjfobkbaaDoorTx3
import Derived.Test.YtnljibgjfobkbaaDoorTm2
import Derived.Test.YtnljibgjfobkbaaDoorLawKit
namespace Go.Proofs.YtnljibgjfobkbaaDoor
open Go.RowKit
attribute [local go_sem ↓] Go.wp_at_zero Go.wp_at_succ

theorem below_drewN' {B : Nat} {a w : World} (h : Below B a w) (n : Nat) : Below B a (w.drewN n) := ⟨h.os, h.tape, h.output, h.size, h.block⟩
theorem bs_extract' (l : List UInt8) (a b : Nat) : (bs l).extract a b = bs ((l.drop a).take (b - a)) := by
  apply ByteArray.ext
  simp [bs, ByteArray.data_extract]
theorem jn_prefix (ts : List T2) (k : Nat) : ∀ d, ∃ r, jn ts (k + 1 + d) = jn ts (k + 1) ++ r := by
  intro d
  induction d with
  | zero => exact ⟨[], by simp⟩
  | succ d ih =>
    obtain ⟨r, hr⟩ := ih
    refine ⟨r ++ [32] ++ tmT (ts.getD (k + 1 + d) (0, 0)), ?_⟩
    show (if k + 1 + d = 0 then [] else jn ts (k + 1 + d) ++ [32]) ++ tmT (ts.getD (k + 1 + d) (0, 0)) = _
    rw [if_neg (by omega), hr]; simp
theorem jn_head (ts : List T2) (h : ∀ i, i < ts.length → tvB (ts.getD i (0, 0)) = true) (k : Nat) (hk : k + 1 ≤ ts.length) :
    ∃ P, jn ts (k + 1) = P ++ tmT (ts.getD k (0, 0)) ∧ P.length = 3 * k ∧ (0 < k → ∃ Q, P = Q ++ [32]) := by
  cases k with
  | zero => exact ⟨[], rfl, rfl, fun h => absurd h (Nat.lt_irrefl _)⟩
  | succ k =>
    have := jn_len ts h k (by omega)
    refine ⟨jn ts (k + 1) ++ [32], ?_, by rw [List.length_append, this]; simp; omega, fun _ => ⟨_, rfl⟩⟩
    show (if k + 1 = 0 then [] else jn ts (k + 1) ++ [32]) ++ tmT (ts.getD (k + 1) (0, 0)) = _
    rw [if_neg (by omega)]
theorem jn_facts {ts : List T2} {m : Nat} (hl : ts.length = m + 1) (h : ∀ i, i < ts.length → tvB (ts.getD i (0, 0)) = true) {k : Nat} (hk : k < m + 1) :
    (bs (jn ts (m + 1))).extract (3 * k) (3 * k + 2) = bs (tmT (ts.getD k (0, 0))) ∧ (0 < k → (jn ts (m + 1))[3 * k - 1]? = some 32) := by
  obtain ⟨r, hr⟩ := jn_prefix ts k (m - k)
  rw [show k + 1 + (m - k) = m + 1 by omega] at hr
  obtain ⟨P, hP, hPl, hPQ⟩ := jn_head ts h k (by omega)
  have ht := tmT_len (h k (by omega))
  rw [hr, hP]
  refine ⟨?_, fun h0 => ?_⟩
  · rw [bs_extract', List.append_assoc, List.drop_left' hPl, show 3 * k + 2 - 3 * k = 2 by omega, List.take_left' ht]
  · obtain ⟨Q, hQ⟩ := hPQ h0
    have hq : Q.length = 3 * k - 1 := by have := hPl; rw [hQ, List.length_append] at this; simp at this; omega
    rw [hQ, List.append_assoc, List.append_assoc, List.getElem?_append_right (by omega), hq, Nat.sub_self]; rfl
theorem run_index_bs (l : List UInt8) (j : Nat) (b : UInt8) (h : l[j]? = some b) (W : World) :
    (Instr.index 9 (.string (bs l)) (.int .i64 (j : Int))).run Tryd.prog W = .ok (.int .u8 (b.toNat : Int)) W := by
  have hj : j < l.length := by
    rcases Nat.lt_or_ge j l.length with h1 | h1
    · exact h1
    · rw [List.getElem?_eq_none h1] at h; cases h
  rw [run_index_string (h := Tryd.underlying9), dif_pos ⟨by omega, by rw [bs_size]; omega⟩]
  have : (bs l)[j]'(by rw [bs_size]; exact hj) = b := by
    rw [List.getElem?_eq_getElem hj] at h
    injection h
  simp only [Int.toNat_natCast]
  rw [this]

set_option maxHeartbeats 4000000 in
theorem fnTermsText_walk (A : Option Addr) (n0 c0 : Nat) (w : World) (hn : n0 ≤ maxLen) (hc : n0 ≤ c0) (hb : Bytes w w.heap.size A n0) (_ : Tab w) :
    Calls Tryd.prog 7 #[.slice A n0 c0] w fun e w' => e = .returned (.bool true) ∧ Below w.heap.size w w' := by
  unfold maxLen at hn
  have HB := Lib.hid hb; clear hb
  have hB0 := Below.refl w.heap.size w
  by_cases hbig : 1048576 < n0
  · go_enter Tryd.func7, Tryd.ntmps7
    go_wp2_with fail
    go_ret
    exact ⟨rfl, hB0⟩
  clear hB0
  go_enter Tryd.func7, Tryd.ntmps7
  go_wp2_with fail
  refine (DrawTermsText_any A n0 c0 w (by omega) hc HB.out).mono ?_
  rintro e w1 ⟨A2, c2, n2, ts, rfl, hL, hb1⟩
  have HB1 := Lib.hid hb1; clear hb1 HB
  obtain ⟨hnc, hts, h5, hdr, hr⟩ := hL
  have HT := Lib.hid hts; clear hts hdr
  have HR := Lib.hid (fun W (hB : Below w1.heap.size w1 W) => (hr.below hB).more hB.size); clear hr
  have HI := Lib.hid (fun W hB => implTermsText_any A2 n2 c2 ts W (by omega) HT.out (HR.out W hB))
  have HS := Lib.hid (fun W hB => specTermsText_any A2 n2 c2 ts W (by omega) HT.out (HR.out W hB))
  obtain ⟨O, hO⟩ : ∃ O, bs (tsT ts) = O := ⟨_, rfl⟩
  rw [hO] at HI HS
  have HO := Lib.hid hO; clear hO
  go_wp2_with fail
  refine (HI.out _ (Below.refl _ _)).mono ?_
  rintro e w2 ⟨rfl, hb2⟩
  have HC2 := Lib.hid hb2; clear hb2
  go_wp2_with fail
  refine (HS.out _ HC2.out).mono ?_
  rintro e w3 ⟨rfl, hb3⟩
  have HC3 := Lib.hid (HC2.out.trans (hb3.mono HC2.out.size)); clear hb3 HC2
  have HB3 := Lib.hid (HB1.out.trans (HC3.out.mono HB1.out.size))
  by_cases h00 : n2 = 0
  · have he := HO.out
    rw [tsT_none (HT.out.trans h00)] at he
    subst he
    have e1 : ((bs [45]).toList == (⟨#[45]⟩ : ByteArray).toList) = true := by simp [bs, ByteArray.toList_eq]
    have e2 : (bs [45]).toList.isEmpty = false := by simp [bs, ByteArray.toList_eq]
    have e3 : (bs [45]).toList = [45] := by simp [bs]
    subst h00
    go_wp2_with fail
    go_ret
    exact ⟨rfl, HB3.out⟩
  have e00 : ((n2 : Int) == 0) = false := by simp; omega
  by_cases hall : ∀ i, i < ts.length → tvB (ts.getD i (0, 0)) = true
  · have he := HO.out
    rw [tsT_all (by rw [HT.out]; exact h00) hall, HT.out] at he
    obtain ⟨m, rfl⟩ : ∃ m, n2 = m + 1 := ⟨n2 - 1, by omega⟩
    have hlen := jn_len ts hall m (by rw [HT.out]; exact Nat.le_refl _)
    have hsz : O.size = 3 * m + 2 := by rw [← he, bs_size, hlen]
    have e2 : O.toList.isEmpty = false := by
      rw [← he, ByteArray.toList_eq]
      cases hj : jn ts (m + 1) with
      | nil => rw [hj] at hlen; simp at hlen
      | cons x l => simp [bs]
    have HF := Lib.hid (fun k hk => jn_facts HT.out hall (k := k) hk)
    have HE := Lib.hid he; clear he
    have HSZ := Lib.hid hsz; clear hsz hlen h00
    go_wp2_with fail
    go_loopw [6] (fun i wr => ∃ k : Nat, k ≤ m + 1 ∧ i = .int .i64 k ∧ Hid (Below w1.heap.size w1 wr)) (fun i _ => m + 1 - (intOf i).toNat)
    case atStart => exact ⟨0, Nat.zero_le _, rfl, HC3.out⟩
    case round =>
      clear HC3 HB3
      obtain ⟨k, hk, rfl, HC⟩ := hrel
      by_cases hlt : k < m + 1
      · obtain ⟨b, off, rfl, hb, h1, h2⟩ := (HR.out wr HC.out).trm hlt
        have HX := Lib.hid (fun W => implTermText_any (ts.getD k (0, 0)) W)
        obtain ⟨f1, f2⟩ := HF.out k hlt
        have g1 : ∀ W, (Instr.slice 9 (.string O) (some (.int .i64 (3 * (k : Int)))) (some (.int .i64 (3 * (k : Int) + 2))) none).run Tryd.prog W = .ok (.string (bs (tmT (ts.getD k (0, 0))))) W := fun W => by
          rw [run_slice_string_if (h := Tryd.underlying9), if_pos ⟨by omega, by rw [HSZ.out]; omega⟩, if_pos ⟨by omega, by omega⟩, show (3 * (k : Int)).toNat = 3 * k by omega, show (3 * (k : Int) + 2).toNat = 3 * k + 2 by omega, ← HE.out, f1]
        have g2 : 0 < k → ∀ W, (Instr.index 9 (.string O) (.int .i64 (3 * (k : Int) - 1))).run Tryd.prog W = .ok (.int .u8 32) W := fun h0 W => by
          rw [← HE.out, show (3 * (k : Int) - 1) = ((3 * k - 1 : Nat) : Int) by omega]
          exact run_index_bs _ _ 32 (f2 h0) W
        have hsz := HSZ.out
        have ez : ((O.size : Int) != 3 * ((m : Int) + 1) - 1) = false := by rw [hsz]; simp; omega
        have u1 : IntKind.i64.wrap (3 * ((m : Int) + 1)) = 3 * ((m : Int) + 1) := IntWalk.i64_in _ (by omega)
        have u2 : IntKind.i64.wrap (3 * ((m : Int) + 1) - 1) = 3 * ((m : Int) + 1) - 1 := IntWalk.i64_in _ (by omega)
        have u3 : IntKind.i64.wrap (3 * (k : Int)) = 3 * (k : Int) := IntWalk.i64_in _ (by omega)
        have u4 : IntKind.i64.wrap (3 * (k : Int) + 2) = 3 * (k : Int) + 2 := IntWalk.i64_in _ (by omega)
        have u5 : IntKind.i64.wrap (3 * (k : Int) - 1) = 3 * (k : Int) - 1 := IntWalk.i64_in _ (by omega)
        have i3 : (0 : Int) ≤ (k : Int) := by omega
        have i4 : (k : Int) < ((m : Int) + 1) := by omega
        clear f1 f2 hsz
        generalize bs (tmT (ts.getD k (0, 0))) = T at *
        generalize (ts.getD k (0, 0)).1 = x at *
        generalize (ts.getD k (0, 0)).2 = y at *
        have k1 := After.cell h1
        have k2 := After.cell h2
        by_cases h0 : 0 < k
        · have d0 : decide (0 < k) = true := decide_eq_true h0
          have g3 := g2 h0
          clear g2
          go_wp2_with fail
          refine wp_region_after (by kernel_rfl) (by kernel_rfl) ?_
          repeat (go_big_quiet_step ((go_at_call 24; exact after_call _ (HX.out _))))
          refine wpQuiet_nil ?_
          intro w9 hw'
          obtain ⟨⟨w9', hb9⟩, hw''⟩ := hw'
          subst hw''
          have HC9 := Lib.hid (HC.out.trans (hb9.mono HC.out.size))
          clear hb9 u1 u2 u3 u4 u5 g1 g3
          go_wp2_with fail
          go_roundw
          case rel => exact ⟨k + 1, by omega, by go_num, HC9⟩
          case measure => simp [intOf]; omega
        · have d0 : decide (0 < k) = false := decide_eq_false h0
          clear g2
          go_wp2_with fail
          refine wp_region_after (by kernel_rfl) (by kernel_rfl) ?_
          repeat (go_big_quiet_step ((go_at_call 24; exact after_call _ (HX.out _))))
          refine wpQuiet_nil ?_
          intro w9 hw'
          obtain ⟨⟨w9', hb9⟩, hw''⟩ := hw'
          subst hw''
          have HC9 := Lib.hid (HC.out.trans (hb9.mono HC.out.size))
          clear hb9 u1 u2 u3 u4 u5 g1 d0
          go_wp2_with fail
          go_roundw
          case rel => exact ⟨k + 1, by omega, by go_num, HC9⟩
          case measure => simp [intOf]; omega
      · go_wp2_with fail
        go_ret
        exact ⟨rfl, HB1.out.trans (HC.out.mono HB1.out.size)⟩
  · have he := HO.out
    obtain ⟨i, hi, hv⟩ : ∃ i, i < ts.length ∧ tvB (ts.getD i (0, 0)) = false := by
      refine Classical.byContradiction fun hno => hall fun i hi => ?_
      cases hv : tvB (ts.getD i (0, 0))
      · exact absurd ⟨i, hi, hv⟩ hno
      · rfl
    rw [tsT_bad hi hv, bs_nil] at he
    subst he
    clear hall hi hv
    go_wp2_with fail
    go_ret
    exact ⟨rfl, HB3.out⟩
end Go.Proofs.YtnljibgjfobkbaaDoor
