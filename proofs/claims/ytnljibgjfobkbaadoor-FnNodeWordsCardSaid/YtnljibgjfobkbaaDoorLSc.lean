/- The walk of the law FnSchemeText. -/
import Derived.Test.YtnljibgjfobkbaaDoorSf
import Derived.Test.YtnljibgjfobkbaaDoorScD
import Derived.Test.YtnljibgjfobkbaaDoorLawKit
namespace Go.Proofs.YtnljibgjfobkbaaDoor
open Go.RowKit
attribute [local go_sem ↓] Go.wp_at_zero Go.wp_at_succ

theorem idx_strk (l : List UInt8) (k : Nat) (x : UInt8) (hx : l[k]? = some x) (W : World) : (Instr.index 9 (.string (bs l)) (.int .i64 (k : Int))).run Tryd.prog W = .ok (.int .u8 (x.toNat : Int)) W := by
  have hj : k < l.length := by
    rcases Nat.lt_or_ge k l.length with h1 | h1
    · exact h1
    · rw [List.getElem?_eq_none h1] at hx; cases hx
  rw [run_index_string (h := Tryd.underlying9), dif_pos ⟨by omega, by rw [bs_size]; omega⟩]
  have : (bs l)[k]'(by rw [bs_size]; exact hj) = x := by
    rw [List.getElem?_eq_getElem hj] at hx
    injection hx
  simp only [Int.toNat_natCast]
  rw [this]
theorem spl_len (c : UInt8) (l : List UInt8) : (spl c l).length = l.count c + 1 := by
  induction l with
  | nil => rfl
  | cons x r ih =>
    unfold spl
    by_cases h : x = c
    · rw [if_pos h, h]; simp [ih]
    · rw [if_neg h, List.count_cons_of_ne h]
      cases hh : spl c r with
      | nil => rw [hh] at ih; simp at ih
      | cons p ps => rw [hh] at ih; simpa using ih
theorem below_drew' {B : Nat} {a w : World} (h : Below B a w) : Below B a w.drew := ⟨h.os, h.tape, h.output, h.size, h.block⟩
def cnt (c : UInt8) (l : List UInt8) (k : Nat) : Nat := (l.take k).count c
theorem cnt_zero (c : UInt8) (l : List UInt8) : cnt c l 0 = 0 := rfl
theorem cnt_hit {c : UInt8} {l : List UInt8} {k : Nat} (h : l[k]? = some c) : cnt c l (k + 1) = cnt c l k + 1 := by
  unfold cnt; rw [List.take_add_one, h]; simp
theorem cnt_miss {c y : UInt8} {l : List UInt8} {k : Nat} (h : l[k]? = some y) (hy : y ≠ c) : cnt c l (k + 1) = cnt c l k := by
  unfold cnt; rw [List.take_add_one, h]; simp [hy]
theorem cnt_all (c : UInt8) (l : List UInt8) : cnt c l l.length = l.count c := by unfold cnt; rw [List.take_length]
theorem cnt_le (c : UInt8) (l : List UInt8) (k : Nat) : cnt c l k ≤ k := by
  unfold cnt; have := List.count_le_length (a := c) (l := l.take k); rw [List.length_take] at this; omega
theorem u8_ne {x y : UInt8} (h : x ≠ y) : (((x.toNat : Nat) : Int) == ((y.toNat : Nat) : Int)) = false := by
  rw [beq_eq_false_iff_ne]; intro e; exact h (UInt8.toNat_inj.1 (by omega))

set_option maxHeartbeats 4000000 in
set_option maxRecDepth 100000 in
theorem fnSchemeText_walk (A : Option Addr) (n0 c0 : Nat) (w : World) (hn : n0 ≤ maxLen) (hc : n0 ≤ c0) (hb : Bytes w w.heap.size A n0) (ht : Tab w) (hm : Mx w) :
    Calls Tryd.prog 10 #[.slice A n0 c0] w fun e w' => e = .returned (.bool true) ∧ Below w.heap.size w w' := by
  unfold maxLen at hn
  have HTab := Lib.hid ht; clear ht
  have HMx := Lib.hid hm; clear hm
  have HB := Lib.hid hb; clear hb
  have hB0 := Below.refl w.heap.size w
  by_cases hbig : 1048576 < n0
  · go_enter Tryd.func10, Tryd.ntmps10
    go_wp2_with fail
    go_ret
    exact ⟨rfl, hB0⟩
  clear hB0
  go_enter Tryd.func10, Tryd.ntmps10
  go_wp2_with fail
  refine (DrawSchemeText_any A n0 c0 w (by omega) hc HB.out).mono ?_
  rintro e w1 ⟨A2, n2, c2, ns, rfl, hL, hb1⟩
  have HB1 := Lib.hid hb1; clear hb1 HB
  obtain ⟨hnc, hts, h8, hr⟩ := hL
  have HT := Lib.hid hts; clear hts
  have HR := Lib.hid (fun W (hB : Below w1.heap.size w1 W) => (hr.below hB).more hB.size); clear hr
  have HI := Lib.hid (fun W hB => implSchemeText_any A2 c2 n2 ns W (by omega) HT.out (HR.out W hB))
  have HS := Lib.hid (fun W hB => specSchemeText_any A2 c2 n2 ns W (by omega) HT.out (HR.out W hB))
  cases hv : svB ns
  · have he : scT ns = [] := by unfold scT; rw [hv]; simp
    rw [he, bs_nil] at HI HS; clear he hv
    go_wp2_with fail
    refine (HI.out _ (Below.refl _ _) (HTab.out.on HB1.out)).mono ?_
    rintro e w2 ⟨rfl, hb2⟩
    have HC2 := Lib.hid hb2; clear hb2
    go_wp2_with fail
    refine (HS.out _ HC2.out).mono ?_
    rintro e w3 ⟨rfl, hb3⟩
    have HC3 := Lib.hid (HC2.out.trans (hb3.mono HC2.out.size)); clear hb3 HC2
    have HB3 := Lib.hid (HB1.out.trans (HC3.out.mono HB1.out.size))
    go_wp2_with fail
    go_ret
    exact ⟨rfl, HB3.out⟩
  have HF := Lib.hid (fun W (hB : Below w.heap.size w W) => SchemeFrom_any ns W (HTab.out.on hB) (HMx.out.on hB) hv)
  have HL := Lib.hid (scT_len12 hv)
  have HN : Hid ((scT ns).count 10 = c2) := by
    have h1 := spl_len 10 (scT ns)
    rw [spl_scT hv] at h1
    have h2 := HT.out
    unfold Hid
    simp at h1
    omega
  have f2 : (bs (scT ns)).size ≤ 240 := by rw [bs_size]; exact HL.out
  have hne : (bs (scT ns)).toList.isEmpty = false := by
    rw [show (bs (scT ns)).toList = scT ns from ByteArray.toList_mk _]
    cases hh : scT ns with
    | nil => exact absurd hh (scT_pos hv)
    | cons a r => rfl
  have HIX := Lib.hid (idx_strk (scT ns))
  have HSZ := Lib.hid (bs_size (scT ns))
  rw [HT.out] at HF
  generalize bs (scT ns) = O at *
  have heq : (O.toList == O.toList) = true := by simp
  obtain ⟨l, hl⟩ : ∃ l, scT ns = l := ⟨_, rfl⟩
  rw [hl] at HIX HSZ HN HL
  clear hl hv
  go_wp2_with fail
  refine (HI.out _ (Below.refl _ _) (HTab.out.on HB1.out)).mono ?_
  rintro e w2 ⟨rfl, hb2⟩
  have HC2 := Lib.hid hb2; clear hb2
  go_wp2_with fail
  refine (HS.out _ HC2.out).mono ?_
  rintro e w3 ⟨rfl, hb3⟩
  have HC3 := Lib.hid (HC2.out.trans (hb3.mono HC2.out.size)); clear hb3 HC2
  go_wp2_with fail
  refine (HF.out _ (HB1.out.trans (HC3.out.mono HB1.out.size))).mono ?_
  rintro e w4 ⟨⟨A4, c4, rfl, hc4, hr4⟩, hb4⟩
  have HC4 := Lib.hid (HC3.out.trans (hb4.mono HC3.out.size)); clear hb4 HC3
  have HR4 := Lib.hid (HR.out w4 HC4.out)
  have HQ4 := Lib.hid hr4; clear hr4
  have HB4 := Lib.hid (HB1.out.trans (HC4.out.mono HB1.out.size))
  clear HI HS HF HR HC4 HB1
  go_wp2_with fail
  go_loop [8, 9] (fun v i => ∃ k : Nat, k ≤ O.size ∧ i = .int .i64 k ∧ v = .int .i64 (cnt 10 l k : Nat)) (fun _ i => O.size - (RowKit.intOf i).toNat)
  case atStart => exact ⟨0, Nat.zero_le _, rfl, rfl⟩
  case round =>
    obtain ⟨k, hk, rfl, rfl⟩ := hrel
    have hcl := cnt_le 10 l k
    by_cases hlt : k < O.size
    · obtain ⟨y, hy⟩ : ∃ y, l[k]? = some y := ⟨l[k]'(by have := HSZ.out; omega), List.getElem?_eq_getElem _⟩
      have hidx := HIX.out k y hy
      have i1 : (k : Int) < (O.size : Int) := by omega
      by_cases hy10 : y = 10
      · subst hy10
        have hc := cnt_hit hy
        have e1 : (((10 : UInt8).toNat : Int) == 10) = true := rfl
        generalize cnt 10 l k = q at *
        generalize (((10 : UInt8).toNat : Nat) : Int) = xi at *
        go_wp2_with fail
        go_round
        case rel => exact ⟨k + 1, by omega, by go_num, by rw [hc]; go_num⟩
        case measure => simp [RowKit.intOf]; omega
      · have hc := cnt_miss hy hy10
        have e1 : ((y.toNat : Int) == 10) = false := u8_ne hy10
        generalize cnt 10 l k = q at *
        generalize ((y.toNat : Nat) : Int) = xi at *
        go_wp2_with fail
        go_round
        case rel => exact ⟨k + 1, by omega, by go_num, by rw [hc]⟩
        case measure => simp [RowKit.intOf]; omega
    · obtain rfl : k = O.size := by omega
      have hq : cnt 10 l O.size = c2 := by rw [HSZ.out, cnt_all]; exact HN.out
      rw [hq]
      clear hq
      go_wp2_with fail
      go_loopw [10] (fun i wr => ∃ k : Nat, k ≤ c2 ∧ i = .int .i64 k ∧ Hid (Reads wr w4.heap.size 3 A2 c2 (ncells ns)) ∧ Hid (Reads wr w4.heap.size 3 A4 c2 (ncells ns)) ∧ Hid (Below w.heap.size w wr)) (fun i _ => c2 - (RowKit.intOf i).toNat)
      case atStart => exact ⟨0, Nat.zero_le _, rfl, HR4.out, HQ4.out, HB4.out⟩
      case round =>
        clear HR4 HQ4 HB4
        obtain ⟨k, hk, rfl, HR4, HQ4, HB4⟩ := hrel
        by_cases hlt : k < c2
        · obtain ⟨b, off, rfl, hb, r1, r2, r3⟩ := HR4.out.node hlt
          obtain ⟨b', off', rfl, hb', q1, q2, q3⟩ := HQ4.out.node hlt
          have i1 : (k : Int) < (c2 : Int) := by omega
          have i0 : (0 : Int) ≤ (k : Int) := by omega
          generalize (gN ns k).1 = E at *
          generalize (gN ns k).2.1 = J at *
          generalize (gN ns k).2.2 = P at *
          go_wp2_with fail
          go_region
          go_wp2_with fail
          go_roundw
          case rel => exact ⟨k + 1, by omega, by go_num, HR4.out.drew, HQ4.out.drew, below_drew' HB4.out⟩
          case measure => simp [RowKit.intOf]; omega
        · obtain rfl : k = c2 := by omega
          go_wp2_with fail
          go_ret
          exact ⟨rfl, HB4.out⟩
end Go.Proofs.YtnljibgjfobkbaaDoor
