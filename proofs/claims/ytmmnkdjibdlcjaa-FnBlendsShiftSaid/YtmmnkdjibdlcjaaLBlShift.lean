/- The walk of the law FnBlendsShift. -/
import Derived.Test.YtmmnkdjibdlcjaaBk8
import Derived.Test.YtmmnkdjibdlcjaaLawKit
namespace Go.Proofs.Ytmmnkdjibdlcjaa
open Go.RowKit
attribute [local go_sem ↓] Go.wp_at_zero Go.wp_at_succ

theorem blG_shift (xs : List Int) (wd : Int) : blG (xs.map (· + 1)) wd = (blG xs wd).map (·.map (· + 1)) := by
  unfold blG
  have : blOk (xs.map (· + 1)) wd = blOk xs wd := by unfold blOk; rw [asc_shift]
  rw [this]
  split
  · rw [List.length_map, grL_shift _ _ _ (Nat.le_refl _)]
  · rfl
theorem ok_shift (xs : List Int) (wd : Int) : blOk (xs.map (· + 1)) wd = blOk xs wd := by unfold blOk; rw [asc_shift]

set_option maxHeartbeats 2000000 in
theorem fnBlendsShift_walk (A : Option Addr) (n0 c0 : Nat) (w : World) (hn : n0 ≤ maxLen) (hc : n0 ≤ c0) (hb : Bytes w w.heap.size A n0) :
    Calls Try.prog 6 #[.slice A n0 c0] w fun e w' => e = .returned (.bool true) ∧ Below w.heap.size w w' := by
  unfold maxLen at hn
  have HB := Lib.hid hb; clear hb
  have hB0 := Below.refl w.heap.size w
  by_cases hbig : 1048576 < n0
  · go_enter Try.func6, Try.ntmps6
    go_wp2_with fail
    go_ret
    exact ⟨rfl, hB0⟩
  clear hB0
  go_enter Try.func6, Try.ntmps6
  go_wp2_with fail
  refine (DrawBlendsOf_any A n0 c0 w (by omega) hc HB.out).mono ?_
  rintro e w1 ⟨A2, c2, n, xs, wd, rfl, hL, h8, hin, ⟨hwd0, hwd1⟩, hb1⟩
  have HB1 := Lib.hid hb1; clear hb1 HB
  have hnc : n ≤ c2 := hL.1
  have HL := Lib.hid hL; clear hL
  have HI := Lib.hid hin
  have HI2 : Hid (InB xs 3001) := fun t ht => by have := hin t ht; omega
  clear hin
  have HT := Lib.hid HL.out.len
  go_wp2_with fail
  refine (implBlendsOf_any A2 n c2 xs wd _ h8 hnc HT.out HI2.out HL.out.reads hwd1).mono ?_
  rintro e w2 ⟨⟨A3, q, c3, rfl, hg3⟩, hb2⟩
  have HB2 := Lib.hid (HB1.out.trans (hb2.mono HB1.out.size))
  have HL2 := Lib.hid (HL.out.below hb2)
  have HG2 := Lib.hid hg3
  clear hb2 hg3 HB1 HL
  go_wp2_with fail
  refine (specBlendsOf_any A2 n c2 xs wd _ h8 HT.out HI2.out HL2.out.reads hwd0 hwd1).mono ?_
  rintro e w3 ⟨⟨A4, q4, c4, rfl, hg4⟩, hb3⟩
  have hqq : q4 = q := by rw [← hg4.len, ← HG2.out.len]
  subst hqq
  obtain ⟨q, rfl⟩ : ∃ q, q = q4 := ⟨_, rfl⟩
  have HB3 := Lib.hid (HB2.out.trans (hb3.mono HB2.out.size))
  have HL3 := Lib.hid (HL2.out.below hb3)
  have HG3 := Lib.hid (HG2.out.below hb3)
  have HW3 := Lib.hid hg4
  have hbd := blG_bd xs wd
  have hq8 : q ≤ 8 := by have := hbd.1; rw [HG3.out.len, HT.out] at this; omega
  have HGB : Hid (∀ g ∈ blG xs wd, g.length ≤ 1000) := fun g hg => by have := hbd.2 g hg; rw [HT.out] at this; omega
  clear hb3 hg4 HB2 HL2 HG2 hbd
  have HS := Lib.hid (fun W (hW : Below w3.heap.size w3 W) => sameGroups_any A3 A4 q c3 c4 _ W (by omega) HGB.out (HG3.out.below hW) (HW3.out.below hW))
  cases hok : blOk xs wd
  · clear hok
    go_wp2_with fail
    refine (HS.out _ (Below.refl _ _)).mono ?_
    rintro e w4 ⟨rfl, hb4⟩
    have HB4 := Lib.hid (HB3.out.trans (hb4.mono HB3.out.size))
    have HS4 := Lib.hid (HS.out _ hb4)
    clear hb4
    go_wp2_with fail
    refine HS4.out.mono ?_
    rintro e w5 ⟨rfl, hb5⟩
    have HB5 := Lib.hid (HB4.out.trans (hb5.mono HB4.out.size)); clear hb5
    go_wp2_with fail
    go_ret
    exact ⟨rfl, HB5.out⟩
  have hasc : ascB xs = true ∧ 0 ≤ wd := by
    have h := hok
    simp only [blOk, Bool.and_eq_true, decide_eq_true_eq] at h
    exact ⟨h.1.1, h.1.2⟩
  have HOK := Lib.hid hok
  have HASC := Lib.hid hasc.1
  have hwd := hasc.2
  clear hok hasc
  have HGL : Hid (grN xs wd n = q) := by
    unfold Hid
    rw [← grL_len, ← HG3.out.len, blG_yes HOK.out, HT.out]
  go_wp2_with fail
  refine (HS.out _ (Below.refl _ _)).mono ?_
  rintro e w4 ⟨rfl, hb4⟩
  have HB4 := Lib.hid (HB3.out.trans (hb4.mono HB3.out.size))
  have HL4 := Lib.hid (HL3.out.below hb4)
  have HG4 := Lib.hid (HG3.out.below hb4)
  clear hb4 HB3 HL3 HG3 HW3 HS
  have HO := Lib.hid (own_empty w4 3 1)
  have HBE := Lib.hid ((Below.refl w4.heap.size w4).alloc (Nat.le_refl _) (.cells #[] 3))
  go_wp2_with fail
  go_loopw [9, 10] (fun v i wr => ∃ (k c' : Nat) (A' : Option Addr), k ≤ n ∧ i = .int .i64 k ∧ v = .slice A' k c' ∧ k ≤ c' ∧ Hid (wr.ownsRow w4.heap.size 3 1 (.slice A' k c') k (icells ((xs.map (· + 1)).take k))) ∧ Hid (Below w4.heap.size w4 wr)) (fun _ i _ => n - (intOf i).toNat)
  case atStart => exact ⟨0, _, _, Nat.zero_le _, rfl, rfl, Nat.le_refl _, HO.out, HBE.out⟩
  case round =>
    clear HO HBE
    obtain ⟨k, c', A', hk, rfl, rfl, hkc, HW, HBR⟩ := hrel
    have hsz := HBR.out.size
    by_cases hlt : k < n
    · obtain ⟨b, off, rfl, hb, hx⟩ := (HL4.out.below HBR.out).reads.int hlt
      have bx := HI.out.at (k := k) (by rw [HT.out]; exact hlt)
      have HTK : Hid ((xs.map (· + 1)).take (k + 1) = (xs.map (· + 1)).take k ++ [gi xs k + 1]) := by
        unfold Hid
        rw [take_snoc (by rw [List.length_map, HT.out]; exact hlt), gi_map (by rw [HT.out]; exact hlt)]
      generalize gi xs k = x at *
      go_wp2_with (at_builtin; refine wpList_app1 _ rfl (.tmp 62) (.tmp 68) _ rfl w4.heap.size 3 1 8 elInt A' c' k _ rfl (HW.out.alloc _) wr.heap.size #[.int .i64 (x + 1)] rfl (Blk.new wr _ _) rfl (one1 rfl) (by omega) (by omega) (by simp; omega) ?_)
      intro A6 c6 w6 hown6 hc6 hb6
      have HW6 := Lib.hid hown6
      have HB6 := Lib.hid ((HBR.out.alloc hsz (.cells #[.int .i64 (x + 1)] 3)).trans hb6)
      clear hown6 hb6
      go_wp2_with fail
      go_roundw
      case rel => exact ⟨k + 1, c6, A6, by omega, by go_num, rfl, hc6, by unfold Hid; rw [HTK.out, icells_snoc]; exact HW6.out, HB6.out⟩
      case measure => simp [intOf]; omega
    · obtain rfl : k = n := by omega
      have htk : (xs.map (· + 1)).take k = xs.map (· + 1) := List.take_of_length_le (by rw [List.length_map, HT.out]; exact Nat.le_refl _)
      have HLX : Hid (LstI wr w4.heap.size A' k c' (xs.map (· + 1))) := by
        have := HW.out
        rw [htk] at this
        exact lstI_own hkc (by rw [List.length_map, HT.out]) this
      clear htk HW
      have HTX : Hid ((xs.map (· + 1)).length = k) := HLX.out.len
      have HIX : Hid (InB (xs.map (· + 1)) 3001) := fun t ht => by
        obtain ⟨x, hx, rfl⟩ := List.mem_map.1 ht
        have := HI.out x hx
        omega
      have HGR := Lib.hid (HG4.out.below HBR.out)
      have HLR := Lib.hid (HL4.out.below HBR.out)
      have HYY := Lib.hid (implBlendsOf_any A' k c' (xs.map (· + 1)) wd wr h8 hkc HTX.out HIX.out HLX.out.reads hwd1)
      have HBT := Lib.hid (HB4.out.trans (HBR.out.mono HB4.out.size))
      clear HG4 HL4 HBR HB4
      by_cases hk0 : k = 0
      · subst hk0
        have i0 : decide ((0 : Int) < ((0 : Nat) : Int)) = false := rfl
        go_wp2_with fail
        refine HYY.out.mono ?_
        rintro e w7 ⟨⟨A7, q7, c7, rfl, hg7⟩, hb7⟩
        rw [ok_shift, HOK.out, blG_shift] at *
        have hqq : q7 = q := by rw [← hg7.len, List.length_map, HGR.out.len]
        subst hqq
        obtain ⟨q, rfl⟩ : ∃ q, q = q7 := ⟨_, rfl⟩
        have HG7 := Lib.hid hg7
        have HGO := Lib.hid (HGR.out.below hb7)
        have HL7 := Lib.hid (HLR.out.below hb7)
        have HX7 := Lib.hid (HLX.out.below hb7)
        have HB7 := Lib.hid (HBT.out.trans (hb7.mono HBT.out.size))
        clear hg7 hb7
        go_wp2_with fail
        go_loopw [13] (fun i wr => ∃ k : Nat, k ≤ q ∧ i = .int .i64 k ∧ Hid (Below w7.heap.size w7 wr)) (fun i _ => q - (intOf i).toNat)
        case atStart => exact ⟨0, Nat.zero_le _, rfl, Below.refl _ _⟩
        case round =>
          obtain ⟨t, ht, rfl, HBQ⟩ := hrel
          by_cases htq : t < q
          · obtain ⟨b8, off8, A8, c8, g8, rfl, hb8, hg8, hx8, _, _⟩ := (HG7.out.below HBQ.out).at htq
            obtain ⟨b9, off9, A9, c9, g9, rfl, hb9, hg9, hx9, _, _⟩ := (HGO.out.below HBQ.out).at htq
            have hgl : g8.length = g9.length := by
              rw [List.getElem?_map, hg9] at hg8
              simp at hg8
              rw [← hg8]; simp
            rw [hgl] at hx8
            clear hgl hg8 hg9
            generalize g9.length = gl at *
            have i1 : (0 : Int) ≤ (t : Int) := by omega
            have i2 : (t : Int) < (q : Int) := by omega
            have e1 : ((q : Int) != (q : Int)) = false := by simp
            have e2 : ((gl : Int) != (gl : Int)) = false := by simp
            go_wp2_with fail
            go_quiet (fail)
            go_wp2_with fail
            go_roundw
            case rel => exact ⟨t + 1, by omega, by go_num, below_drewN HBQ.out _⟩
            case measure => simp [intOf]; omega
          · have HW1 := Lib.hid (fun W (hW : Below w7.heap.size w7 W) => implBlendWidth_any _ _ c' (xs.map (· + 1)) W h8 HTX.out HIX.out (HX7.out.below hW).reads)
            have HW2 := Lib.hid (fun W (hW : Below w7.heap.size w7 W) => implBlendWidth_any _ _ c2 xs W h8 HT.out HI2.out (HL7.out.below hW).reads)
            rw [bw_shift] at HW1
            generalize bwF xs = bw at *
            have e3 : (bw == bw) = true := by simp
            have i3 : ¬ ((t : Int) < (q : Int)) := by omega
            go_wp2_with fail
            refine (HW1.out _ HBQ.out).mono ?_
            rintro e w8 ⟨rfl, hb8⟩
            have HB8 := Lib.hid (HBQ.out.trans (hb8.mono HBQ.out.size)); clear hb8
            go_wp2_with fail
            refine (HW2.out _ HB8.out).mono ?_
            rintro e w9 ⟨rfl, hb9⟩
            have HB9 := Lib.hid ((HB7.out.trans (HB8.out.mono HB7.out.size)).trans (hb9.mono (HB7.out.trans (HB8.out.mono HB7.out.size)).size)); clear hb9
            go_wp2_with fail
            go_ret
            exact ⟨rfl, HB9.out⟩
      · obtain ⟨j, rfl⟩ : ∃ j, k = j + 1 := ⟨k - 1, by omega⟩
        obtain ⟨b, off, rfl, hb, hx⟩ := HLR.out.reads.int (show j < j + 1 by omega)
        have bx := HI.out.at (k := j) (by rw [HT.out]; omega)
        generalize gi xs j = x at *
        have i0 : (0 : Int) < (j : Int) + 1 := by omega
        have i4 : IntKind.i64.wrap ((j : Int) + 1 - 1) = (j : Int) := (IntWalk.i64_in _ (by omega)).trans (by omega)
        have e0 : (x == 200000) = false := by simp; omega
        go_wp2_with fail
        refine HYY.out.mono ?_
        rintro e w7 ⟨⟨A7, q7, c7, rfl, hg7⟩, hb7⟩
        rw [ok_shift, HOK.out, blG_shift] at *
        have hqq : q7 = q := by rw [← hg7.len, List.length_map, HGR.out.len]
        subst hqq
        obtain ⟨q, rfl⟩ : ∃ q, q = q7 := ⟨_, rfl⟩
        have HG7 := Lib.hid hg7
        have HGO := Lib.hid (HGR.out.below hb7)
        have HL7 := Lib.hid (HLR.out.below hb7)
        have HX7 := Lib.hid (HLX.out.below hb7)
        have HB7 := Lib.hid (HBT.out.trans (hb7.mono HBT.out.size))
        clear hg7 hb7
        go_wp2_with fail
        go_loopw [13] (fun i wr => ∃ k : Nat, k ≤ q ∧ i = .int .i64 k ∧ Hid (Below w7.heap.size w7 wr)) (fun i _ => q - (intOf i).toNat)
        case atStart => exact ⟨0, Nat.zero_le _, rfl, Below.refl _ _⟩
        case round =>
          obtain ⟨t, ht, rfl, HBQ⟩ := hrel
          by_cases htq : t < q
          · obtain ⟨b8, off8, A8, c8, g8, rfl, hb8, hg8, hx8, _, _⟩ := (HG7.out.below HBQ.out).at htq
            obtain ⟨b9, off9, A9, c9, g9, rfl, hb9, hg9, hx9, _, _⟩ := (HGO.out.below HBQ.out).at htq
            have hgl : g8.length = g9.length := by
              rw [List.getElem?_map, hg9] at hg8
              simp at hg8
              rw [← hg8]; simp
            rw [hgl] at hx8
            clear hgl hg8 hg9
            generalize g9.length = gl at *
            have i1 : (0 : Int) ≤ (t : Int) := by omega
            have i2 : (t : Int) < (q : Int) := by omega
            have e1 : ((q : Int) != (q : Int)) = false := by simp
            have e2 : ((gl : Int) != (gl : Int)) = false := by simp
            go_wp2_with fail
            go_quiet (fail)
            go_wp2_with fail
            go_roundw
            case rel => exact ⟨t + 1, by omega, by go_num, below_drewN HBQ.out _⟩
            case measure => simp [intOf]; omega
          · have HW1 := Lib.hid (fun W (hW : Below w7.heap.size w7 W) => implBlendWidth_any _ _ c' (xs.map (· + 1)) W h8 HTX.out HIX.out (HX7.out.below hW).reads)
            have HW2 := Lib.hid (fun W (hW : Below w7.heap.size w7 W) => implBlendWidth_any _ _ c2 xs W h8 HT.out HI2.out (HL7.out.below hW).reads)
            rw [bw_shift] at HW1
            generalize bwF xs = bw at *
            have e3 : (bw == bw) = true := by simp
            have i3 : ¬ ((t : Int) < (q : Int)) := by omega
            go_wp2_with fail
            refine (HW1.out _ HBQ.out).mono ?_
            rintro e w8 ⟨rfl, hb8⟩
            have HB8 := Lib.hid (HBQ.out.trans (hb8.mono HBQ.out.size)); clear hb8
            go_wp2_with fail
            refine (HW2.out _ HB8.out).mono ?_
            rintro e w9 ⟨rfl, hb9⟩
            have HB9 := Lib.hid ((HB7.out.trans (HB8.out.mono HB7.out.size)).trans (hb9.mono (HB7.out.trans (HB8.out.mono HB7.out.size)).size)); clear hb9
            go_wp2_with fail
            go_ret
            exact ⟨rfl, HB9.out⟩
end Go.Proofs.Ytmmnkdjibdlcjaa
