/- The walk of a law over texts of nodes. -/
import Derived.Test.YtnljibgjfobkbaaDoorDrawNode
import Derived.Test.YtnljibgjfobkbaaDoorLawKit
namespace Go.Proofs.YtnljibgjfobkbaaDoor
open Go.RowKit
attribute [local go_sem ↓] Go.wp_at_zero Go.wp_at_succ

theorem below_drewN {B : Nat} {a w : World} (h : Below B a w) (n : Nat) : Below B a (w.drewN n) := ⟨h.os, h.tape, h.output, h.size, h.block⟩
theorem bs_extract (l : List UInt8) (a b : Nat) : (bs l).extract a b = bs ((l.drop a).take (b - a)) := by
  apply ByteArray.ext
  simp [bs, ByteArray.data_extract]
theorem nd_facts {en j : Int} {o : Bool} (h : ndB en j = true) : ∃ (m : Nat) (Q : ByteArray), (bs (ndT en j o)).size = m + 2 ∧ (bs (ndT en j !o)).size = m + 2 ∧ (m : Int) ≤ 100 ∧
    (bs (ndT en j o)).extract 0 (m + 1) = Q ∧ (bs (ndT en j !o)).extract 0 (m + 1) = Q ∧ (bs (ndT en j o)).extract m (m + 2) = ⟨#[32]⟩ ++ bs [if o then 111 else 101] ∧ ((bs (ndT en j !o)).toList == (bs (ndT en j o)).toList) = false ∧ (bs (ndT en j o)).toList.isEmpty = false := by
  have hP : ∃ P : List UInt8, (∀ b : Bool, ndT en j b = P ++ [32] ++ [if b then 111 else 101]) ∧ P.length ≤ 100 := by
    refine ⟨Lib.decDigits en.toNat ++ [32] ++ spT j, fun b => by unfold ndT; rw [if_pos h], ?_⟩
    have hb := h
    unfold ndB at hb
    rw [Bool.and_eq_true, inB_iff, inB_iff] at hb
    have h1 := dig_len7 (n := en.toNat) (by omega)
    have h2 := spT_len j
    simp; omega
  obtain ⟨P, hP, hl⟩ := hP
  rw [hP, hP]
  refine ⟨P.length, bs (P ++ [32]), by rw [bs_size]; simp, by rw [bs_size]; simp, by omega, ?_, ?_, ?_, ?_, ?_⟩
  · rw [bs_extract, List.drop_zero, Nat.sub_zero, List.take_left' (by simp)]
  · rw [bs_extract, List.drop_zero, Nat.sub_zero, List.take_left' (by simp)]
  · rw [bs_extract, List.append_assoc, List.drop_left' rfl, List.take_of_length_le (by simp), show (⟨#[32]⟩ : ByteArray) = bs [32] from rfl, bs_append]
  · rw [ByteArray.toList_eq, ByteArray.toList_eq]
    cases o <;> simp [bs]
  · rw [ByteArray.toList_eq]
    simp [bs]

set_option maxHeartbeats 2000000 in
theorem fnNodeText_walk (A : Option Addr) (n0 c0 : Nat) (w : World) (hn : n0 ≤ maxLen) (hc : n0 ≤ c0) (hb : Bytes w w.heap.size A n0) (ht : Tab w) :
    Calls Tryd.prog 4 #[.slice A n0 c0] w fun e w' => e = .returned (.bool true) ∧ Below w.heap.size w w' := by
  unfold maxLen at hn
  have HT := Lib.hid ht; clear ht
  have HB := Lib.hid hb; clear hb
  have hB0 := Below.refl w.heap.size w
  by_cases hbig : 1048576 < n0
  · go_enter Tryd.func4, Tryd.ntmps4
    go_wp2_with fail
    go_ret
    exact ⟨rfl, hB0⟩
  clear hB0
  go_enter Tryd.func4, Tryd.ntmps4
  go_wp2_with fail
  refine (DrawNodeText_any A n0 c0 w (by omega) hc HB.out).mono ?_
  rintro e w1 ⟨en, j, o, rfl, hbd, hb1⟩
  have HB1 := Lib.hid hb1; clear hb1 HB
  have HG2 := Lib.hid (HB1.out.alloc HB1.out.size (.cells #[.int .i64 en, .int .i64 j, .bool o] 25))
  have HX2_n := Lib.hid (Blk.new w1 25 #[.int .i64 en, .int .i64 j, .bool o])
  clear HB1
  have HI := Lib.hid (fun W ht => implNodeText_any en j o W ht)
  have HS := Lib.hid (fun W => specNodeText_any en j o W)
  have HI2 := Lib.hid (fun W ht => implNodeText_any en j (!o) W ht)
  cases hv : ndB en j
  · have he : ndT en j o = [] := by unfold ndT; rw [hv]; simp
    rw [he, bs_nil] at HI HS; clear he hv
    go_wp2_with fail
    refine (HI.out _ (HT.out.on HG2.out)).mono ?_
    rintro e w3 ⟨rfl, hg3⟩
    have HX3_0 := Lib.hid (HX2_n.out.sub hg3)
    have HG3 := Lib.hid (HG2.out.trans (hg3.mono HG2.out.size)); clear hg3
    clear HX2_n HG2
    have le3 := HG3.out.size
    obtain ⟨y0a, y0b, y0e, y0c, y0d, y0f⟩ := blk3 HX3_0.out
    have q0 := HX3_0.out.lt
    go_wp2_with fail
    refine (HS.out _).mono ?_
    rintro e w4 ⟨rfl, hg4⟩
    clear y0a y0b y0c y0d y0e y0f q0
    have HX4_0 := Lib.hid (HX3_0.out.sub hg4)
    have HG4 := Lib.hid (HG3.out.trans (hg4.mono HG3.out.size)); clear hg4
    clear HX3_0 HG3
    have le4 := HG4.out.size
    obtain ⟨y0a, y0b, y0e, y0c, y0d, y0f⟩ := blk3 HX4_0.out
    have q0 := HX4_0.out.lt
    go_wp2_with fail
    go_ret
    exact ⟨rfl, HG4.out⟩
  have hlen : (Lib.decDigits en.toNat).length ≤ 7 := dig_len7 (by omega)
  have hlen2 := spT_len j
  have hfac := nd_facts (en := en) (j := j) (o := o) hv
  generalize bs (ndT en j o) = O at *
  generalize bs (ndT en j !o) = S at *
  obtain ⟨m, Q, h1, h2, h3, h4, h5, h6, h7, h8⟩ := hfac
  have H7 := Lib.hid h7
  clear h7 hv hlen hlen2
  have h9 : O.toList.isEmpty = false := h8
  clear h8
  go_wp2_with fail
  refine (HI.out _ (HT.out.on HG2.out)).mono ?_
  rintro e w3 ⟨rfl, hg3⟩
  have HX3_0 := Lib.hid (HX2_n.out.sub hg3)
  have HG3 := Lib.hid (HG2.out.trans (hg3.mono HG2.out.size)); clear hg3
  clear HX2_n HG2
  have le3 := HG3.out.size
  obtain ⟨y0a, y0b, y0e, y0c, y0d, y0f⟩ := blk3 HX3_0.out
  have q0 := HX3_0.out.lt
  go_wp2_with fail
  refine (HS.out _).mono ?_
  rintro e w4 ⟨rfl, hg4⟩
  clear y0a y0b y0c y0d y0e y0f q0
  have HX4_0 := Lib.hid (HX3_0.out.sub hg4)
  have HG4 := Lib.hid (HG3.out.trans (hg4.mono HG3.out.size)); clear hg4
  clear HX3_0 HG3
  have le4 := HG4.out.size
  obtain ⟨y0a, y0b, y0e, y0c, y0d, y0f⟩ := blk3 HX4_0.out
  have q0 := HX4_0.out.lt
  cases o
  · simp only [Bool.not_false] at HI2
    have HG5 := Lib.hid (HG4.out.alloc HG4.out.size (.cells #[.int .i64 en, .int .i64 j, .bool true] 25))
    have HX5_0 := Lib.hid (HX4_0.out.alloc (.cells #[.int .i64 en, .int .i64 j, .bool true] 25))
    have HX5_n := Lib.hid (Blk.new w4 25 #[.int .i64 en, .int .i64 j, .bool true])
    clear HX4_0 HG4
    go_wp2_with fail
    refine (HI2.out _ (HT.out.on HG5.out)).mono ?_
    rintro e w6 ⟨rfl, hg6⟩
    clear y0a y0b y0c y0d y0e y0f q0
    have HX6_0 := Lib.hid (HX5_0.out.sub hg6)
    have HX6_1 := Lib.hid (HX5_n.out.sub hg6)
    have HG6 := Lib.hid (HG5.out.trans (hg6.mono HG5.out.size)); clear hg6
    clear HX5_0 HX5_n HG5
    have le6 := HG6.out.size
    obtain ⟨y0a, y0b, y0e, y0c, y0d, y0f⟩ := blk3 HX6_0.out
    have q0 := HX6_0.out.lt
    obtain ⟨y1a, y1b, y1e, y1c, y1d, y1f⟩ := blk3 HX6_1.out
    have q1 := HX6_1.out.lt
    go_wp2_with fail
    have u1 : IntKind.i64.wrap ((m : Int) + 2 - 1) = (m : Int) + 1 := (IntWalk.i64_in _ (by omega)).trans (by omega)
    have u2 : IntKind.i64.wrap ((m : Int) + 2 - 2) = (m : Int) := (IntWalk.i64_in _ (by omega)).trans (by omega)
    have k1 : ∀ W, (Instr.slice 9 (.string S) none (some (.int .i64 ((m : Int) + 1))) none).run Tryd.prog W = .ok (.string Q) W := fun W => by
      rw [run_slice_string_to_if (h := Tryd.underlying9), if_pos ⟨by omega, by rw [h2]; omega⟩, show ((m : Int) + 1).toNat = m + 1 by omega, h5]
    have k2 : ∀ W, (Instr.slice 9 (.string O) none (some (.int .i64 ((m : Int) + 1))) none).run Tryd.prog W = .ok (.string Q) W := fun W => by
      rw [run_slice_string_to_if (h := Tryd.underlying9), if_pos ⟨by omega, by rw [h1]; omega⟩, show ((m : Int) + 1).toNat = m + 1 by omega, h4]
    have k3 : ∀ W, (Instr.slice 9 (.string O) (some (.int .i64 (m : Int))) none none).run Tryd.prog W = .ok (.string (⟨#[32]⟩ ++ ⟨#[101]⟩)) W := fun W => by
      rw [run_slice_string_from_if (h := Tryd.underlying9), if_pos ⟨by omega, by rw [h1]; omega⟩, Int.toNat_natCast, h1, h6]; rfl
    have hne := H7.out
    clear h4 h5 h6
    go_quiet (fail)
    go_wp2_with fail
    go_ret
    exact ⟨rfl, below_drewN HG6.out _⟩
  · simp only [Bool.not_true] at HI2
    have HG5 := Lib.hid (HG4.out.alloc HG4.out.size (.cells #[.int .i64 en, .int .i64 j, .bool false] 25))
    have HX5_0 := Lib.hid (HX4_0.out.alloc (.cells #[.int .i64 en, .int .i64 j, .bool false] 25))
    have HX5_n := Lib.hid (Blk.new w4 25 #[.int .i64 en, .int .i64 j, .bool false])
    clear HX4_0 HG4
    go_wp2_with fail
    refine (HI2.out _ (HT.out.on HG5.out)).mono ?_
    rintro e w6 ⟨rfl, hg6⟩
    clear y0a y0b y0c y0d y0e y0f q0
    have HX6_0 := Lib.hid (HX5_0.out.sub hg6)
    have HX6_1 := Lib.hid (HX5_n.out.sub hg6)
    have HG6 := Lib.hid (HG5.out.trans (hg6.mono HG5.out.size)); clear hg6
    clear HX5_0 HX5_n HG5
    have le6 := HG6.out.size
    obtain ⟨y0a, y0b, y0e, y0c, y0d, y0f⟩ := blk3 HX6_0.out
    have q0 := HX6_0.out.lt
    obtain ⟨y1a, y1b, y1e, y1c, y1d, y1f⟩ := blk3 HX6_1.out
    have q1 := HX6_1.out.lt
    go_wp2_with fail
    have u1 : IntKind.i64.wrap ((m : Int) + 2 - 1) = (m : Int) + 1 := (IntWalk.i64_in _ (by omega)).trans (by omega)
    have u2 : IntKind.i64.wrap ((m : Int) + 2 - 2) = (m : Int) := (IntWalk.i64_in _ (by omega)).trans (by omega)
    have k1 : ∀ W, (Instr.slice 9 (.string S) none (some (.int .i64 ((m : Int) + 1))) none).run Tryd.prog W = .ok (.string Q) W := fun W => by
      rw [run_slice_string_to_if (h := Tryd.underlying9), if_pos ⟨by omega, by rw [h2]; omega⟩, show ((m : Int) + 1).toNat = m + 1 by omega, h5]
    have k2 : ∀ W, (Instr.slice 9 (.string O) none (some (.int .i64 ((m : Int) + 1))) none).run Tryd.prog W = .ok (.string Q) W := fun W => by
      rw [run_slice_string_to_if (h := Tryd.underlying9), if_pos ⟨by omega, by rw [h1]; omega⟩, show ((m : Int) + 1).toNat = m + 1 by omega, h4]
    have k3 : ∀ W, (Instr.slice 9 (.string O) (some (.int .i64 (m : Int))) none none).run Tryd.prog W = .ok (.string (⟨#[32]⟩ ++ ⟨#[111]⟩)) W := fun W => by
      rw [run_slice_string_from_if (h := Tryd.underlying9), if_pos ⟨by omega, by rw [h1]; omega⟩, Int.toNat_natCast, h1, h6]; rfl
    have hne := H7.out
    clear h4 h5 h6
    go_quiet (fail)
    go_wp2_with fail
    go_ret
    exact ⟨rfl, below_drewN HG6.out _⟩
end Go.Proofs.YtnljibgjfobkbaaDoor
