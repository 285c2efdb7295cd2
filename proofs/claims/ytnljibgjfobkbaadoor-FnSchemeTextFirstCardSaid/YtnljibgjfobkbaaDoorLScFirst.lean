/- The walk of the law FnSchemeTextFirst. -/
import Derived.Test.YtnljibgjfobkbaaDoorSc3
import Derived.Test.YtnljibgjfobkbaaDoorScD
import Derived.Test.YtnljibgjfobkbaaDoorLawKit
namespace Go.Proofs.YtnljibgjfobkbaaDoor
open Go.RowKit
attribute [local go_sem ↓] Go.wp_at_zero Go.wp_at_succ

theorem bs_extract2 (l : List UInt8) (a b : Nat) : (bs l).extract a b = bs ((l.drop a).take (b - a)) := by
  apply ByteArray.ext
  simp [bs, ByteArray.data_extract]
theorem gN_take_lt {ns : List T3} {r k : Nat} (h : k < r) : gN (ns.take r) k = gN ns k := by
  unfold gN; rw [List.getElem?_take_of_lt h]
theorem ncells_take (ns : List T3) (q : Nat) : (ncells ns).take (q * 3) = ncells (ns.take q) := by
  induction ns generalizing q with
  | nil => simp [ncells]
  | cons t ts ih =>
    cases q with
    | zero => simp [ncells]
    | succ q =>
      rw [show (q + 1) * 3 = q * 3 + 3 by omega]
      show Value.int .i64 t.1 :: Value.int .i64 t.2.1 :: Value.bool t.2.2 :: (ncells ts).take (q * 3) = Value.int .i64 t.1 :: Value.int .i64 t.2.1 :: Value.bool t.2.2 :: ncells (ts.take q)
      rw [ih q]
theorem okN_take {ns : List T3} {r k : Nat} (h : k < r) (h0 : 0 < r) : okN (ns.take r) k = okN ns k := by
  unfold okN; rw [gN_take_lt h, gN_take_lt h0, gN_take_lt (show k - 1 < r by omega)]
theorem svB_take {ns : List T3} {r : Nat} (hv : svB ns = true) (h0 : 0 < r) (hr : r ≤ ns.length) : svB (ns.take r) = true := by
  obtain ⟨h1, h2, h3⟩ := svB_iff.1 hv
  have hl : (ns.take r).length = r := by rw [List.length_take]; omega
  refine svB_iff.2 ⟨by rw [hl]; omega, by rw [gN_take_lt h0]; exact h2, fun k hk => ?_⟩
  rw [hl] at hk
  rw [okN_take hk h0]
  exact h3 k (by omega)
theorem scP_take {ns : List T3} {r : Nat} : ∀ k, k ≤ r → scP (ns.take r) k = scP ns k := by
  intro k
  induction k with
  | zero => intro _; rfl
  | succ k ih => intro hk; unfold scP; rw [ih (by omega), gN_take_lt (show k < r by omega)]
theorem scP_prefix (ns : List T3) (k : Nat) : ∀ d, ∃ r, scP ns (k + d) = scP ns k ++ r := by
  intro d
  induction d with
  | zero => exact ⟨[], by simp⟩
  | succ d ih =>
    obtain ⟨r, hr⟩ := ih
    refine ⟨r ++ (ndT (gN ns (k + d)).1 (gN ns (k + d)).2.1 (gN ns (k + d)).2.2 ++ [10]), ?_⟩
    show scP ns (k + d) ++ _ = _
    rw [hr, List.append_assoc]; rfl
theorem sch_facts {ns : List T3} {m r : Nat} (hl : ns.length = m + 1) (hv : svB ns = true) (hr : r < m + 1) :
    ∃ O X D Y : ByteArray, bs (scT ns) = O ∧ bs (scT (ns.take (r + 1))) = X ∧ bs (ndT (gN ns m).1 (gN ns m).2.1 (gN ns m).2.2) = D ∧ D ++ ⟨#[10]⟩ = Y ∧ O.toList.isEmpty = false ∧ 0 < X.size ∧ X.size ≤ O.size ∧ O.extract 0 X.size = X ∧ Y.size ≤ O.size ∧ O.extract (O.size - Y.size) O.size = Y ∧ O.size ≤ 1000 ∧ D.size + 1 = Y.size := by
  have hn := (svB_iff.1 hv).1
  have e1 : scT ns = scP ns (m + 1) := by unfold scT; rw [if_pos hv, hl]
  have e2 : scT (ns.take (r + 1)) = scP ns (r + 1) := by
    unfold scT
    rw [if_pos (svB_take hv (by omega) (by omega)), scP_take _ (by rw [List.length_take]; omega), List.length_take, hl, Nat.min_eq_left (by omega)]
  obtain ⟨q, hq⟩ := scP_prefix ns (r + 1) (m - r)
  rw [show r + 1 + (m - r) = m + 1 by omega] at hq
  have hlast : scP ns (m + 1) = scP ns m ++ (ndT (gN ns m).1 (gN ns m).2.1 (gN ns m).2.2 ++ [10]) := rfl
  have hy : bs (ndT (gN ns m).1 (gN ns m).2.1 (gN ns m).2.2) ++ ⟨#[10]⟩ = bs (ndT (gN ns m).1 (gN ns m).2.1 (gN ns m).2.2 ++ [10]) := bs_append _ [10]
  have hlen := scP_len ns (m + 1)
  refine ⟨_, _, _, _, rfl, rfl, rfl, hy, ?_, ?_, ?_, ?_, ?_, ?_, ?_, ?_⟩
  · rw [e1, hlast, ByteArray.toList_eq]; simp [bs]
  · rw [e2, bs_size]; show 0 < (scP ns r ++ (ndT (gN ns r).1 (gN ns r).2.1 (gN ns r).2.2 ++ [10])).length; rw [List.length_append, List.length_append]; simp only [List.length_cons]; omega
  · rw [e1, e2, bs_size, bs_size, hq, List.length_append]; omega
  · rw [e1, e2, bs_extract2, bs_size, hq, List.drop_zero, Nat.sub_zero, List.take_left' rfl]
  · rw [e1, bs_size, bs_size, hlast]; simp only [List.length_append]; omega
  · rw [e1, bs_extract2, bs_size, bs_size, hlast, List.length_append, Nat.add_sub_cancel, List.drop_left' rfl, List.take_of_length_le (by rw [Nat.add_sub_cancel_left]; exact Nat.le_refl _)]
  · rw [e1, bs_size]; omega
  · rw [bs_size, bs_size, List.length_append]; rfl

set_option maxHeartbeats 4000000 in
theorem fnSchemeTextFirst_walk (A : Option Addr) (n0 c0 : Nat) (A' : Option Addr) (n1 c1 : Nat) (w : World) (hn : n0 ≤ maxLen) (hc : n0 ≤ c0) (hb : Bytes w w.heap.size A n0) (hn' : n1 ≤ maxLen) (_ : n1 ≤ c1) (_ : Bytes w w.heap.size A' n1) (ht : Tab w) :
    Calls Tryd.prog 5 #[.slice A n0 c0, .slice A' n1 c1] w fun e w' => e = .returned (.bool true) ∧ Below w.heap.size w w' := by
  unfold maxLen at hn hn'
  have HTab := Lib.hid ht; clear ht
  have HB := Lib.hid hb; clear hb
  have hB0 := Below.refl w.heap.size w
  by_cases hbig : 1048576 < n0
  · go_enter Tryd.func5, Tryd.ntmps5
    go_wp2_with fail
    go_ret
    exact ⟨rfl, hB0⟩
  by_cases hbig1 : 1048576 < n1
  · go_enter Tryd.func5, Tryd.ntmps5
    go_wp2_with fail
    go_ret
    exact ⟨rfl, hB0⟩
  clear hB0
  go_enter Tryd.func5, Tryd.ntmps5
  go_wp2_with fail
  refine (DrawSchemeText_any A n0 c0 w (by omega) hc HB.out).mono ?_
  rintro e w1 ⟨A2, n2, c2, ns, rfl, hL, hb1⟩
  have HB1 := Lib.hid hb1; clear hb1 HB
  obtain ⟨hnc, hts, h8, hr⟩ := hL
  have HT := Lib.hid hts; clear hts
  have HR := Lib.hid (fun W (hB : Below w1.heap.size w1 W) => (hr.below hB).more hB.size); clear hr
  have HI := Lib.hid (fun W hB => implSchemeText_any A2 c2 n2 ns W (by omega) HT.out (HR.out W hB))
  have HS := Lib.hid (fun W hB => specSchemeText_any A2 c2 n2 ns W (by omega) HT.out (HR.out W hB))
  cases hv : svB ns
  · have he : scT ns = [] := by unfold scT; rw [hv]; simp
    rw [he, bs_nil] at HI HS; clear he hv
    go_wp2_with fail
    refine (HI.out _ (Below.refl _ _) (HTab.out.on HB1.out)).mono ?_
    rintro e w2 ⟨rfl, hb2⟩
    have HC2 := Lib.hid hb2; clear hb2
    go_wp2_with fail
    refine (HS.out _ HC2.out).mono ?_
    rintro e w3 ⟨rfl, hb3⟩
    have HC3 := Lib.hid (HC2.out.trans (hb3.mono HC2.out.size)); clear hb3 HC2
    have HB3 := Lib.hid (HB1.out.trans (HC3.out.mono HB1.out.size))
    go_wp2_with fail
    go_ret
    exact ⟨rfl, HB3.out⟩
  have hN := (svB_iff.1 hv).1
  rw [HT.out] at hN
  obtain ⟨m, rfl⟩ : ∃ m, c2 = m + 1 := ⟨c2 - 1, by omega⟩
  obtain ⟨r, hr⟩ : ∃ r, n1 % (m + 1) = r := ⟨_, rfl⟩
  have hr1 : r < m + 1 := by rw [← hr]; exact Nat.mod_lt _ (by omega)
  have t2 : ((n1 : Int) % ((m : Int) + 1)) = (r : Int) := by rw [← hr]; rfl
  have t1 : ((n1 : Int).tmod ((m : Int) + 1)) = (r : Int) := by rw [Int.tmod_eq_emod_of_nonneg (by omega), t2]
  have hf := sch_facts HT.out hv hr1
  obtain ⟨b, off, rfl, hb, _⟩ := (HR.out w1 (Below.refl _ _)).node (show m < m + 1 by omega)
  have HX := Lib.hid (fun W (hB : Below w1.heap.size w1 W) => implSchemeText_any (some ⟨b, off, none⟩) (1 + r) n2 (ns.take (r + 1)) W (by omega) (by rw [List.length_take, HT.out]; omega) (by
    have h := (HR.out W hB).take (k := 1 + r) (by omega)
    rw [ncells_take] at h
    rwa [Nat.add_comm r 1]))
  have HD := Lib.hid (fun W => implNodeText_any (gN ns m).1 (gN ns m).2.1 (gN ns m).2.2 W)
  obtain ⟨O, X, D, Y, hO, hX, hD, hY, f1, f2, f3, f4, f5, f6, f7, f8⟩ := hf
  rw [hO] at HI HS
  rw [hX] at HX
  rw [hD] at HD
  clear hO hX hD hv hr
  go_wp2_with fail
  refine (HI.out _ (Below.refl _ _) (HTab.out.on HB1.out)).mono ?_
  rintro e w2 ⟨rfl, hb2⟩
  have HC2 := Lib.hid hb2; clear hb2
  go_wp2_with fail
  refine (HS.out _ HC2.out).mono ?_
  rintro e w3 ⟨rfl, hb3⟩
  have HC3 := Lib.hid (HC2.out.trans (hb3.mono HC2.out.size)); clear hb3 HC2
  have u0 : IntKind.i64.wrap (1 + (r : Int)) = 1 + (r : Int) := IntWalk.i64_in _ (by omega)
  go_wp2_with fail
  refine (HX.out _ HC3.out (HTab.out.on (HB1.out.trans (HC3.out.mono HB1.out.size)))).mono ?_
  rintro e w4 ⟨rfl, hb4⟩
  have HC4 := Lib.hid (HC3.out.trans (hb4.mono HC3.out.size)); clear hb4 HC3 HX HI HS u0
  obtain ⟨b', off', e', hb', r1, r2, r3⟩ := (HR.out w4 HC4.out).node (show m < m + 1 by omega)
  cases e'
  have HB4 := Lib.hid (HB1.out.trans (HC4.out.mono HB1.out.size))
  have u2 : IntKind.i64.wrap ((m : Int) + 1 - 1) = (m : Int) := (IntWalk.i64_in _ (by omega)).trans (by omega)
  have i5 : (0 : Int) ≤ (m : Int) := by omega
  generalize (gN ns m).1 = E at *
  generalize (gN ns m).2.1 = J at *
  generalize (gN ns m).2.2 = Q at *
  go_wp2_with fail
  refine (HD.out _ (HTab.out.on HB4.out)).mono ?_
  rintro e w5 ⟨rfl, hb5⟩
  have HB5 := Lib.hid (HB4.out.trans (hb5.mono HB4.out.size)); clear hb5 HD r1 r2 r3
  have d0 : decide (0 < X.size) = true := decide_eq_true f2
  have d1 : decide (X.size ≤ O.size) = true := decide_eq_true f3
  have d2 : decide (Y.size ≤ O.size) = true := decide_eq_true f5
  have k1 : ∀ W, (Instr.slice 9 (.string O) none (some (.int .i64 (X.size : Int))) none).run Tryd.prog W = .ok (.string X) W := fun W => by
    rw [run_slice_string_to_if (h := Tryd.underlying9), if_pos ⟨by omega, by omega⟩, Int.toNat_natCast, f4]
  have k2 : ∀ W, (Instr.slice 9 (.string O) (some (.int .i64 ((O.size : Int) - (Y.size : Int)))) none none).run Tryd.prog W = .ok (.string Y) W := fun W => by
    rw [run_slice_string_from_if (h := Tryd.underlying9), if_pos ⟨by omega, by omega⟩, show ((O.size : Int) - (Y.size : Int)).toNat = O.size - Y.size by omega, f6]
  have u3 : IntKind.i64.wrap ((O.size : Int) - (Y.size : Int)) = (O.size : Int) - (Y.size : Int) := IntWalk.i64_in _ (by omega)
  go_wp2_with fail
  go_ret
  exact ⟨rfl, HB5.out⟩
end Go.Proofs.YtnljibgjfobkbaaDoor
