/- A level is read out of any text. -/
import Derived.Test.YtgmhdgfokljggaaGreatDoorFa4
import Derived.Test.YtgmhdgfokljggaaGreatDoorLt3
import Derived.Deep.CutRange
namespace Go.Proofs.YtgmhdgfokljggaaGreatDoor
open Go.RowKit
attribute [local go_sem ↓] Go.wp_at_zero Go.wp_at_succ

/-- The first listed number whose text is r. -/
def lvJ (t : T2) (r : List UInt8) : Option Int := (lvJs t).find? fun j => decide (spT j = r)
/-- What is read of a text. -/
def lvF (s : List UInt8) : (T2 × Int) × Bool := if 3 ≤ s.length ∧ (tmF (s.take 2)).2 = true then (match lvJ (tmF (s.take 2)).1 (s.drop 2) with
  | some j => (((tmF (s.take 2)).1, j), true)
  | none => (((0, 0), 0), false)) else (((0, 0), 0), false)
def lvV (r : (T2 × Int) × Bool) : Value := .tuple #[.agg #[.int .i64 r.1.1.1, .int .i64 r.1.1.2, .int .i64 r.1.2], .bool r.2]
theorem bs_extract (l : List UInt8) (a b : Nat) : (bs l).extract a b = bs ((l.drop a).take (b - a)) := by
  apply ByteArray.ext
  simp [bs, ByteArray.data_extract]
theorem sl_head (s : List UInt8) (k : Nat) (hk : k ≤ s.length) (W : World) : (Instr.slice 9 (.string (bs s)) none (some (.int .i64 (k : Int))) none).run Tryz.prog W = .ok (.string (bs (s.take k))) W := by
  rw [run_slice_string_h (ht := Tryz.underlying9) (h0 := by omega) (h2 := by rw [bs_size]; omega), Int.toNat_natCast, bs_extract, List.drop_zero, Nat.sub_zero]
theorem sl_tail (s : List UInt8) (k : Nat) (hk : k ≤ s.length) (W : World) : (Instr.slice 9 (.string (bs s)) (some (.int .i64 (k : Int))) none none).run Tryz.prog W = .ok (.string (bs (s.drop k))) W := by
  rw [run_slice_string_l (ht := Tryz.underlying9) (h0 := by omega) (h1 := by rw [bs_size]; omega), Int.toNat_natCast, bs_extract, List.take_of_length_le (by rw [bs_size, List.length_drop]; exact Nat.le_refl _)]
theorem results_ct3 {P : Program} {fn : Func} {p t1 : Tmp} {ty : TypeId} {cs : Array Value} (h : fn.results = #[.cell p ty, .tmp t1]) (tmps : Array Value) (w : World) (g : Nat) (t : TypeId) (d : TypeDesc)
    (hp : tmps.getD p undef = .pointer (some ⟨g, 0, none⟩)) (hg : Blk w g t cs)
    (hu : P.underlying ty = some d) (hd : (match d with | .struct _ | .array _ _ => true | _ => false) = true) (hi : (P.info? ty).map (·.size) = some cs.size) :
    (results fn tmps).run P w = .ok (.tuple #[.agg cs, tmps.getD t1 undef]) w := results_ct0 h tmps w g t d hp hg hu hd hi
theorem find_take {js : List Int} {p : Int → Bool} {k : Nat} (h : ∀ j ∈ js.take k, p j = false) {j : Int} (hj : js[k]? = some j) (hp : p j = true) : js.find? p = some j := by
  induction js generalizing k with
  | nil => simp at hj
  | cons x js ih =>
    cases k with
    | zero => simp at hj; subst hj; simp [hp]
    | succ k =>
      have hx := h x (by simp)
      rw [List.find?_cons, hx]
      exact ih (k := k) (fun i hi => h i (by rw [List.take_succ_cons]; exact List.mem_cons_of_mem _ hi)) (by simpa using hj)
def LFPost (w : World) (r : (T2 × Int) × Bool) (e : Ending) (w' : World) : Prop := e = .returned (lvV r) ∧ Below w.heap.size w w'

set_option maxHeartbeats 4000000 in
theorem LevelFrom_all (s : List UInt8) (w : World) (hl : s.length ≤ 1000000) :
    Calls Tryz.prog 185 #[.string (bs s)] w fun e w' => e = .returned (lvV (lvF s)) ∧ Below w.heap.size w w' := by
  have HB0 := Lib.hid (bel_alloc (Below.refl w.heap.size w) (.cells #[.int .i64 0, .int .i64 0, .int .i64 0] 31))
  have HX0 := Lib.hid (Blk.new w 31 #[.int .i64 0, .int .i64 0, .int .i64 0])
  have hzs : (bs s).size ≤ 1000000 := by rw [bs_size]; exact hl
  by_cases hn : 3 ≤ s.length
  case neg =>
    have he : lvF s = (((0, 0), 0), false) := by unfold lvF; rw [if_neg (fun h => hn h.1)]
    have hn2 : (bs s).size < 3 := by rw [bs_size]; omega
    rw [he]; clear he hn
    unfold lvV
    generalize bs s = X at *
    go_enter Tryz.func185, Tryz.ntmps185
    go_wp2_with fail
    refine bodyPost_ret (results_ct3 rfl _ _ w.heap.size _ _ rfl HX0.out Tryz.underlying31 rfl (by kernel_rfl)) rfl ?_
    exact ⟨rfl, HB0.out⟩
  have hn2 : 3 ≤ (bs s).size := by rw [bs_size]; exact hn
  have HTF := Lib.hid (fun W => TermFrom_all (s.take 2) W (by rw [List.length_take]; omega))
  have HS1 := Lib.hid (sl_head s 2 (by omega))
  have HS2 := Lib.hid (sl_tail s 2 (by omega))
  obtain ⟨r, hr⟩ : ∃ r, tmF (s.take 2) = r := ⟨_, rfl⟩
  rw [hr] at HTF
  have HE0 : Hid (lvF s = if r.2 = true then (match lvJ r.1 (s.drop 2) with | some j => ((r.1, j), true) | none => (((0, 0), 0), false)) else (((0, 0), 0), false)) := by
    unfold Hid lvF
    rw [hr]
    cases r.2
    · rw [if_neg (by simp), if_neg (by simp)]
    · rw [if_pos ⟨hn, rfl⟩, if_pos rfl]
  rw [HE0.out]; clear HE0 hr hn hl
  obtain ⟨⟨a, b⟩, ok⟩ := r
  unfold tmV at HTF
  simp only at HTF
  cases ok
  · rw [if_neg (by simp)]
    unfold lvV
    generalize bs s = X at *
    generalize bs (s.take 2) = Y at *
    have hs1 : ∀ W : World, (Instr.slice 9 (.string X) none (some (.int .i64 2)) none).run Tryz.prog W = .ok (.string Y) W := fun W => HS1.out W
    go_enter Tryz.func185, Tryz.ntmps185
    go_wp2_with fail
    refine (HTF.out _).mono ?_
    rintro e w1 ⟨rfl, hb1⟩
    have HX1 := Lib.hid (HX0.out.sub hb1)
    have HB1 := Lib.hid (bel_sub HB0.out hb1)
    have hlt := HX1.out.lt
    obtain ⟨x1, x2, x3, f1, f2, f3⟩ := blk3 HX1.out
    clear hb1
    have HZ := Lib.hid ((((HX1.out.set 0 (.int .i64 0)).set 1 (.int .i64 0)).set 2 (.int .i64 0)).alloc (.cells #[.int .i64 a, .int .i64 b] 24))
    have HBZ := Lib.hid (bel_alloc (bel_set (g := w.heap.size) (i := 2) (u := .int .i64 0) (bel_set2 (g := w.heap.size) (x := .int .i64 0) (y := .int .i64 0) HB1.out (Nat.le_refl _)) (Nat.le_refl _)) (.cells #[.int .i64 a, .int .i64 b] 24))
    go_wp2_with fail
    refine bodyPost_ret (results_ct3 rfl _ _ w.heap.size _ _ rfl HZ.out Tryz.underlying31 rfl (by kernel_rfl)) rfl ?_
    exact ⟨rfl, HBZ.out⟩
  · rw [if_pos rfl]
    have HLO := Lib.hid (fun W => implLevelsOf_any (a, b) W)
    have HSP := Lib.hid (fun j W => implSpinText_any j W)
    have HBE := Lib.hid (fun j => bs_eq (spT j) (s.drop 2))
    have hzz : ∀ j, (bs (spT j)).size ≤ 9 := fun j => by rw [bs_size]; exact spT_len j
    have HZZ := Lib.hid hzz; clear hzz
    unfold LevelsPost at HLO
    have hlv : lvJ (a, b) (s.drop 2) = (lvJs (a, b)).find? fun j => decide (spT j = s.drop 2) := rfl
    rw [hlv]; clear hlv
    have hlen : (lvJs (a, b)).length ≤ 1000 := by
      cases hv : tvB (a, b)
      · unfold lvJs; rw [hv]; simp
      · exact Nat.le_trans (lv_len hv).2 (by omega)
    obtain ⟨js, hjs⟩ : ∃ js, lvJs (a, b) = js := ⟨_, rfl⟩
    obtain ⟨n, hnn⟩ : ∃ n, js.length = n := ⟨_, rfl⟩
    rw [hjs] at HLO hlen ⊢
    rw [hnn] at HLO hlen
    have HN := Lib.hid hnn; clear hjs hnn
    obtain ⟨R, hR⟩ : ∃ R, s.drop 2 = R := ⟨_, rfl⟩
    rw [hR] at HBE ⊢
    obtain ⟨rv, hrv⟩ : ∃ rv : (T2 × Int) × Bool, (match js.find? fun j => decide (spT j = R) with | some j => (((a, b), j), true) | none => (((0, 0), 0), false)) = rv := ⟨_, rfl⟩
    have HRV := Lib.hid hrv
    rw [hrv]; clear hrv
    have hzr : (bs (s.drop 2)).size ≤ 1000000 := by rw [bs_size, List.length_drop]; rw [bs_size] at hzs; omega
    have HS3 : Hid (∀ W : World, (Instr.slice 9 (.string (bs s)) (some (.int .i64 2)) none none).run Tryz.prog W = .ok (.string (bs R)) W) := fun W => by have := HS2.out W; rw [hR] at this; exact this
    rw [hR] at hzr
    clear HS2 hR
    generalize bs s = X at *
    generalize bs (s.take 2) = Y at *
    have hs1 : ∀ W : World, (Instr.slice 9 (.string X) none (some (.int .i64 2)) none).run Tryz.prog W = .ok (.string Y) W := fun W => HS1.out W
    go_enter Tryz.func185, Tryz.ntmps185
    go_wp2_with fail
    refine (HTF.out _).mono ?_
    rintro e w1 ⟨rfl, hb1⟩
    clear hs1 HS1
    have HX1 := Lib.hid ((HX0.out.sub hb1).alloc (.cells #[.int .i64 a, .int .i64 b] 24))
    have HB1 := Lib.hid (bel_alloc (bel_sub HB0.out hb1) (.cells #[.int .i64 a, .int .i64 b] 24))
    have HT1 := Lib.hid (Blk.new w1 24 #[.int .i64 a, .int .i64 b])
    clear hb1 HX0 HB0
    go_wp2_with fail
    refine (HLO.out _).mono ?_
    rintro e w2 ⟨⟨A, c, rfl, hr2⟩, hb2⟩
    have HX2 := Lib.hid (HX1.out.sub hb2)
    have HB2 := Lib.hid (bel_sub HB1.out hb2)
    have HR2 := Lib.hid (own_reads hr2)
    have hlt := HX2.out.lt
    clear hb2 HX1 HB1 hr2 HT1 HLO HTF
    go_wp2_with fail
    go_loopw [24] (fun i wr => ∃ (k : Nat), k ≤ n ∧ i = .int .i64 k ∧ Hid (Below w2.heap.size w2 wr) ∧ Hid (∀ j ∈ js.take k, decide (spT j = R) = false)) (fun i _ => n - (RowKit.intOf i).toNat)
    case atStart => exact ⟨0, Nat.zero_le _, rfl, Below.refl _ _, fun j hj => by simp at hj⟩
    case round =>
      obtain ⟨k, hk, rfl, HB, HNO⟩ := hrel
      by_cases hlt' : k < n
      · obtain ⟨b', off, j, rfl, hb', r1, r2, r3, hg⟩ := (HR2.out.below HB.out).lev HN.out hlt'
        have HG := Lib.hid hg; clear hg
        have i1 : (k : Int) < (n : Int) := by omega
        have i0 : (0 : Int) ≤ (k : Int) := by omega
        have hz1 := HZZ.out j
        have hsp := fun W => HSP.out j W
        have HQ := Lib.hid hsp; clear hsp
        obtain ⟨q, hq⟩ : ∃ q : Bool, decide (spT j = R) = q := ⟨_, rfl⟩
        have hbe := HBE.out j
        rw [hq] at hbe
        have HQE := Lib.hid hq; clear hq
        generalize bs (spT j) = D at *
        have HBW := Lib.hid (bel_sub HB2.out HB.out)
        have HXW := Lib.hid (HX2.out.sub HB.out)
        have HB3 := Lib.hid (bel_alloc HBW.out (.cells #[.int .i64 a, .int .i64 b, .int .i64 j] 31))
        have HX3 := Lib.hid (HXW.out.alloc (.cells #[.int .i64 a, .int .i64 b, .int .i64 j] 31))
        have HBR := Lib.hid (HB.out.alloc HB.out.size (.cells #[.int .i64 a, .int .i64 b, .int .i64 j] 31))
        obtain ⟨y1, y2, y3⟩ := Level3 (Blk.new wr 31 #[.int .i64 a, .int .i64 b, .int .i64 j])
        have k3 := After.cell y3
        have HY := Lib.hid (Blk.new wr 31 #[.int .i64 a, .int .i64 b, .int .i64 j])
        have hs3 := HS3.out
        go_wp2_with fail
        refine wp_region_after (by kernel_rfl) (by kernel_rfl) ?_
        repeat (go_big_quiet_step ((go_at_call 46; exact after_same _ (HQ.out _))))
        refine wpQuiet_nil ?_
        intro w9 hw'
        obtain ⟨⟨w9', hb9⟩, hw''⟩ := hw'
        subst hw''
        have HX9 := Lib.hid (HX3.out.sub hb9)
        have HY9 := Lib.hid (HY.out.sub hb9)
        have HB9 := Lib.hid (bel_sub HB3.out hb9)
        have HBR9 := Lib.hid (bel_sub HBR.out hb9)
        clear hb9 y1 y2 y3 k3 hs3
        cases q
        · have HNN : Hid (∀ j ∈ js.take (k + 1), decide (spT j = R) = false) := by
            intro i hi
            have hkl : k < js.length := by rw [HN.out]; exact hlt'
            rw [List.take_succ_eq_append_getElem hkl] at hi
            rcases List.mem_append.1 hi with hi | hi
            · exact HNO.out i hi
            · have : js[k] = j := by have := HG.out; rw [List.getElem?_eq_getElem hkl] at this; injection this
              simp only [List.mem_singleton] at hi
              rw [hi, this]; exact HQE.out
          go_wp2_with fail
          go_roundw
          case rel => exact ⟨k + 1, by omega, by go_num, HBR9.out, HNN.out⟩
          case measure => simp [RowKit.intOf]; omega
        · have HF : Hid (js.find? (fun j => decide (spT j = R)) = some j) := find_take (k := k) HNO.out HG.out HQE.out
          obtain ⟨y1, y2, y3⟩ := Level3 HY9.out
          obtain ⟨x1, x2, x3, f1, f2, f3⟩ := blk3 HX9.out
          have HZ := Lib.hid (((HX9.out.set 0 (.int .i64 a)).set 1 (.int .i64 b)).set 2 (.int .i64 j))
          have HBZ := Lib.hid (bel_set (g := w.heap.size) (i := 2) (u := .int .i64 j) (bel_set2 (g := w.heap.size) (x := .int .i64 a) (y := .int .i64 b) HB9.out (Nat.le_refl _)) (Nat.le_refl _))
          go_wp2_with fail
          refine bodyPost_ret (results_ct3 rfl _ _ w.heap.size _ _ rfl HZ.out Tryz.underlying31 rfl (by kernel_rfl)) rfl ?_
          exact ⟨by rw [← HRV.out, HF.out]; rfl, HBZ.out⟩
      · obtain rfl : k = n := by omega
        have HF : Hid (js.find? (fun j => decide (spT j = R)) = none) := by
          refine List.find?_eq_none.2 fun j hj => ?_
          have := HNO.out j (by rw [List.take_of_length_le (by rw [HN.out]; exact Nat.le_refl _)]; exact hj)
          rw [this]; simp
        have HX9 := Lib.hid (HX2.out.sub HB.out)
        have HB9 := Lib.hid (bel_sub HB2.out HB.out)
        obtain ⟨x1, x2, x3, f1, f2, f3⟩ := blk3 HX9.out
        have HZ := Lib.hid (((HX9.out.set 0 (.int .i64 0)).set 1 (.int .i64 0)).set 2 (.int .i64 0))
        have HBZ := Lib.hid (bel_set (g := w.heap.size) (i := 2) (u := .int .i64 0) (bel_set2 (g := w.heap.size) (x := .int .i64 0) (y := .int .i64 0) HB9.out (Nat.le_refl _)) (Nat.le_refl _))
        go_wp2_with fail
        refine bodyPost_ret (results_ct3 rfl _ _ w.heap.size _ _ rfl HZ.out Tryz.underlying31 rfl (by kernel_rfl)) rfl ?_
        exact ⟨by rw [← HRV.out, HF.out]; rfl, HBZ.out⟩
end Go.Proofs.YtgmhdgfokljggaaGreatDoor
