/- Draws of marks with a position or a number. -/
import Derived.Test.YtogbjneldipnpaaMkD
namespace Go.Proofs.Ytogbjneldipnpaa
open Go.RowKit
attribute [local go_sem ↓] Go.wp_at_zero Go.wp_at_succ

def DrawMarksNumPost (w : World) (e : Ending) (w' : World) : Prop :=
  ∃ A c n ms x, e = .returned (.tuple #[.slice A n c, .int .i64 x]) ∧ LstM w' w.heap.size A n c ms ∧ (-1 ≤ x ∧ x ≤ 200000) ∧ Below w.heap.size w w'
theorem LstM.mono {w : World} {base base' n c : Nat} {A : Option Addr} {ms : List T2} (h : LstM w base A n c ms) (hb : base' ≤ base) : LstM w base' A n c ms := by
  obtain ⟨h1, h2, h3, h4, h5, h6, h7⟩ := h
  exact ⟨h1, h2, h3, h4, h5, h6, fun a ha => Nat.le_trans hb (h7 a ha)⟩
/-- The cells of the list at hand. -/
theorem LstM.cells {w : World} {base n c b off : Nat} {ms : List T2} (h : LstM w base (some ⟨b, off, none⟩) n c ms) :
    (∀ k, k < n → w.cell? ⟨b, off + k * 2, none⟩ = some (.int .i64 (gp ms k))) ∧ (∀ k, k < n → w.cell? ⟨b, off + k * 2 + 1, none⟩ = some (.int .i64 (gn ms k))) := by
  obtain ⟨h1, h2, h3, h4, h5, h6, h7⟩ := h
  refine ⟨fun k hk => ?_, fun k hk => ?_⟩
  · obtain ⟨b', off', e, _, r1, _⟩ := h6.mark hk
    cases e; exact r1
  · obtain ⟨b', off', e, _, _, r2⟩ := h6.mark hk
    cases e; exact r2
theorem LstM.form {w : World} {base n c : Nat} {A : Option Addr} {ms : List T2} (h : LstM w base A n c ms) : ∃ b off, A = some ⟨b, off, none⟩ := by
  obtain ⟨b, off, e, _⟩ := h.2.2.2.2.2.1.2 (by have := h.2.2.1; omega)
  exact ⟨b, off, e⟩

set_option maxHeartbeats 2000000 in
theorem DrawMarkNumber_any (A : Option Addr) (n c : Nat) (w : World) (hm : n ≤ 140737488355328) (hc : n ≤ c) (hb : Bytes w w.heap.size A n) :
    Calls Try.prog 19 #[.slice A n c] w (DrawMarksNumPost w) := by
  have HB := Lib.hid hb; clear hb
  go_enter Try.func19, Try.ntmps19
  go_wp2_with fail
  refine (l6Open_any A n c w hm hc HB.out).mono ?_
  rintro e w1 ⟨rfl, hR1, hb1⟩
  have HB1 := Lib.hid hb1; have HR1 := Lib.hid hR1; clear hb1 hR1
  have hlt1 := HR1.out.lt
  go_wp2_with fail
  refine (l93Marks_any w.heap.size w.heap.size 0 w1 (by omega) HR1.out).mono ?_
  rintro e w2 ⟨A2, c2, n2, ms, rfl, hL, hR2, hg2⟩
  have HR2 := Lib.hid hR2
  have HG := Lib.hid (below_of_gb HB1.out hg2 HB1.out.size (Nat.le_refl _))
  have HL := Lib.hid hL
  clear hg2 hR2 hL HR1
  go_wp2_with fail
  refine (pick_any w.heap.size w.heap.size 14 4 w2 (by omega) (by omega) (by omega) HR2.out).mono ?_
  rintro e w3 ⟨v3, rfl, hv3, hR3, hg3⟩
  have b3 := hv3.lt (by omega)
  replace HG := Lib.hid (below_of_gb HG.out hg3 HG.out.size (Nat.le_refl _))
  replace HL := Lib.hid (HL.out.gb hg3 hlt1)
  have HR3 := Lib.hid hR3
  clear hg3 hR3 HR2 hv3
  obtain ⟨b, off, rfl⟩ := HL.out.form
  have hn2 : 1 ≤ n2 ∧ n2 ≤ 5 := ⟨HL.out.2.2.1, HL.out.2.2.2.1⟩
  have HMV := Lib.hid (fun k (hk : k < n2) => DrM.of HL.out.2.2.2.2.1 (k := k) (by rw [HL.out.2.1]; exact hk))
  have hs1 := HL.out.cells.1
  have HLB := Lib.hid (Nat.le_trans HB1.out.size (Nat.le_refl _))
  by_cases h0 : v3 = 0
  · subst h0
    go_wp2_with fail
    clear hs1
    go_region_with (first
        | (go_at_call_of 37 (Value.int IntKind.i64 3); refine (pick_any w.heap.size w.heap.size 16 3 _ (by omega) (by omega) (by omega) hRA).mono ?_; rintro e wB ⟨vB, rfl, hvB, hRB, hgB⟩; have jA := hvB.lt (by omega); have jB := HMV.out vA iC; have jC : IntKind.i64.wrap (gp ms vA + vB) = gp ms vA + vB := IntWalk.i64_in _ (by omega); have jD : IntKind.i64.wrap (gp ms vA + vB - 1) = gp ms vA + vB - 1 := IntWalk.i64_in _ (by omega); have kB := (((HL.out.gb (gb_drew (gb_refl _ _)) hlt1).gb hgA hlt1).gb hgB hlt1).cells.1 vA iC)
        | (go_at_call_of 37 (Value.int IntKind.i64 (n2 : Int)); refine (pick_any w.heap.size w.heap.size 15 n2 _ (by omega) (by omega) (by omega) HR3.out.drew).mono ?_; rintro e wA ⟨vA, rfl, hvA, hRA, hgA⟩; have iA := (hvA.lt (by omega)).2; obtain ⟨vA, rfl⟩ := Int.eq_ofNat_of_zero_le hvA.1; have iB : (0 : Int) ≤ (vA : Int) := (by omega); have iC : vA < n2 := (by omega); have kA := ((HL.out.gb (gb_drew (gb_refl _ _)) hlt1).gb hgA hlt1).cells.1 vA iC))
    all_goals
      have HGB := Lib.hid (below_of_gb (below_of_gb HG.out.drew hgA HG.out.size (Nat.le_refl _)) hgB (Nat.le_trans HG.out.size hgA.size) (Nat.le_refl _))
      have HLL := Lib.hid (((HL.out.gb (gb_drew (gb_refl _ _)) hlt1).gb hgA hlt1).gb hgB hlt1)
      clear jC jD hgA hgB hRA hRB kA kB
      go_wp2_with fail
      go_ret2
      exact ⟨_, c2, n2, ms, _, rfl, HLL.out.mono HB1.out.size, by omega, HGB.out⟩
  · have d0 : (v3 == 0) = false := by simpa using h0
    have g0 := hs1 0 (by omega)
    simp only [Nat.zero_mul, Nat.add_zero] at g0
    have iD : (0 : Int) < (n2 : Int) := by omega
    have iE : 0 < n2 := by omega
    have jB := HMV.out 0 (by omega)
    clear hs1
    go_wp2_with fail
    go_region_held3 (fun w' => w'.cell? ⟨b, off, none⟩ = some (.int .i64 (gp ms 0)))
      (first | exact g0 | (have := ((HL.out.gb (gb_drew (gb_refl _ _)) hlt1).gb hgA hlt1).cells.1 0 (by omega); simpa only [Nat.zero_mul, Nat.add_zero] using this))
      (first
        | (go_at_call 37; refine (pick_any w.heap.size w.heap.size 15 150 _ (by omega) (by omega) (by omega) HR3.out.drew).mono ?_; rintro e wA ⟨vA, rfl, hvA, hRA, hgA⟩; have jA := hvA.lt (by omega); have jC : IntKind.i64.wrap (gp ms 0 + vA) = gp ms 0 + vA := IntWalk.i64_in _ (by omega)))
    have HGB := Lib.hid (below_of_gb HG.out.drew hgA HG.out.size (Nat.le_refl _))
    have HLL := Lib.hid ((HL.out.gb (gb_drew (gb_refl _ _)) hlt1).gb hgA hlt1)
    clear jC hgA hRA g0
    go_wp2_with fail
    go_ret2
    exact ⟨_, c2, n2, ms, _, rfl, HLL.out.mono HB1.out.size, by omega, HGB.out⟩

set_option maxHeartbeats 2000000 in
theorem DrawMarkPos_any (A : Option Addr) (n c : Nat) (w : World) (hm : n ≤ 140737488355328) (hc : n ≤ c) (hb : Bytes w w.heap.size A n) :
    Calls Try.prog 23 #[.slice A n c] w (DrawMarksNumPost w) := by
  have HB := Lib.hid hb; clear hb
  go_enter Try.func23, Try.ntmps23
  go_wp2_with fail
  refine (l6Open_any A n c w hm hc HB.out).mono ?_
  rintro e w1 ⟨rfl, hR1, hb1⟩
  have HB1 := Lib.hid hb1; have HR1 := Lib.hid hR1; clear hb1 hR1
  have hlt1 := HR1.out.lt
  go_wp2_with fail
  refine (l93Marks_any w.heap.size w.heap.size 0 w1 (by omega) HR1.out).mono ?_
  rintro e w2 ⟨A2, c2, n2, ms, rfl, hL, hR2, hg2⟩
  have HR2 := Lib.hid hR2
  have HG := Lib.hid (below_of_gb HB1.out hg2 HB1.out.size (Nat.le_refl _))
  have HL := Lib.hid hL
  clear hg2 hR2 hL HR1
  go_wp2_with fail
  refine (pick_any w.heap.size w.heap.size 14 4 w2 (by omega) (by omega) (by omega) HR2.out).mono ?_
  rintro e w3 ⟨v3, rfl, hv3, hR3, hg3⟩
  have b3 := hv3.lt (by omega)
  replace HG := Lib.hid (below_of_gb HG.out hg3 HG.out.size (Nat.le_refl _))
  replace HL := Lib.hid (HL.out.gb hg3 hlt1)
  have HR3 := Lib.hid hR3
  clear hg3 hR3 HR2 hv3
  obtain ⟨b, off, rfl⟩ := HL.out.form
  have hn2 : 1 ≤ n2 ∧ n2 ≤ 5 := ⟨HL.out.2.2.1, HL.out.2.2.2.1⟩
  have HMV := Lib.hid (fun k (hk : k < n2) => DrM.of HL.out.2.2.2.2.1 (k := k) (by rw [HL.out.2.1]; exact hk))
  have hs1 := HL.out.cells.2
  have HLB := Lib.hid (Nat.le_trans HB1.out.size (Nat.le_refl _))
  by_cases h0 : v3 = 0
  · subst h0
    go_wp2_with fail
    clear hs1
    go_region_with (first
        | (go_at_call_of 37 (Value.int IntKind.i64 3); refine (pick_any w.heap.size w.heap.size 16 3 _ (by omega) (by omega) (by omega) hRA).mono ?_; rintro e wB ⟨vB, rfl, hvB, hRB, hgB⟩; have jA := hvB.lt (by omega); have jB := HMV.out vA iC; have jC : IntKind.i64.wrap (gn ms vA + vB) = gn ms vA + vB := IntWalk.i64_in _ (by omega); have jD : IntKind.i64.wrap (gn ms vA + vB - 1) = gn ms vA + vB - 1 := IntWalk.i64_in _ (by omega); have kB := (((HL.out.gb (gb_drew (gb_refl _ _)) hlt1).gb hgA hlt1).gb hgB hlt1).cells.2 vA iC)
        | (go_at_call_of 37 (Value.int IntKind.i64 (n2 : Int)); refine (pick_any w.heap.size w.heap.size 15 n2 _ (by omega) (by omega) (by omega) HR3.out.drew).mono ?_; rintro e wA ⟨vA, rfl, hvA, hRA, hgA⟩; have iA := (hvA.lt (by omega)).2; obtain ⟨vA, rfl⟩ := Int.eq_ofNat_of_zero_le hvA.1; have iB : (0 : Int) ≤ (vA : Int) := (by omega); have iC : vA < n2 := (by omega); have kA := ((HL.out.gb (gb_drew (gb_refl _ _)) hlt1).gb hgA hlt1).cells.2 vA iC))
    all_goals
      have HGB := Lib.hid (below_of_gb (below_of_gb HG.out.drew hgA HG.out.size (Nat.le_refl _)) hgB (Nat.le_trans HG.out.size hgA.size) (Nat.le_refl _))
      have HLL := Lib.hid (((HL.out.gb (gb_drew (gb_refl _ _)) hlt1).gb hgA hlt1).gb hgB hlt1)
      clear jC jD hgA hgB hRA hRB kA kB
      go_wp2_with fail
      go_ret2
      exact ⟨_, c2, n2, ms, _, rfl, HLL.out.mono HB1.out.size, by omega, HGB.out⟩
  · have d0 : (v3 == 0) = false := by simpa using h0
    have g0 := hs1 0 (by omega)
    simp only [Nat.zero_mul, Nat.add_zero] at g0
    have iD : (0 : Int) < (n2 : Int) := by omega
    have iE : 0 < n2 := by omega
    have jB := HMV.out 0 (by omega)
    clear hs1
    go_wp2_with fail
    go_region_held3 (fun w' => w'.cell? ⟨b, off + 1, none⟩ = some (.int .i64 (gn ms 0)))
      (first | exact g0 | (have := ((HL.out.gb (gb_drew (gb_refl _ _)) hlt1).gb hgA hlt1).cells.2 0 (by omega); simpa only [Nat.zero_mul, Nat.add_zero] using this))
      (first
        | (go_at_call 37; refine (pick_any w.heap.size w.heap.size 15 200 _ (by omega) (by omega) (by omega) HR3.out.drew).mono ?_; rintro e wA ⟨vA, rfl, hvA, hRA, hgA⟩; have jA := hvA.lt (by omega); have jC : IntKind.i64.wrap (gn ms 0 + vA) = gn ms 0 + vA := IntWalk.i64_in _ (by omega)))
    have HGB := Lib.hid (below_of_gb HG.out.drew hgA HG.out.size (Nat.le_refl _))
    have HLL := Lib.hid ((HL.out.gb (gb_drew (gb_refl _ _)) hlt1).gb hgA hlt1)
    clear jC hgA hRA g0
    go_wp2_with fail
    go_ret2
    exact ⟨_, c2, n2, ms, _, rfl, HLL.out.mono HB1.out.size, by omega, HGB.out⟩
end Go.Proofs.Ytogbjneldipnpaa
