/- The table of all commands. -/
import Derived.Test.YtgmhdgfokljggaaGreatDoorSpg
import Derived.Maps.OwnOps
import Derived.Maps.Views
namespace Go.Proofs.YtgmhdgfokljggaaGreatDoor
open Go.RowKit Go.Lib
attribute [local go_sem ↓] Go.wp_at_zero Go.wp_at_succ

/-- How a function value reads. -/
def RF : Value → Option (DataW Unit × List MemPlace)
  | .func (.func f) a b => if a.size = 0 ∧ b.size = 0 then some (.lit (.int .i64 (f : Int)), []) else none
  | _ => none
theorem RF_inv {v : Value} {y : DataW Unit × List MemPlace} {f : Nat} (h : RF v = some y) (hy : y.1 = .lit (.int .i64 (f : Int))) : v = .func (.func f) #[] #[] := by
  unfold RF at h
  split at h
  · rename_i g a b
    split at h
    · rename_i hab
      injection h with h
      subst h
      simp only at hy
      injection hy with hy
      injection hy with _ hy
      have hgf : g = f := by exact_mod_cast hy
      rw [hgf, Array.eq_empty_of_size_eq_zero hab.1, Array.eq_empty_of_size_eq_zero hab.2]
    · cases h
  · cases h
def reqL : List (List UInt8 × Nat) := [([103, 114, 111, 117, 110, 100], 151), ([116, 101, 114, 109, 115], 152), ([104, 117, 110, 100], 153), ([108, 101, 118, 101, 108, 115], 154), ([102, 97, 99, 116, 111, 114], 155), ([99, 108, 101, 98, 115, 99, 104], 156), ([115, 105, 120], 157), ([115, 112, 108, 105, 116], 158)]
def putL (D : DataW Unit) (p : List UInt8 × Nat) : DataW Unit := D.put (.string p.1) (.lit (.int .i64 (p.2 : Int)))
def reqD : DataW Unit := reqL.foldl putL (.map [])
/-- The function of a command. -/
def cmdOf (l : List UInt8) : Option Nat := reqL.foldl (fun acc p => if l = p.1 then some p.2 else acc) none
def atO (o : Option Nat) (zd : DataW Unit) : DataW Unit := match o with
  | some f => .lit (.int .i64 (f : Int))
  | none => zd
theorem kstr (l : List UInt8) : WideAt.IsKeyLit (.string l) := by trivial
theorem at_fold (l : List UInt8) : ∀ (xs : List (List UInt8 × Nat)) (D : DataW Unit) (o : Option Nat), Maps.IsMap D → (∀ zd, D.atKey (.string l) zd = atO o zd) → ∀ zd, (xs.foldl putL D).atKey (.string l) zd = atO (xs.foldl (fun acc p => if l = p.1 then some p.2 else acc) o) zd := by
  intro xs
  induction xs with
  | nil => intro D o _ h zd; exact h zd
  | cons p ps ih =>
    intro D o hm h zd
    refine ih (putL D p) _ ?_ ?_ zd
    · exact hm.put _ _
    · intro zd
      dsimp only
      by_cases hl : l = p.1
      · rw [if_pos hl]
        unfold putL
        rw [hl, Maps.atKey_put_same hm (kstr _)]; rfl
      · rw [if_neg hl]
        unfold putL
        rw [Maps.atKey_put_other (fun e => hl (by injection e))]
        exact h zd
theorem req_at (l : List UInt8) (zd : DataW Unit) : reqD.atKey (.string l) zd = atO (cmdOf l) zd := at_fold l reqL (.map []) none ⟨[], rfl⟩ (fun _ => rfl) zd
/-- The table lies at block b. -/
def Req (w : World) (b : Nat) : Prop := w.ownsMap Tryz.prog 9 RF b 8 reqD
def REQT : TypeId := 141
theorem zeroF (u : World) : (zeroValue 139).run Tryz.prog u = .ok .nilFunc u := by kernel_rfl
def lookV (l : List UInt8) : Value := match cmdOf l with
  | some f => .tuple #[.func (.func f) #[] #[], .bool true]
  | none => .tuple #[.nilFunc, .bool false]
theorem bs_data (l : List UInt8) : (bs l).data.toList = l := by simp [bs]
theorem req_look {w : World} {b : Nat} (h : Req w b) (l : List UInt8) (hl : l.length ≤ 1000000) : (Instr.lookup 141 (.map (some b)) (.string (bs l)) true).run Tryz.prog w = .ok (lookV l) w := by
  obtain ⟨es, clock, hb, F, _, hD⟩ := h
  have hk : keyOf Tryz.prog 9 (.string (bs l)) = some (.string l) := by
    rw [Go.WideMaps.keyOf_string_mk Tryz.underlying9 (by rw [bs_size]; unfold maxLen; omega), bs_data]
  rcases Maps.fit_look true (Maps.string_keyed Tryz.underlying9) Tryz.underlying141 (zeroF w) hb F hk with ⟨hrun, _, hat⟩ | ⟨e0, y, _, _, hrun, hRv, hat, _⟩
  · rw [hrun]
    rw [← hD] at hat
    unfold lookV
    have h1 := hat (.lit (.bool true))
    have h2 := hat (.lit (.bool false))
    rw [req_at] at h1 h2
    cases hc : cmdOf l with
    | none => rfl
    | some f => rw [hc] at h1; simp [atO] at h1
  · rw [hrun]
    rw [← hD] at hat
    unfold lookV
    have h1 := hat (.lit (.bool true))
    have h2 := hat (.lit (.bool false))
    rw [req_at] at h1 h2
    cases hc : cmdOf l with
    | none =>
      rw [hc] at h1 h2
      simp only [atO] at h1 h2
      rw [← h1] at h2
      cases h2
    | some f =>
      rw [hc] at h1
      rw [RF_inv hRv h1.symm]
      rfl

set_option maxHeartbeats 2000000 in
set_option maxRecDepth 100000 in
theorem requests_any (w : World) :
    Calls Tryz.prog 105 #[] w fun e w' => e = .returned (.map (some w.heap.size)) ∧ Req w' w.heap.size ∧ Below w.heap.size w w' := by
  have hmm := @run_makeMap Tryz.prog
  have K := Maps.string_keyed (P := Tryz.prog) Tryz.underlying9
  have hT := Tryz.underlying141
  have o0 := World.ownsMap_made (H := Unit) w Tryz.prog 9 RF
  obtain ⟨w1, r1, o1, g1⟩ := o0.update K hT (by unfold maxLen; omega) (Go.WideMaps.keyOf_string_mk Tryz.underlying9 (s := ⟨#[103, 114, 111, 117, 110, 100]⟩) (by unfold maxLen; decide)) (show RF (.func (.func 151) #[] #[]) = some _ from rfl)
  obtain ⟨w2, r2, o2, g2⟩ := o1.update K hT (by unfold maxLen; omega) (Go.WideMaps.keyOf_string_mk Tryz.underlying9 (s := ⟨#[116, 101, 114, 109, 115]⟩) (by unfold maxLen; decide)) (show RF (.func (.func 152) #[] #[]) = some _ from rfl)
  obtain ⟨w3, r3, o3, g3⟩ := o2.update K hT (by unfold maxLen; omega) (Go.WideMaps.keyOf_string_mk Tryz.underlying9 (s := ⟨#[104, 117, 110, 100]⟩) (by unfold maxLen; decide)) (show RF (.func (.func 153) #[] #[]) = some _ from rfl)
  obtain ⟨w4, r4, o4, g4⟩ := o3.update K hT (by unfold maxLen; omega) (Go.WideMaps.keyOf_string_mk Tryz.underlying9 (s := ⟨#[108, 101, 118, 101, 108, 115]⟩) (by unfold maxLen; decide)) (show RF (.func (.func 154) #[] #[]) = some _ from rfl)
  obtain ⟨w5, r5, o5, g5⟩ := o4.update K hT (by unfold maxLen; omega) (Go.WideMaps.keyOf_string_mk Tryz.underlying9 (s := ⟨#[102, 97, 99, 116, 111, 114]⟩) (by unfold maxLen; decide)) (show RF (.func (.func 155) #[] #[]) = some _ from rfl)
  obtain ⟨w6, r6, o6, g6⟩ := o5.update K hT (by unfold maxLen; omega) (Go.WideMaps.keyOf_string_mk Tryz.underlying9 (s := ⟨#[99, 108, 101, 98, 115, 99, 104]⟩) (by unfold maxLen; decide)) (show RF (.func (.func 156) #[] #[]) = some _ from rfl)
  obtain ⟨w7, r7, o7, g7⟩ := o6.update K hT (by unfold maxLen; omega) (Go.WideMaps.keyOf_string_mk Tryz.underlying9 (s := ⟨#[115, 105, 120]⟩) (by unfold maxLen; decide)) (show RF (.func (.func 157) #[] #[]) = some _ from rfl)
  obtain ⟨w8, r8, o8, g8⟩ := o7.update K hT (by unfold maxLen; omega) (Go.WideMaps.keyOf_string_mk Tryz.underlying9 (s := ⟨#[115, 112, 108, 105, 116]⟩) (by unfold maxLen; decide)) (show RF (.func (.func 158) #[] #[]) = some _ from rfl)
  have HR : Hid (Req w8 w.heap.size) := o8
  have HG : Hid (World.grownBy (w.alloc (.map #[] 0)) w8 (some w.heap.size)) := gb_trans g1 (gb_trans g2 (gb_trans g3 (gb_trans g4 (gb_trans g5 (gb_trans g6 (gb_trans g7 g8))))))
  have HB : Hid (Below w.heap.size w w8) := ((Below.refl w.heap.size w).alloc (Nat.le_refl _) (.map #[] 0)).grown HG.out (by simp) (fun k e => by cases e; exact Nat.le_refl _)
  go_enter Tryz.func105, Tryz.ntmps105
  go_wp2_with fail
  go_ret
  exact ⟨rfl, HR.out, HB.out⟩
end Go.Proofs.YtgmhdgfokljggaaGreatDoor
