/- For every input the law FnExactNodeText returns true, and each argument reads behind the call as it read before: no condition. -/
import Derived.Test.YtnljibgjfobkbaaDoorLExNode
import Derived.Test.YtnljibgjfobkbaaDoorDoorKit
import Derived.Test.YtnljibgjfobkbaaDoorTie
import Derived.Test.YtnljibgjfobkbaaDoorCards
import Derived.SevenTiedAt
import Derived.Lib.SmallJoins
namespace Go.Proofs.YtnljibgjfobkbaaDoor.fnExactNodeText
open Go.ChangeShapes Go.WideShapes Go.ChangeAt Go.RowKit
open Go.ChangeMaps (open_string shut_string)
set_option linter.unusedVariables false

set_option maxRecDepth 100000 in
theorem lifted (os : Os) (started : os.Started) (H : Type) (enc : TypeId × Value → H) :
    ReturnsInHanded {} Tryd.checked os 3 .any (fun w args => (Rows.fnExactNodeTextSpec.pre enc Tryd.prog Tryd.f3 [] false w args ∧ laidMetH Tryd.prog laid3 w) ∧ sizedMet enc Tryd.prog Tryd.f3 (OpenSpec.ofChange Rows.fnExactNodeTextSpec) false w args)
      (Rows.fnExactNodeTextSpec.post enc Tryd.prog Tryd.f3 false true false false) := by
  refine returnsInHanded_of_change_and (C := Tryd.checked) (X := fun w _ => laidMetH Tryd.prog laid3 w) (fun _ _ _ hh h => h.of_heap hh) own started (by kernel_rfl) Tryd.func3
    (ChangeSpec.witness_shaped (enc := enc) (C := Tryd.checked) (os := os) (X := fun w _ => laidMetH Tryd.prog laid3 w) false (World.doorLaid Tryd.prog 400 os) #[.agg #[.int .i64 0, .int .i64 0, .bool false]] 8 rfl (World.shaped_of_RefB (by kernel_rfl) (by kernel_rfl)) (by kernel_rfl) (by kernel_rfl) (by kernel_rfl) (door_met os _)) ?_
  intro W base args ds gs before hval0 hW _ _ hL _
  have hval : ∀ (j : Nat) t v, Tryd.f3.params[j]? = some t → args[j]? = some v → Value.okWide Tryd.prog W .any base t v := hval0
  have hW' := hW
  obtain ⟨p, q, hA0, hV, rfl, hfz, hnd⟩ := hW
  have hA : DataW.TrodAll enc Tryd.prog W 0 (fun _ => true) true Tryd.f3.params.toList args.toList ds p := hA0
  rw [Tryd.params3] at hA hval
  obtain ⟨v0, vs0, d0, ds0, p0, q0, hargs, rfl, rfl, h0, r0⟩ := trodAll_cons hA
  obtain ⟨rfl, rfl, rfl⟩ := trodAll_nil r0
  obtain rfl : args = #[v0] := by cases args; simp_all
  obtain ⟨rfl, rfl⟩ := trodVars_none hV
  obtain ⟨cu0, cv0, cz0, yu0, yv0, yz0, fu0, rfl, rfl, rfl, hu0, hv0, hz0⟩ := Joins.open_agg3 Tryd.underlying23 (by kernel_rfl) (show Tryd.prog.cellsOf 23 = 3 by kernel_rfl) (hval 0 23 v0 rfl rfl) h0
  obtain ⟨x0u, e0u, rfl, wx0u⟩ := DataW.trod_int Tryd.underlying3 hu0
  obtain ⟨x0v, e0v, rfl, wx0v⟩ := DataW.trod_int Tryd.underlying3 hv0
  obtain ⟨x0z, e0z, rfl⟩ := DataW.trod_bool Tryd.underlying4 hz0
  simp at e0u e0v e0z
  subst e0u e0v e0z
  have sR0 : ∀ (W' : World) (sp : Nat → Bool), DataW.Trod enc Tryd.prog W' 0 sp true 23 (.agg #[.int .i64 x0u, .int .i64 x0v, .bool x0z]) (.agg [.lit (.int .i64 x0u), .lit (.int .i64 x0v), .lit (.bool x0z)]) [] := fun W' sp =>
    Joins.shut_agg3 (y0 := (.lit (.int .i64 x0u), [])) (y1 := (.lit (.int .i64 x0v), [])) (y2 := (.lit (.bool x0z), [])) Tryd.underlying23 (by kernel_rfl) (show Tryd.prog.cellsOf 23 = 3 by kernel_rfl) ⟨1, by simp [DataW.trod, Tryd.underlying3, wx0u]⟩ ⟨1, by simp [DataW.trod, Tryd.underlying3, wx0v]⟩ ⟨1, by simp [DataW.trod, Tryd.underlying4]⟩
  clear hA0 hval0
  refine (fnExactNodeText_walk x0u x0v x0z W  (tab_of_laid hL)).mono fun e W' ⟨he, bel⟩ => ?_
  subst he
  exact ⟨_, rfl, _, _, _, [], _, [], hW', trodAll_mk1 (shut_bool Tryd.underlying4 _), (trodAll_cons_mk (sR0 _ _) trodAll_mk0), rfl, bel.frame _, fun h => by cases h⟩

theorem over : Rows.fnExactNodeTextRow.holds Tryd.pinned (OpenSpec.ofChange Rows.fnExactNodeTextSpec) :=
  OpenClaim.holds_of_wide 3 Tryd.f3 rfl rfl rfl rfl rfl rfl rfl ⟨rfl, rfl, rfl, rfl, rfl⟩ rfl rfl rfl rfl rfl (by kernel_rfl) Tryd.func3 (by kernel_rfl)
    (of_decide_eq_true (by kernel_rfl)) (by unfold Func.isWrapper; first | (rw [if_pos (by decide +kernel)]; kernel_rfl) | (rw [if_neg (by decide +kernel)]; exact ⟨rfl, rfl⟩))
    (fun os started H enc _ => lifted os started H enc)

theorem row_holds : Rows.FnExactNodeTextSaid := over
/-- The tied card. -/
theorem proved : Rows.FnExactNodeTextCardSaid :=
  Claim7.holds_tied_plain_at .later [] [.data, .data, .data] true (true, "aa1a793f1d4d410cd76f8ee8c3483bf741dd9b93c87b6182568684ff7000bd8f") true
    row_holds (fun _ h => by cases h) (by kernel_rfl) (fun _ h => by cases h) fnExactNodeText_row_tie rfl ⟨rfl, rfl⟩ (by kernel_rfl) rfl
    (fun f fn hf hfn => by
      obtain rfl : f = 3 := Option.some.inj ((show Tryd.prog.funcNamed "loop.example/atomicspectra/laws.FnExactNodeText" = some 3 by kernel_rfl).symm.trans hf) |>.symm
      obtain rfl : fn = Tryd.f3 := (Option.some.inj (Tryd.func3.symm.trans hfn)).symm
      exact ⟨by kernel_rfl, fun j t ht => by
        have hall : (Tryd.f3.params.toList.all fun u => !Tryd.prog.wantsStandIn u) = true := by kernel_rfl
        have hm : t ∈ Tryd.f3.params.toList := by simpa using Array.mem_of_getElem? ht
        exact (show Tryd.prog.wantsStandIn t = false by simpa using List.all_eq_true.1 hall t hm)⟩)
    (by kernel_rfl)
#print axioms proved
end Go.Proofs.YtnljibgjfobkbaaDoor.fnExactNodeText
