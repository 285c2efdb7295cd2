/- For every input the law FnExactSeriesFind returns true, and each argument reads behind the call as it read before: no condition. -/
import Derived.Test.YtaaiklhkhgennaaLExFind
import Derived.Test.YtaaiklhkhgennaaLawKit
import Derived.Lib.SmallJoins
namespace Go.Proofs.Ytaaiklhkhgennaa.fnExactSeriesFind
open Go.ChangeShapes Go.WideShapes Go.ChangeAt Go.RowKit
open Go.ChangeMaps (open_string shut_string)
set_option linter.unusedVariables false

set_option maxRecDepth 100000 in
theorem lifted (os : Os) (started : os.Started) (H : Type) (enc : TypeId × Value → H) :
    ReturnsInHanded {} Try.checked os 4 .any (Rows.fnExactSeriesFindSpec.pre6 enc Try.prog Try.f4 Rows.fnExactSeriesFindRow.domain false) (Rows.fnExactSeriesFindSpec.post enc Try.prog Try.f4 false true false false) := by
  refine returnsInHanded_of_change (C := Try.checked) own started (by kernel_rfl) Try.func4
    (ChangeSpec.witness6 (enc := enc) (C := Try.checked) false ⟨#[], #[.agg #[.int .i64 0, .int .i64 1]], []⟩ 8 (by kernel_rfl) (by kernel_rfl) (by kernel_rfl) (by kernel_rfl)) ?_
  intro W base args ds gs before hval0 hW hcnd _
  have hval : ∀ (j : Nat) t v, Try.f4.params[j]? = some t → args[j]? = some v → Value.okWide Try.prog W .any base t v := hval0
  have hW' := hW
  obtain ⟨p, q, hA0, hV, rfl, hfz, hnd⟩ := hW
  have hA : DataW.TrodAll enc Try.prog W 0 (fun _ => true) true Try.f4.params.toList args.toList ds p := hA0
  rw [Try.params4] at hA hval
  obtain ⟨v0, vs0, d0, ds0, p0, q0, hargs, rfl, rfl, h0, r0⟩ := trodAll_cons hA
  obtain ⟨rfl, rfl, rfl⟩ := trodAll_nil r0
  obtain rfl : args = #[v0] := by cases args; simp_all
  obtain ⟨rfl, rfl⟩ := trodVars_none hV
  obtain ⟨cu0, cv0, yu0, yv0, fu0, rfl, rfl, rfl, hu0, hv0⟩ := Joins.open_agg2 Try.underlying28 (by kernel_rfl) (show Try.prog.cellsOf 28 = 2 by kernel_rfl) (hval 0 28 v0 rfl rfl) h0
  obtain ⟨x0u, e0u, rfl, wx0u⟩ := DataW.trod_int Try.underlying3 hu0
  obtain ⟨x0v, e0v, rfl, wx0v⟩ := DataW.trod_int Try.underlying3 hv0
  simp at e0u e0v
  subst e0u e0v
  have sR0 : ∀ (W' : World) (sp : Nat → Bool), DataW.Trod enc Try.prog W' 0 sp true 28 (.agg #[.int .i64 x0u, .int .i64 x0v]) (.agg [.lit (.int .i64 x0u), .lit (.int .i64 x0v)]) [] := fun W' sp =>
    Joins.shut_agg2 (y0 := (.lit (.int .i64 x0u), [])) (y1 := (.lit (.int .i64 x0v), [])) Try.underlying28 (by kernel_rfl) (show Try.prog.cellsOf 28 = 2 by kernel_rfl) ⟨1, by simp [DataW.trod, Try.underlying3, wx0u]⟩ ⟨1, by simp [DataW.trod, Try.underlying3, wx0v]⟩
  clear hA0 hval0
  refine (fnExactSeriesFind_walk x0u x0v W (int_in wx0u) (int_in wx0v)).mono fun e W' ⟨he, bel⟩ => ?_
  subst he
  exact ⟨_, rfl, _, _, _, [], _, [], hW', trodAll_mk1 (shut_bool Try.underlying4 _), (trodAll_cons_mk (sR0 _ _) trodAll_mk0), rfl, bel.frame _, fun h => by cases h⟩

theorem over : Rows.fnExactSeriesFindRow.holds Try.pinned (OpenSpec.ofChange Rows.fnExactSeriesFindSpec) :=
  OpenClaim.holds_of_wide 4 Try.f4 rfl rfl rfl rfl rfl rfl rfl ⟨rfl, rfl, rfl, rfl, rfl⟩ rfl rfl rfl rfl rfl (by kernel_rfl) Try.func4 (by kernel_rfl)
    (of_decide_eq_true (by kernel_rfl)) (by unfold Func.isWrapper; first | (rw [if_pos (by decide +kernel)]; kernel_rfl) | (rw [if_neg (by decide +kernel)]; exact ⟨rfl, rfl⟩))
    (fun os started H enc _ => lifted os started H enc)

/-- The statement. -/
theorem proved : Rows.FnExactSeriesFindSaid := over
#print axioms proved
end Go.Proofs.Ytaaiklhkhgennaa.fnExactSeriesFind
