/- For every input the law FnExactSeriesMany returns true, and each argument reads behind the call as it read before: no condition. -/
import Derived.Test.YtaaiklhkhgennaaLExMany
import Derived.Test.YtaaiklhkhgennaaLawKit
import Derived.Lib.SmallJoins
namespace Go.Proofs.Ytaaiklhkhgennaa.fnExactSeriesMany
open Go.ChangeShapes Go.WideShapes Go.ChangeAt Go.RowKit
open Go.ChangeMaps (open_string shut_string)
set_option linter.unusedVariables false

set_option maxRecDepth 100000 in
theorem lifted (os : Os) (started : os.Started) (H : Type) (enc : TypeId × Value → H) :
    ReturnsInHanded {} Try.checked os 10 .any (Rows.fnExactSeriesManySpec.pre6 enc Try.prog Try.f10 Rows.fnExactSeriesManyRow.domain false) (Rows.fnExactSeriesManySpec.post enc Try.prog Try.f10 false true false false) := by
  refine returnsInHanded_of_change (C := Try.checked) own started (by kernel_rfl) Try.func10
    (ChangeSpec.witness6 (enc := enc) (C := Try.checked) false ⟨#[], #[.int .i64 0, .agg #[.int .i64 0, .int .i64 1]], []⟩ 8 (by kernel_rfl) (by kernel_rfl) (by kernel_rfl) (by kernel_rfl)) ?_
  intro W base args ds gs before hval0 hW hcnd _
  have hval : ∀ (j : Nat) t v, Try.f10.params[j]? = some t → args[j]? = some v → Value.okWide Try.prog W .any base t v := hval0
  have hW' := hW
  obtain ⟨p, q, hA0, hV, rfl, hfz, hnd⟩ := hW
  have hA : DataW.TrodAll enc Try.prog W 0 (fun _ => true) true Try.f10.params.toList args.toList ds p := hA0
  rw [Try.params10] at hA hval
  obtain ⟨v0, vs0, d0, ds0, p0, q0, hargs, rfl, rfl, h0, r0⟩ := trodAll_cons hA
  obtain ⟨v1, vs1, d1, ds1, p1, q1, rfl, rfl, rfl, h1, r1⟩ := trodAll_cons r0
  obtain ⟨rfl, rfl, rfl⟩ := trodAll_nil r1
  obtain rfl : args = #[v0, v1] := by cases args; simp_all
  obtain ⟨rfl, rfl⟩ := trodVars_none hV
  obtain ⟨x0, rfl, rfl, rfl, wx0⟩ := open_int Try.underlying3 (hval 0 3 v0 rfl rfl) h0
  obtain ⟨cu1, cv1, yu1, yv1, fu1, rfl, rfl, rfl, hu1, hv1⟩ := Joins.open_agg2 Try.underlying28 (by kernel_rfl) (show Try.prog.cellsOf 28 = 2 by kernel_rfl) (hval 1 28 v1 rfl rfl) h1
  obtain ⟨x1u, e1u, rfl, wx1u⟩ := DataW.trod_int Try.underlying3 hu1
  obtain ⟨x1v, e1v, rfl, wx1v⟩ := DataW.trod_int Try.underlying3 hv1
  simp at e1u e1v
  subst e1u e1v
  have sR1 : ∀ (W' : World) (sp : Nat → Bool), DataW.Trod enc Try.prog W' 0 sp true 28 (.agg #[.int .i64 x1u, .int .i64 x1v]) (.agg [.lit (.int .i64 x1u), .lit (.int .i64 x1v)]) [] := fun W' sp =>
    Joins.shut_agg2 (y0 := (.lit (.int .i64 x1u), [])) (y1 := (.lit (.int .i64 x1v), [])) Try.underlying28 (by kernel_rfl) (show Try.prog.cellsOf 28 = 2 by kernel_rfl) ⟨1, by simp [DataW.trod, Try.underlying3, wx1u]⟩ ⟨1, by simp [DataW.trod, Try.underlying3, wx1v]⟩
  clear hA0 hval0
  refine (fnExactSeriesMany_walk x0 x1u x1v W (int_in wx0) (int_in wx1u) (int_in wx1v)).mono fun e W' ⟨he, bel⟩ => ?_
  subst he
  exact ⟨_, rfl, _, _, _, [], _, [], hW', trodAll_mk1 (shut_bool Try.underlying4 _), (trodAll_cons_mk (shut_int Try.underlying3 wx0) (trodAll_cons_mk (sR1 _ _) trodAll_mk0)), rfl, bel.frame _, fun h => by cases h⟩

theorem over : Rows.fnExactSeriesManyRow.holds Try.pinned (OpenSpec.ofChange Rows.fnExactSeriesManySpec) :=
  OpenClaim.holds_of_wide 10 Try.f10 rfl rfl rfl rfl rfl rfl rfl ⟨rfl, rfl, rfl, rfl, rfl⟩ rfl rfl rfl rfl rfl (by kernel_rfl) Try.func10 (by kernel_rfl)
    (of_decide_eq_true (by kernel_rfl)) (by unfold Func.isWrapper; first | (rw [if_pos (by decide +kernel)]; kernel_rfl) | (rw [if_neg (by decide +kernel)]; exact ⟨rfl, rfl⟩))
    (fun os started H enc _ => lifted os started H enc)

/-- The statement. -/
theorem proved : Rows.FnExactSeriesManySaid := over
#print axioms proved
end Go.Proofs.Ytaaiklhkhgennaa.fnExactSeriesMany
