/- The walk of the law FnExactNodeText. -/
import Derived.Test.YtnljibgjfobkbaaDoorTx2
namespace Go.Proofs.YtnljibgjfobkbaaDoor
open Go.RowKit
attribute [local go_sem ↓] Go.wp_at_zero Go.wp_at_succ

theorem toNode_any (a b : Int) (o : Bool) (w : World) :
    Calls Tryd.prog 12 #[.agg #[.int .i64 a, .int .i64 b, .bool o]] w fun e w' => e = .returned (.agg #[.int .i64 a, .int .i64 b, .bool o]) ∧ Below w.heap.size w w' := by
  go_enter Tryd.func12, Tryd.ntmps12
  go_wp2_with fail
  refine bodyPost_ret (v := .agg #[.int .i64 a, .int .i64 b, .bool o]) (by simp [results, Tryd.results12, go_sem]) rfl ⟨rfl, ?_⟩
  repeat (first | exact Below.refl _ _ | refine Below.alloc ?_ (by simp; try omega) _ | refine Below.setCell ?_ (by simp; try omega) _)

set_option maxHeartbeats 2000000 in
theorem fnExactNodeText_walk (a b : Int) (o : Bool) (w : World) (ht : Tab w) :
    Calls Tryd.prog 3 #[.agg #[.int .i64 a, .int .i64 b, .bool o]] w fun e w' => e = .returned (.bool true) ∧ Below w.heap.size w w' := by
  have HT := Lib.hid ht; clear ht
  have HB0 := Lib.hid ((Below.refl w.heap.size w).alloc (Nat.le_refl _) (.cells #[.int .i64 a, .int .i64 b, .bool o] 23))
  have HX0 := Lib.hid (Blk.new w 23 #[.int .i64 a, .int .i64 b, .bool o])
  have HS := Lib.hid (fun W => specNodeText_any a b o W)
  have HI := Lib.hid (fun W ht => implNodeText_any a b o W ht)
  generalize bs (ndT a b o) = r at *
  go_enter Tryd.func3, Tryd.ntmps3
  go_wp2_with fail
  refine (toNode_any a b o _).mono ?_
  rintro e w1 ⟨rfl, hb1⟩
  have HB1 := Lib.hid (HB0.out.trans (hb1.mono HB0.out.size))
  have HX1 := Lib.hid (HX0.out.sub hb1); clear hb1 HB0 HX0
  go_wp2_with fail
  refine (HS.out _).mono ?_
  rintro e w2 ⟨rfl, hb2⟩
  have HB2 := Lib.hid (HB1.out.trans (hb2.mono HB1.out.size))
  have HX2 := Lib.hid (HX1.out.sub hb2); clear hb2 HB1 HX1
  obtain ⟨x1, x2, x3, _, _, _⟩ := blk3 HX2.out
  go_wp2_with fail
  refine (toNode_any a b o _).mono ?_
  rintro e w3 ⟨rfl, hb3⟩
  have HB3 := Lib.hid (HB2.out.trans (hb3.mono HB2.out.size)); clear hb3 HB2 x1 x2 HX2
  go_wp2_with fail
  refine (HI.out _ (HT.out.on HB3.out)).mono ?_
  rintro e w4 ⟨rfl, hb4⟩
  have HB4 := Lib.hid (HB3.out.trans (hb4.mono HB3.out.size)); clear hb4 HB3
  go_wp2_with fail
  go_ret
  exact ⟨rfl, HB4.out⟩
end Go.Proofs.YtnljibgjfobkbaaDoor
