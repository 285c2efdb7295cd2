/- Counting bits. -/
import Derived.Test.YtjglgcgkmfbdpaaDoorMicP
import Derived.Test.YtjglgcgkmfbdpaaDoorSmall
import Derived.Test.YtjglgcgkmfbdpaaDoorAfter
import Derived.Test.YtjglgcgkmfbdpaaDoorPick
import Derived.Lib.TrailingZeros
namespace Go.Proofs.YtjglgcgkmfbdpaaDoor
open Go.RowKit

set_option maxHeartbeats 4000000 in
set_option maxRecDepth 100000 in
theorem ones64 (x : Nat) (hx : x < 1024) (w : World) :
    Calls Tryd.prog 33 #[.int .u64 (x : Int)] w fun e w' => e = .returned (.int .i64 (pop x : Nat)) ∧ w = w' := by
  go_enter Tryd.func33, Tryd.ntmps33
  go_wp2_with fail
  go_ret
  refine ⟨ret_int ?_, rfl⟩
  clear w
  revert x
  decide +kernel

/-- The table of places of bits lies as its text lays it. -/
def Dbt (w : World) : Prop := ∀ k, k < 64 → w.cell? ⟨1, k, none⟩ = some (.int .u8 (Lib.deBruijn64tab.getD k 0 : Nat))
theorem Dbt.on {w w' : World} (h : Dbt w) (hb : Below w.heap.size w w') : Dbt w' := fun k hk => (hb.cell (World.block_lt_of_cell? _ _ (h k hk))).trans (h k hk)

theorem neg_and : ∀ x : Nat, x < 1024 → 0 < x → bits BinOp.and IntKind.u64 (x : Int) (IntKind.u64.wrap (-(x : Int))) = ((2 ^ tzb x : Nat) : Int) := by decide +kernel
theorem tz_idx : ∀ t : Nat, t < 10 → ∃ j : Nat, IntKind.u64.wrap (((2 ^ t : Nat) : Int) * 285870213051353865) / 288230376151711744 = (j : Int) ∧ j < 64 ∧ Lib.deBruijn64tab.getD j 0 = t := by
  intro t ht
  have h : t = 0 ∨ t = 1 ∨ t = 2 ∨ t = 3 ∨ t = 4 ∨ t = 5 ∨ t = 6 ∨ t = 7 ∨ t = 8 ∨ t = 9 := by omega
  rcases h with rfl | rfl | rfl | rfl | rfl | rfl | rfl | rfl | rfl | rfl
  · exact ⟨0, by decide +kernel, by omega, by decide⟩
  · exact ⟨1, by decide +kernel, by omega, by decide⟩
  · exact ⟨3, by decide +kernel, by omega, by decide⟩
  · exact ⟨7, by decide +kernel, by omega, by decide⟩
  · exact ⟨15, by decide +kernel, by omega, by decide⟩
  · exact ⟨31, by decide +kernel, by omega, by decide⟩
  · exact ⟨63, by decide +kernel, by omega, by decide⟩
  · exact ⟨62, by decide +kernel, by omega, by decide⟩
  · exact ⟨61, by decide +kernel, by omega, by decide⟩
  · exact ⟨59, by decide +kernel, by omega, by decide⟩
theorem tz64 (x : Nat) (h0 : 0 < x) (hx : x < 1024) (w : World) (ht : Dbt w) :
    Calls Tryd.prog 35 #[.int .u64 (x : Int)] w fun e w' => e = .returned (.int .i64 (tzb x : Nat)) ∧ w = w' := by
  have e0 : ((x : Int) == 0) = false := by simp; omega
  have hN := neg_and x hx h0
  have hb : tzb x < 10 := (low_step ⟨x, hx⟩ (by simp; omega)).2.1
  obtain ⟨j, hE, hj, ht2⟩ := tz_idx (tzb x) hb
  have hc := ht j hj
  rw [ht2] at hc
  generalize tzb x = t at *
  generalize ((2 ^ t : Nat) : Int) = p at *
  have j0 : (0 : Int) ≤ (j : Int) := by omega
  have j1 : (j : Int) < 64 := by omega
  clear ht ht2 hj
  go_enter Tryd.func35, Tryd.ntmps35
  go_wp2_with fail
  go_ret
  exact ⟨rfl, rfl⟩
theorem ones_any (x : Nat) (hx : x < 1024) (w : World) :
    Calls Tryd.prog 26 #[.int .u64 (x : Int)] w fun e w' => e = .returned (.int .i64 (pop x : Nat)) ∧ w = w' := by
  have H := Lib.hid (ones64 x hx w)
  go_enter Tryd.func26, Tryd.ntmps26
  go_wp2_with fail
  refine H.out.mono ?_
  rintro e w1 ⟨rfl, rfl⟩
  go_wp2_with fail
  go_ret
  exact ⟨rfl, rfl⟩
theorem tz_any (x : Nat) (h0 : 0 < x) (hx : x < 1024) (w : World) (ht : Dbt w) :
    Calls Tryd.prog 27 #[.int .u64 (x : Int)] w fun e w' => e = .returned (.int .i64 (tzb x : Nat)) ∧ w = w' := by
  have H := Lib.hid (tz64 x h0 hx w ht)
  go_enter Tryd.func27, Tryd.ntmps27
  go_wp2_with fail
  refine H.out.mono ?_
  rintro e w1 ⟨rfl, rfl⟩
  go_wp2_with fail
  go_ret
  exact ⟨rfl, rfl⟩
theorem capacity_any (l : Int) (h0 : 0 ≤ l) (h1 : l ≤ 3) (w : World) :
    Calls Tryd.prog 21 #[.int .i64 l] w fun e w' => e = .returned (.int .i64 (4 * l + 2)) ∧ w = w' := by
  go_enter Tryd.func21, Tryd.ntmps21
  go_wp2_with fail
  go_ret
  exact ⟨rfl, rfl⟩
def evB (l n : Int) : Bool := decide (0 ≤ l ∧ l ≤ 2 ∧ 0 ≤ n ∧ n ≤ 4 * l + 2)
theorem electronsValid_any (l n : Int) (w : World) :
    Calls Tryd.prog 12 #[.int .i64 l, .int .i64 n] w fun e w' => e = .returned (.bool (evB l n)) ∧ w = w' := by
  cases h : evB l n
  · have h2 : ¬ (0 ≤ l ∧ l ≤ 2 ∧ 0 ≤ n ∧ n ≤ 4 * l + 2) := of_decide_eq_false h
    by_cases a : 0 ≤ l
    · by_cases b : l ≤ 2
      · by_cases c : 0 ≤ n
        · have d : ¬ n ≤ 4 * l + 2 := fun d => h2 ⟨a, b, c, d⟩
          have HC := Lib.hid (capacity_any l a (by omega) w)
          clear h h2
          go_enter Tryd.func12, Tryd.ntmps12
          go_wp2_with fail
          refine HC.out.mono ?_
          rintro e w1 ⟨rfl, rfl⟩
          go_wp2_with fail
          go_ret
          exact ⟨ret_bool (by simp; omega), rfl⟩
        · clear h h2
          go_enter Tryd.func12, Tryd.ntmps12
          go_wp2_with fail
          go_ret
          exact ⟨ret_bool (by simp; try omega), rfl⟩
      · clear h h2
        go_enter Tryd.func12, Tryd.ntmps12
        go_wp2_with fail
        go_ret
        exact ⟨ret_bool (by simp; try omega), rfl⟩
    · clear h h2
      go_enter Tryd.func12, Tryd.ntmps12
      go_wp2_with fail
      go_ret
      exact ⟨ret_bool (by simp; try omega), rfl⟩
  · obtain ⟨a, b, c, d⟩ : 0 ≤ l ∧ l ≤ 2 ∧ 0 ≤ n ∧ n ≤ 4 * l + 2 := of_decide_eq_true h
    have HC := Lib.hid (capacity_any l a (by omega) w)
    clear h
    go_enter Tryd.func12, Tryd.ntmps12
    go_wp2_with fail
    refine HC.out.mono ?_
    rintro e w1 ⟨rfl, rfl⟩
    go_wp2_with fail
    go_ret
    exact ⟨ret_bool (by simp; try omega), rfl⟩
end Go.Proofs.YtjglgcgkmfbdpaaDoor
