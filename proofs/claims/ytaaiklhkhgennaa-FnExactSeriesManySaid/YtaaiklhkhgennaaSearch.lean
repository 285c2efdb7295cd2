/- sort.Search, of a closure whose own memory is new. -/
import Derived.Test.YtaaiklhkhgennaaT0
import Derived.Test.YtaaiklhkhgennaaWords
import Derived.Shelf.Abstract
namespace Go.Proofs.Ytaaiklhkhgennaa
open Go.RowKit

set_option maxHeartbeats 2000000 in
theorem search_any (g : Nat) (cb : Array Value) (n m : Nat) (w : World) (eg : ∀ args w, (callFunc g args).run Try.prog w = .ok (.enter g args) w) (hm : m ≤ n) (hn : n ≤ 1000000000)
    (hf : ∀ (i : Nat) (w' : World), i < n → Below w.heap.size w w' → Calls Try.prog g (#[.int .i64 i] ++ cb) w' fun e w'' => e = .returned (.bool (decide (m ≤ i))) ∧ Below w'.heap.size w' w'') :
    Calls Try.prog 42 #[.int .i64 n, .func (.func g) #[] cb] w fun e w' => e = .returned (.int .i64 m) ∧ Below w.heap.size w w' := by
  have HF := Lib.hid hf; clear hf
  have hB0 := Below.refl w.heap.size w
  go_enter Try.func42, Try.ntmps42
  go_wp2_with fail
  go_loopw [5, 6] (fun a b wr => ∃ (lo hi : Nat), a = .int .i64 lo ∧ b = .int .i64 hi ∧ lo ≤ m ∧ m ≤ hi ∧ hi ≤ n ∧ Below w.heap.size w wr) (fun a b _ => (intOf b).toNat - (intOf a).toNat)
  case atStart => exact ⟨0, n, rfl, rfl, Nat.zero_le _, hm, Nat.le_refl _, hB0⟩
  case round =>
    clear hB0
    obtain ⟨lo, hi, rfl, rfl, h1, h2, h3, hB⟩ := hrel
    have HB := Lib.hid hB; clear hB
    by_cases hlt : lo < hi
    · have hc := HF.out ((lo + hi) / 2) wr (by omega) HB.out
      rw [show (((lo + hi) / 2 : Nat) : Int) = ((lo : Int) + (hi : Int)) / 2 by omega] at hc
      by_cases hp : m ≤ (lo + hi) / 2
      · rw [decide_eq_true hp] at hc
        have HC := Lib.hid hc; clear hc
        go_wp2_with (go_at_fn g; refine HC.out.mono ?_; rintro e w' ⟨rfl, hb⟩)
        have HB2 := Lib.hid (HB.out.trans (hb.mono HB.out.size)); clear hb
        go_roundw
        case rel => exact ⟨lo, (lo + hi) / 2, rfl, by rw [show ((lo : Int) + (hi : Int)) / 2 = (((lo + hi) / 2 : Nat) : Int) by omega], h1, hp, by omega, HB2.out⟩
        case measure => simp [intOf]; omega
      · rw [decide_eq_false hp] at hc
        have HC := Lib.hid hc; clear hc
        go_wp2_with (go_at_fn g; refine HC.out.mono ?_; rintro e w' ⟨rfl, hb⟩)
        have HB2 := Lib.hid (HB.out.trans (hb.mono HB.out.size)); clear hb
        go_roundw
        case rel => exact ⟨(lo + hi) / 2 + 1, hi, by rw [show ((lo : Int) + (hi : Int)) / 2 + 1 = (((lo + hi) / 2 + 1 : Nat) : Int) by omega], rfl, by omega, h2, h3, HB2.out⟩
        case measure => simp [intOf]; omega
    · obtain rfl : hi = lo := by omega
      obtain rfl : m = hi := by omega
      go_wp2_with fail
      go_ret
      exact ⟨rfl, HB.out⟩
end Go.Proofs.Ytaaiklhkhgennaa
