/- Whether lists of terms are equal. -/
import Derived.Test.YtnljibgjfobkbaaDoorTm3
import Derived.Test.YtnljibgjfobkbaaDoorLawKitP
namespace Go.Proofs.YtnljibgjfobkbaaDoor
open Go.RowKit
attribute [local go_sem ↓] Go.wp_at_zero Go.wp_at_succ

theorem eqTerm_same (a b : Int) (w : World) :
    Calls Tryd.prog 48 #[.agg #[.int .i64 a, .int .i64 b], .agg #[.int .i64 a, .int .i64 b]] w fun e w' => e = .returned (.bool true) ∧ Below w.heap.size w w' :=
  (eqTerm_any a b a b w).mono fun _ _ ⟨he, hb⟩ => ⟨by rw [he]; simp, hb⟩

set_option maxHeartbeats 2000000 in
theorem eqTermS_any (A A' : Option Addr) (n c c' : Nat) (ts : List T2) (w : World) (hn : n ≤ 1048576) (hr : Reads w w.heap.size 2 A n (tcells ts)) (hr' : Reads w w.heap.size 2 A' n (tcells ts)) :
    Calls Tryd.prog 22 #[.slice A n c, .slice A' n c'] w fun e w' => e = .returned (.bool true) ∧ Below w.heap.size w w' := by
  have HR := Lib.hid hr; clear hr
  have HR' := Lib.hid hr'; clear hr'
  have hB0 := Below.refl w.heap.size w
  go_enter Tryd.func22, Tryd.ntmps22
  go_wp2_with fail
  go_loopw [5] (fun i wr => ∃ (k : Nat), k ≤ n ∧ i = .int .i64 k ∧ Below w.heap.size w wr) (fun i _ => n - (intOf i).toNat)
  case atStart => exact ⟨0, Nat.zero_le _, rfl, hB0⟩
  case round =>
    clear hB0
    obtain ⟨k, hk, rfl, hB⟩ := hrel
    have HB := Lib.hid hB; clear hB
    by_cases hlt : k < n
    · obtain ⟨b, off, x, y, rfl, hb, h1, h2, H3, H4⟩ := (HR.out.below HB.out).term hlt
      obtain ⟨b', off', x', y', rfl, hb', h1', h2', H3', H4'⟩ := (HR'.out.below HB.out).term hlt
      have hxy := H3.out.symm.trans H3'.out
      simp only [Option.some.injEq, Prod.mk.injEq] at hxy
      obtain ⟨rfl, rfl⟩ := hxy
      have hbl : b < wr.heap.size := Nat.lt_of_lt_of_le hb HB.out.size
      have hbl' : b' < wr.heap.size := Nat.lt_of_lt_of_le hb' HB.out.size
      have i1 : (0 : Int) ≤ (k : Int) := by omega
      have i2 : (k : Int) < (n : Int) := by omega
      go_wp2_with fail
      go_region_held3 (fun w' => w'.cell? ⟨b, off + k * 2, none⟩ = some (.int .i64 x) ∧ w'.cell? ⟨b, off + k * 2 + 1, none⟩ = some (.int .i64 y) ∧ w'.cell? ⟨b', off' + k * 2, none⟩ = some (.int .i64 x) ∧ w'.cell? ⟨b', off' + k * 2 + 1, none⟩ = some (.int .i64 y)) (first | exact ⟨h1, h2, h1', h2'⟩ | exact ⟨(hb2.cell hbl).trans h1, (hb2.cell hbl).trans h2, (hb2.cell hbl').trans h1', (hb2.cell hbl').trans h2'⟩)
        (first | (go_at_call 48; refine (eqTerm_same x y _).mono ?_; rintro e w2 ⟨rfl, hb2⟩))
      have HB2 := Lib.hid (HB.out.drew.trans (hb2.mono HB.out.size))
      clear hb2
      go_wp2_with fail
      go_roundw
      case rel => exact ⟨k + 1, by omega, by go_num, HB2.out⟩
      case measure => simp [intOf]; omega
    · go_wp2_with fail
      go_ret
      exact ⟨rfl, HB.out⟩

end Go.Proofs.YtnljibgjfobkbaaDoor
