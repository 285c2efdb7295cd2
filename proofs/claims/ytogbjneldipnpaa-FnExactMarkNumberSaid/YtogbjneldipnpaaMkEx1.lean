/- A list of marks is equal to its copy -/
import Derived.Test.YtogbjneldipnpaaMkTo
import Derived.Test.YtogbjneldipnpaaLawKitP
import Derived.Test.YtogbjneldipnpaaMk4
namespace Go.Proofs.Ytogbjneldipnpaa
open Go.RowKit
attribute [local go_sem ↓] Go.wp_at_zero Go.wp_at_succ

theorem eqMark_same (a b : Int) (w : World) :
    Calls Try.prog 34 #[.agg #[.int .i64 a, .int .i64 b], .agg #[.int .i64 a, .int .i64 b]] w fun e w' => e = .returned (.bool true) ∧ Below w.heap.size w w' :=
  (eqMark_any a b a b w).mono fun _ _ ⟨he, hb⟩ => ⟨by rw [he]; simp, hb⟩

set_option maxHeartbeats 1000000 in
theorem eqMarkS_any (A A' : Option Addr) (n c c' : Nat) (ts : List T2) (w : World) (hn : n ≤ 1048576) (hr : Reads w w.heap.size 2 A n (tcells ts)) (hr' : Reads w w.heap.size 2 A' n (tcells ts)) :
    Calls Try.prog 18 #[.slice A n c, .slice A' n c'] w fun e w' => e = .returned (.bool true) ∧ Below w.heap.size w w' := by
  have HR := Lib.hid hr; clear hr
  have HR' := Lib.hid hr'; clear hr'
  have hB0 := Below.refl w.heap.size w
  go_enter Try.func18, Try.ntmps18
  go_wp2_with fail
  go_loopw [5] (fun i wr => ∃ (k : Nat), k ≤ n ∧ i = .int .i64 k ∧ Below w.heap.size w wr) (fun i _ => n - (intOf i).toNat)
  case atStart => exact ⟨0, Nat.zero_le _, rfl, hB0⟩
  case round =>
    clear hB0
    obtain ⟨k, hk, rfl, hB⟩ := hrel
    have HB := Lib.hid hB; clear hB
    by_cases hlt : k < n
    · obtain ⟨b, off, x, y, rfl, hb, h1, h2, H3, H4⟩ := (HR.out.below HB.out).term hlt
      obtain ⟨b', off', x', y', rfl, hb', h1', h2', H3', H4'⟩ := (HR'.out.below HB.out).term hlt
      have hxy := H3.out.symm.trans H3'.out
      simp only [Option.some.injEq, Prod.mk.injEq] at hxy
      obtain ⟨rfl, rfl⟩ := hxy
      have hbl : b < wr.heap.size := Nat.lt_of_lt_of_le hb HB.out.size
      have hbl' : b' < wr.heap.size := Nat.lt_of_lt_of_le hb' HB.out.size
      have i1 : (0 : Int) ≤ (k : Int) := by omega
      have i2 : (k : Int) < (n : Int) := by omega
      go_wp2_with fail
      go_region_held3 (fun w' => w'.cell? ⟨b, off + k * 2, none⟩ = some (.int .i64 x) ∧ w'.cell? ⟨b, off + k * 2 + 1, none⟩ = some (.int .i64 y) ∧ w'.cell? ⟨b', off' + k * 2, none⟩ = some (.int .i64 x) ∧ w'.cell? ⟨b', off' + k * 2 + 1, none⟩ = some (.int .i64 y)) (first | exact ⟨h1, h2, h1', h2'⟩ | exact ⟨(hb2.cell hbl).trans h1, (hb2.cell hbl).trans h2, (hb2.cell hbl').trans h1', (hb2.cell hbl').trans h2'⟩)
        (first | (go_at_call 34; refine (eqMark_same x y _).mono ?_; rintro e w2 ⟨rfl, hb2⟩))
      have HB2 := Lib.hid (HB.out.drew.trans (hb2.mono HB.out.size))
      clear hb2
      go_wp2_with fail
      go_roundw
      case rel => exact ⟨k + 1, by omega, by go_num, HB2.out⟩
      case measure => simp [intOf]; omega
    · go_wp2_with fail
      go_ret
      exact ⟨rfl, HB.out⟩


set_option maxHeartbeats 1000000 in
theorem fnExactMarkNumber_walk (A : Option Addr) (n c : Nat) (ts : List T2) (s : Int) (w : World) (hn : n ≤ maxLen) (_ : n ≤ c) (hts : ts.length = n) (_ : ∀ t ∈ ts, Wf2 t) (hr : Reads w w.heap.size 2 A n (tcells ts)) (_ : -9223372036854775808 ≤ s ∧ s ≤ 9223372036854775807) :
    Calls Try.prog 3 #[.slice A n c, .int .i64 s] w fun e w' => e = .returned (.bool true) ∧ Below w.heap.size w w' := by
  unfold maxLen at hn
  have HR := Lib.hid hr; clear hr
  have HT := Lib.hid hts; clear hts
  have hB0 := Below.refl w.heap.size w
  have hsz := szMarkS_any A n c w (by omega)
  by_cases h : 1048576 < n
  · rw [if_neg (by omega)] at hsz
    have HSZ := Lib.hid hsz; clear hsz
    go_enter Try.func3, Try.ntmps3
    go_wp2_with fail
    refine HSZ.out.mono ?_
    rintro e w1 ⟨rfl, rfl⟩
    go_wp2_with fail
    go_ret
    exact ⟨rfl, hB0⟩
  rw [if_pos (by omega)] at hsz
  have HSZ := Lib.hid hsz; clear hsz hB0
  have HV : ∃ (N : Int) (ok : Bool), mnV ts s = .tuple #[.int .i64 N, .bool ok] := by
    unfold mnV; split <;> exact ⟨_, _, rfl⟩
  obtain ⟨N, ok, hV⟩ := HV
  have HV := Lib.hid hV; clear hV
  go_enter Try.func3, Try.ntmps3
  go_wp2_with fail
  refine HSZ.out.mono ?_
  rintro e w1 ⟨rfl, rfl⟩
  go_wp2_with fail
  refine (toMarkS_any A n c ts w (by omega) HT.out HR.out).mono ?_
  rintro e w1 ⟨⟨g1, rfl, hr1⟩, hb1⟩
  have HR1 := Lib.hid hr1; have HB1 := Lib.hid hb1; clear hr1 hb1
  go_wp2_with fail
  refine (specMarkNumber_any _ n n ts s w1 (by omega) HT.out HR1.out).mono ?_
  rintro e w2 ⟨rfl, hbs⟩
  rw [HV.out]
  replace HB1 := Lib.hid (HB1.out.trans (hbs.mono HB1.out.size)); clear hbs HR1
  go_wp2_with fail
  refine (toMarkS_any A n c ts w2 (by omega) HT.out ((HR.out.below HB1.out).more HB1.out.size)).mono ?_
  rintro e w3 ⟨⟨g2, rfl, hr2⟩, hb2⟩
  have HR2 := Lib.hid hr2
  have HB2 := Lib.hid (HB1.out.trans (hb2.mono HB1.out.size)); clear hr2 hb2 HB1
  go_wp2_with fail
  refine (implMarkNumber_any _ n n ts s w3 (by omega) HT.out HR2.out).mono ?_
  rintro e w4 ⟨rfl, hb3⟩
  rw [HV.out]
  have HR3 := Lib.hid ((HR2.out.below hb3).more hb3.size)
  have HB3 := Lib.hid (HB2.out.trans (hb3.mono HB2.out.size)); clear hb3 HR2 HB2
  have e1 : (N != N) = false := by simp
  cases ok
  all_goals
    go_wp2_with fail
    refine (toMarkS_any A n c ts w4 (by omega) HT.out ((HR.out.below HB3.out).more HB3.out.size)).mono ?_
    rintro e w5 ⟨⟨g4, rfl, hr4⟩, hb4⟩
    have HR4 := Lib.hid hr4
    have HR3' := Lib.hid ((HR3.out.below hb4).more hb4.size)
    have HB4 := Lib.hid (HB3.out.trans (hb4.mono HB3.out.size)); clear hr4 hb4
    go_wp2_with fail
    refine (eqMarkS_any _ _ n n n ts w5 (by omega) HR3'.out HR4.out).mono ?_
    rintro e w6 ⟨rfl, hb5⟩
    have HB5 := Lib.hid (HB4.out.trans (hb5.mono HB4.out.size)); clear hb5 HB4
    go_wp2_with fail
    go_ret
    exact ⟨rfl, HB5.out⟩
end Go.Proofs.Ytogbjneldipnpaa
