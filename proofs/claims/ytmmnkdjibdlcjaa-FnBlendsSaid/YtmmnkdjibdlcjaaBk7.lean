/- Blends: both sides at every width; comparisons; the draw. -/
import Derived.Test.YtmmnkdjibdlcjaaBk6
import Derived.Test.YtmmnkdjibdlcjaaBlD
namespace Go.Proofs.Ytmmnkdjibdlcjaa
open Go.RowKit
attribute [local go_sem ↓] Go.wp_at_zero Go.wp_at_succ

set_option maxHeartbeats 1000000 in
theorem implBlendsOf_no (A : Option Addr) (n c : Nat) (xs : List Int) (wd : Int) (w : World) (h8 : n ≤ 8) (hxs : xs.length = n) (hin : InB xs 3001) (hr : Reads w w.heap.size 1 A n (icells xs)) (h1 : wd ≤ 200000) (hno : blOk xs wd = false) :
    Calls Try.prog 9 #[.slice A n c, .int .i64 wd] w (GrpPost w xs wd) := by
  have HV := Lib.hid ((implBlendListValid_any A n c xs w h8 hxs hin hr).mono (R' := fun e w' => e = .returned (.bool (ascB xs)) ∧ w = w') fun _ _ ⟨a, b⟩ => ⟨a, b.symm⟩)
  clear hr hin
  cases hasc : ascB xs
  · rw [hasc] at HV; clear hasc
    have HN := Lib.hid hno; clear hno
    go_enter Try.func9, Try.ntmps9
    go_wp2_with fail
    refine HV.out.mono ?_
    rintro e w1 ⟨rfl, rfl⟩
    go_wp2_with fail
    go_ret2
    exact grpPost_no HN.out (Below.refl _ _)
  · have hlo : wd < 0 := by
      rcases Decidable.em (wd < 0) with h | h
      · exact h
      · rw [blOk_yes hasc (by omega) h1] at hno; cases hno
    rw [hasc] at HV; clear hasc
    have HN := Lib.hid hno; clear hno
    go_enter Try.func9, Try.ntmps9
    go_wp2_with fail
    refine HV.out.mono ?_
    rintro e w1 ⟨rfl, rfl⟩
    go_wp2_with fail
    go_ret2
    exact grpPost_no HN.out (Below.refl _ _)
theorem implBlendsOf_any (A : Option Addr) (n c : Nat) (xs : List Int) (wd : Int) (w : World) (h8 : n ≤ 8) (hnc : n ≤ c) (hxs : xs.length = n) (hin : InB xs 3001) (hr : Reads w w.heap.size 1 A n (icells xs)) (h1 : wd ≤ 200000) :
    Calls Try.prog 9 #[.slice A n c, .int .i64 wd] w (GrpPost w xs wd) := by
  cases hok : blOk xs wd
  · exact implBlendsOf_no A n c xs wd w h8 hxs hin hr h1 hok
  · have h := hok
    simp only [blOk, Bool.and_eq_true, decide_eq_true_eq] at h
    exact implBlendsOf_yes A n c xs wd w h8 hnc hxs hin hr h1 h.1.1 h.1.2
theorem specBlendsOf_any (A : Option Addr) (n c : Nat) (xs : List Int) (wd : Int) (w : World) (h8 : n ≤ 8) (hxs : xs.length = n) (hin : InB xs 3001) (hr : Reads w w.heap.size 1 A n (icells xs)) (h0 : -1 ≤ wd) (h1 : wd ≤ 200000) :
    Calls Try.prog 10 #[.slice A n c, .int .i64 wd] w (GrpPost w xs wd) := by
  cases hok : blOk xs wd
  · exact specBlendsOf_no A n c xs wd w h8 hxs hin hr h0 h1 hok
  · have h := hok
    simp only [blOk, Bool.and_eq_true, decide_eq_true_eq] at h
    exact specBlendsOf_yes A n c xs wd w h8 hxs hin hr h1 h.1.1 h.1.2
theorem implBlendsMany_any (A : Option Addr) (n c : Nat) (xs : List Int) (wd : Int) (w : World) (h8 : n ≤ 8) (hnc : n ≤ c) (hxs : xs.length = n) (hin : InB xs 3001) (hr : Reads w w.heap.size 1 A n (icells xs)) (h1 : wd ≤ 200000) :
    Calls Try.prog 13 #[.slice A n c, .int .i64 wd] w fun e w' => e = .returned (.int .i64 (blM xs wd)) ∧ Below w.heap.size w w' := by
  have HV := Lib.hid (implBlendsOf_any A n c xs wd w h8 hnc hxs hin hr h1)
  have HG : Hid (∀ q : Nat, (blG xs wd).length = q → blM xs wd = if blOk xs wd = true then (q : Int) else -1) := fun q hq => by
    subst hq; unfold blM blG
    cases h : blOk xs wd
    · simp
    · simp [grL_len]
  clear hr hin
  go_enter Try.func13, Try.ntmps13
  go_wp2_with fail
  refine HV.out.mono ?_
  rintro e w1 ⟨⟨A1, q, c1, rfl, hg⟩, hb⟩
  have HB := Lib.hid hb; have HL := Lib.hid (HG.out q hg.len); clear hg hb
  cases hok : blOk xs wd
  · rw [hok] at HL
    clear hok
    go_wp2_with fail
    go_ret
    exact ⟨by rw [HL.out]; rfl, HB.out⟩
  · rw [hok] at HL
    clear hok
    go_wp2_with fail
    go_ret
    exact ⟨by rw [HL.out]; rfl, HB.out⟩

set_option maxHeartbeats 1000000 in
theorem sameInts_any (A A' : Option Addr) (n c c' : Nat) (xs : List Int) (w : World) (h8 : n ≤ 1000) (hr : Reads w w.heap.size 1 A n (icells xs)) (hr' : Reads w w.heap.size 1 A' n (icells xs)) :
    Calls Try.prog 12 #[.slice A n c, .slice A' n c'] w fun e w' => e = .returned (.bool true) ∧ Below w.heap.size w w' := by
  have HR := Lib.hid hr; have HR' := Lib.hid hr'; clear hr hr'
  go_enter Try.func12, Try.ntmps12
  go_wp2_with fail
  go_loopw [5] (fun i wr => ∃ k : Nat, k ≤ n ∧ i = .int .i64 k ∧ Hid (Below w.heap.size w wr)) (fun i _ => n - (intOf i).toNat)
  case atStart => exact ⟨0, Nat.zero_le _, rfl, Below.refl _ _⟩
  case round =>
    obtain ⟨k, hk, rfl, HB⟩ := hrel
    by_cases hlt : k < n
    · obtain ⟨b, off, rfl, hb, hx⟩ := (HR.out.below HB.out).int hlt
      obtain ⟨b2, off2, rfl, hb2, hy⟩ := (HR'.out.below HB.out).int hlt
      generalize gi xs k = x at *
      have i1 : (0 : Int) ≤ (k : Int) := by omega
      have i2 : (k : Int) < (n : Int) := by omega
      have e1 : (x != x) = false := by simp
      go_wp2_with fail
      go_quiet (fail)
      go_wp2_with fail
      go_roundw
      case rel => exact ⟨k + 1, by omega, by go_num, below_drewN HB.out _⟩
      case measure => simp [intOf]; omega
    · obtain rfl : k = n := by omega
      go_wp2_with fail
      go_ret
      exact ⟨rfl, HB.out⟩

set_option maxHeartbeats 1000000 in
theorem sameGroups_any (A A' : Option Addr) (n c c' : Nat) (gs : List (List Int)) (w : World) (h8 : n ≤ 1000) (hl : ∀ g ∈ gs, g.length ≤ 1000) (hr : Grps w A n c gs) (hr' : Grps w A' n c' gs) :
    Calls Try.prog 11 #[.slice A n c, .slice A' n c'] w fun e w' => e = .returned (.bool true) ∧ Below w.heap.size w w' := by
  have HR := Lib.hid hr; have HR' := Lib.hid hr'; have HL := Lib.hid hl; clear hr hr' hl
  go_enter Try.func11, Try.ntmps11
  go_wp2_with fail
  go_loopw [5] (fun i wr => ∃ k : Nat, k ≤ n ∧ i = .int .i64 k ∧ Hid (Below w.heap.size w wr)) (fun i _ => n - (intOf i).toNat)
  case atStart => exact ⟨0, Nat.zero_le _, rfl, Below.refl _ _⟩
  case round =>
    obtain ⟨k, hk, rfl, HB⟩ := hrel
    by_cases hlt : k < n
    · obtain ⟨b, off, A1, c1, g, rfl, hb, hg, hx, hc1, hr1⟩ := (HR.out.below HB.out).at hlt
      obtain ⟨b2, off2, A2, c2, g2, rfl, hb2, hg2, hy, hc2, hr2⟩ := (HR'.out.below HB.out).at hlt
      obtain rfl : g = g2 := by rw [hg] at hg2; injection hg2
      have hgl := HL.out g (List.mem_of_getElem? hg)
      have HS := Lib.hid (fun W (hW : Below wr.heap.size wr W) => sameInts_any A1 A2 g.length c1 c2 g W hgl ((hr1.below hW).more hW.size) ((hr2.below hW).more hW.size))
      clear hg hg2 hr1 hr2
      generalize g.length = gl at *
      have i1 : (0 : Int) ≤ (k : Int) := by omega
      have i2 : (k : Int) < (n : Int) := by omega
      have k1 := After.cell hx
      have k2 := After.cell hy
      go_wp2_with fail
      refine wp_region_after (by kernel_rfl) (by kernel_rfl) ?_
      repeat (go_big_quiet_step ((go_at_call 12; exact after_call _ (HS.out _ (After.below _)))))
      refine wpQuiet_nil ?_
      intro w9 hw'
      obtain ⟨⟨w9q, hb9⟩, hw''⟩ := hw'
      subst hw''
      have HB9 := Lib.hid (HB.out.trans (hb9.mono HB.out.size)); clear hb9
      go_wp2_with fail
      go_roundw
      case rel => exact ⟨k + 1, by omega, by go_num, HB9.out⟩
      case measure => simp [intOf]; omega
    · obtain rfl : k = n := by omega
      go_wp2_with fail
      go_ret
      exact ⟨rfl, HB.out⟩
end Go.Proofs.Ytmmnkdjibdlcjaa
