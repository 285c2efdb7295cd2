/- Copies of lists of nodes; whether they are equal. -/
import Derived.Test.YtnljibgjfobkbaaDoorSc1
import Derived.Test.YtnljibgjfobkbaaDoorLExNode
import Derived.Deep.RegionHeld3
namespace Go.Proofs.YtnljibgjfobkbaaDoor
open Go.RowKit
attribute [local go_sem ↓] Go.wp_at_zero Go.wp_at_succ

theorem elNode : ElemOk Tryd.prog 31 25 3 24 := elemOk Tryd.underlying31 (z := .agg #[.int .i64 0, .int .i64 0, .bool false]) (by kernel_rfl) rfl (by omega)

theorem szNodeS_any (A : Option Addr) (n c : Nat) (w : World) (hn : n ≤ 9223372036854775807) :
    Calls Tryd.prog 25 #[.slice A n c, .int .i64 1048576] w fun e w' => e = .returned (.int .i64 (if n ≤ 1048576 then 1048576 - (n : Int) else -1)) ∧ w = w' := by
  by_cases h : n ≤ 1048576
  · simp only [if_pos h]
    go_enter Tryd.func25, Tryd.ntmps25
    go_wp2
    go_ret
    exact ⟨rfl, rfl⟩
  · simp only [if_neg h]
    go_enter Tryd.func25, Tryd.ntmps25
    go_wp2
    go_ret
    exact ⟨rfl, rfl⟩

theorem eqNode_same (a b : Int) (o : Bool) (w : World) :
    Calls Tryd.prog 50 #[.agg #[.int .i64 a, .int .i64 b, .bool o], .agg #[.int .i64 a, .int .i64 b, .bool o]] w fun e w' => e = .returned (.bool true) ∧ Below w.heap.size w w' := by
  have hB : ∀ o1 o2, Below w.heap.size w ((w.alloc o1).alloc o2) := fun o1 o2 => (((Below.refl _ _).alloc (Nat.le_refl _) _).alloc (by simp) _)
  have HB := Lib.hid hB; clear hB
  go_enter Tryd.func50, Tryd.ntmps50
  go_wp2_with fail
  go_ret
  exact ⟨rfl, HB.out _ _⟩

theorem gN_take (ns : List T3) {k : Nat} (h : k < ns.length) : ns.take (k + 1) = ns.take k ++ [gN ns k] := by
  rw [List.take_succ_eq_append_getElem h]; simp [gN, h]

set_option maxHeartbeats 2000000 in
theorem toNodeS_any (A : Option Addr) (n c : Nat) (ns : List T3) (w : World) (hn : n ≤ 1048576) (hts : ns.length = n) (hr : Reads w w.heap.size 3 A n (ncells ns)) :
    Calls Tryd.prog 26 #[.slice A n c] w fun e w' => (∃ g, e = .returned (.slice (some ⟨g, 0, none⟩) n n) ∧ Reads w' w'.heap.size 3 (some ⟨g, 0, none⟩) n (ncells ns)) ∧ Below w.heap.size w w' := by
  have HR := Lib.hid hr; clear hr
  have HT := Lib.hid hts; clear hts
  obtain ⟨cs, hcs, hmk⟩ := run_mk elNode n (by omega) (by omega)
  go_enter Tryd.func26, Tryd.ntmps26
  go_wp2
  clear hmk
  have hst : Blk (w.alloc (.cells cs 25)) w.heap.size 25 cs := Blk.new _ _ _
  have hbw := (Below.refl w.heap.size w).alloc (Nat.le_refl _) (.cells cs 25)
  go_loopw [4] (fun i wr => ∃ (k : Nat) (cs : Array Value), k ≤ n ∧ i = .int .i64 k ∧ cs.size = n * 3 ∧ Blk wr w.heap.size 25 cs ∧ Filled cs (ncells (ns.take k)) ∧ Below w.heap.size w wr) (fun i _ => n - (intOf i).toNat)
  case atStart => exact ⟨0, cs, Nat.zero_le _, rfl, hcs, hst, filled_nil _, hbw⟩
  case round =>
    clear hst hbw hcs cs
    obtain ⟨k, cs, hk, rfl, hcs, hblk, hfl, hB⟩ := hrel
    have HF := Lib.hid hfl; clear hfl
    have HB := Lib.hid hB; clear hB
    have HK := Lib.hid hblk; clear hblk
    have HC := Lib.hid hcs; clear hcs
    by_cases hlt : k < n
    · obtain ⟨b, off, rfl, hb, h1, h2, h3⟩ := (HR.out.below HB.out).node hlt
      have H4 := Lib.hid (gN_take ns (k := k) (by rw [HT.out]; exact hlt))
      obtain ⟨x, hx⟩ : ∃ x, (gN ns k).1 = x := ⟨_, rfl⟩
      obtain ⟨y, hy⟩ : ∃ y, (gN ns k).2.1 = y := ⟨_, rfl⟩
      obtain ⟨z, hz⟩ : ∃ z, (gN ns k).2.2 = z := ⟨_, rfl⟩
      have HG : Hid (gN ns k = (x, y, z)) := by unfold Hid; rw [← hx, ← hy, ← hz]
      rw [hx] at h1; rw [hy] at h2; rw [hz] at h3
      clear hx hy hz
      go_wp2_with fail
      refine (toNode_any x y z _).mono ?_
      rintro e w2 ⟨rfl, hb2⟩
      have HK2 := Lib.hid (HK.out.sub hb2)
      have HB2 := Lib.hid (HB.out.trans (hb2.mono HB.out.size))
      clear hb2
      obtain ⟨u1, hu1⟩ := old_cell HK2.out (j := k * 3) (by rw [HC.out]; omega)
      obtain ⟨u2, hu2⟩ := old_cell HK2.out (j := k * 3 + 1) (by rw [HC.out]; omega)
      obtain ⟨u3, hu3⟩ := old_cell HK2.out (j := k * 3 + 2) (by rw [HC.out]; omega)
      have hf1 := HK2.out.frozen (k * 3)
      have hf2 := HK2.out.frozen (k * 3 + 1)
      have hf3 := HK2.out.frozen (k * 3 + 2)
      go_wp2_with fail
      go_roundw
      case rel =>
        refine ⟨k + 1, _, by omega, by go_num, ?_, ((HK2.out.set (k * 3) (.int .i64 x)).set (k * 3 + 1) (.int .i64 y)).set (k * 3 + 2) (.bool z), ?_, ((HB2.out.setCell (Nat.le_refl _) _).setCell (Nat.le_refl _) _).setCell (Nat.le_refl _) _⟩
        · simp [HC.out]
        · have hl : (ns.take k).length = k := by rw [List.length_take, HT.out]; omega
          have := ((HF.out.put (j := k * 3) (by rw [ncells_len, hl]) (by rw [HC.out]; omega) (.int .i64 x)).put (j := k * 3 + 1) (by rw [List.length_append, ncells_len, hl]; rfl) (by simp [HC.out]; omega) (.int .i64 y)).put (j := k * 3 + 2) (by rw [List.length_append, List.length_append, ncells_len, hl]; rfl) (by simp [HC.out]; omega) (.bool z)
          rw [H4.out, ncells_snoc, HG.out]
          simpa using this
      case measure => simp [intOf]; omega
    · go_wp2_with fail
      go_ret
      have hk' : k = n := by omega
      subst hk'
      refine ⟨⟨w.heap.size, rfl, HF.out.reads HK.out (by rw [ncells_len, List.take_of_length_le (by rw [HT.out]; omega), HT.out]) |> fun h => by rwa [List.take_of_length_le (by rw [HT.out]; omega)] at h⟩, HB.out⟩

set_option maxHeartbeats 2000000 in
theorem eqNodeS_any (A A' : Option Addr) (n c c' : Nat) (ns : List T3) (w : World) (hn : n ≤ 1048576) (hr : Reads w w.heap.size 3 A n (ncells ns)) (hr' : Reads w w.heap.size 3 A' n (ncells ns)) :
    Calls Tryd.prog 27 #[.slice A n c, .slice A' n c'] w fun e w' => e = .returned (.bool true) ∧ Below w.heap.size w w' := by
  have HR := Lib.hid hr; clear hr
  have HR' := Lib.hid hr'; clear hr'
  have hB0 := Below.refl w.heap.size w
  go_enter Tryd.func27, Tryd.ntmps27
  go_wp2_with fail
  go_loopw [5] (fun i wr => ∃ (k : Nat), k ≤ n ∧ i = .int .i64 k ∧ Below w.heap.size w wr) (fun i _ => n - (intOf i).toNat)
  case atStart => exact ⟨0, Nat.zero_le _, rfl, hB0⟩
  case round =>
    clear hB0
    obtain ⟨k, hk, rfl, hB⟩ := hrel
    have HB := Lib.hid hB; clear hB
    by_cases hlt : k < n
    · obtain ⟨b, off, rfl, hb, h1, h2, h3⟩ := (HR.out.below HB.out).node hlt
      obtain ⟨b', off', rfl, hb', h1', h2', h3'⟩ := (HR'.out.below HB.out).node hlt
      have HQ := Lib.hid (fun W => eqNode_same (gN ns k).1 (gN ns k).2.1 (gN ns k).2.2 W)
      generalize (gN ns k).1 = x at *
      generalize (gN ns k).2.1 = y at *
      generalize (gN ns k).2.2 = z at *
      have k1 := After.cell h1
      have k2 := After.cell h2
      have k3 := After.cell h3
      have k4 := After.cell h1'
      have k5 := After.cell h2'
      have k6 := After.cell h3'
      have i1 : (0 : Int) ≤ (k : Int) := by omega
      have i2 : (k : Int) < (n : Int) := by omega
      go_wp2_with fail
      refine wp_region_after (by kernel_rfl) (by kernel_rfl) ?_
      repeat (go_big_quiet_step ((go_at_call 50; exact after_call _ (HQ.out _))))
      refine wpQuiet_nil ?_
      intro w9 hw'
      obtain ⟨⟨w9', hb9⟩, hw''⟩ := hw'
      subst hw''
      have HB2 := Lib.hid (HB.out.trans (hb9.mono HB.out.size)); clear hb9 k1 k2 k3 k4 k5 k6
      go_wp2_with fail
      go_roundw
      case rel => exact ⟨k + 1, by omega, by go_num, HB2.out⟩
      case measure => simp [intOf]; omega
    · go_wp2_with fail
      go_ret
      exact ⟨rfl, HB.out⟩
end Go.Proofs.YtnljibgjfobkbaaDoor
