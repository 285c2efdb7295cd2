/- Copies of lists of terms. -/
import Derived.Test.YtnljibgjfobkbaaDoorTm2
import Derived.Deep.RegionHeld3
namespace Go.Proofs.YtnljibgjfobkbaaDoor
open Go.RowKit
attribute [local go_sem ↓] Go.wp_at_zero Go.wp_at_succ

theorem szTermS_any (A : Option Addr) (n c : Nat) (w : World) (hn : n ≤ 9223372036854775807) :
    Calls Tryd.prog 18 #[.slice A n c, .int .i64 1048576] w fun e w' => e = .returned (.int .i64 (if n ≤ 1048576 then 1048576 - (n : Int) else -1)) ∧ w = w' := by
  by_cases h : n ≤ 1048576
  · simp only [if_pos h]
    go_enter Tryd.func18, Tryd.ntmps18
    go_wp2
    go_ret
    exact ⟨rfl, rfl⟩
  · simp only [if_neg h]
    go_enter Tryd.func18, Tryd.ntmps18
    go_wp2
    go_ret
    exact ⟨rfl, rfl⟩

theorem toTerm_any (x y : Int) (w : World) :
    Calls Tryd.prog 45 #[.agg #[.int .i64 x, .int .i64 y]] w fun e w' => e = .returned (.agg #[.int .i64 x, .int .i64 y]) ∧ Below w.heap.size w w' := by
  go_enter Tryd.func45, Tryd.ntmps45
  go_wp2
  refine bodyPost_ret (v := .agg #[.int .i64 x, .int .i64 y]) (by simp [results, Tryd.results45, go_sem]) rfl ⟨rfl, ?_⟩
  repeat (first | exact Below.refl _ _ | refine Below.alloc ?_ (by simp; try omega) _ | refine Below.setCell ?_ (by simp; try omega) _)

theorem eqTerm_any (a b c d : Int) (w : World) :
    Calls Tryd.prog 48 #[.agg #[.int .i64 a, .int .i64 b], .agg #[.int .i64 c, .int .i64 d]] w fun e w' => e = .returned (.bool (decide (a = c ∧ b = d))) ∧ Below w.heap.size w w' := by
  have hB : ∀ o1 o2, Below w.heap.size w ((w.alloc o1).alloc o2) := fun o1 o2 => (((Below.refl _ _).alloc (Nat.le_refl _) _).alloc (by simp) _)
  have HB := Lib.hid hB; clear hB
  by_cases h1 : a = c
  · by_cases h2 : b = d
    · subst h1 h2
      go_enter Tryd.func48, Tryd.ntmps48
      go_wp2
      go_ret
      exact ⟨by simp, HB.out _ _⟩
    · subst h1
      have h3 : (b != d) = true := by simpa using h2
      go_enter Tryd.func48, Tryd.ntmps48
      go_wp2
      go_ret
      exact ⟨by simp [h2], HB.out _ _⟩
  · have h3 : (a != c) = true := by simpa using h1
    go_enter Tryd.func48, Tryd.ntmps48
    go_wp2
    go_ret
    exact ⟨by simp [h1], HB.out _ _⟩

set_option maxHeartbeats 2000000 in
theorem toTermS_any (A : Option Addr) (n c : Nat) (ts : List T2) (w : World) (hn : n ≤ 1048576) (hts : ts.length = n) (hr : Reads w w.heap.size 2 A n (tcells ts)) :
    Calls Tryd.prog 20 #[.slice A n c] w fun e w' => (∃ g, e = .returned (.slice (some ⟨g, 0, none⟩) n n) ∧ Reads w' w'.heap.size 2 (some ⟨g, 0, none⟩) n (tcells ts)) ∧ Below w.heap.size w w' := by
  have HR := Lib.hid hr; clear hr
  have HT := Lib.hid hts; clear hts
  obtain ⟨cs, hcs, hmk⟩ := run_mk elTerm n (by omega) (by omega)
  go_enter Tryd.func20, Tryd.ntmps20
  go_wp2
  clear hmk
  have hst : Blk (w.alloc (.cells cs 45)) w.heap.size 45 cs := Blk.new _ _ _
  have hbw := (Below.refl w.heap.size w).alloc (Nat.le_refl _) (.cells cs 45)
  go_loopw [4] (fun i wr => ∃ (k : Nat) (cs : Array Value), k ≤ n ∧ i = .int .i64 k ∧ cs.size = n * 2 ∧ Blk wr w.heap.size 45 cs ∧ Filled cs (tcells (ts.take k)) ∧ Below w.heap.size w wr) (fun i _ => n - (intOf i).toNat)
  case atStart => exact ⟨0, cs, Nat.zero_le _, rfl, hcs, hst, filled_nil _, hbw⟩
  case round =>
    clear hst hbw hcs cs
    obtain ⟨k, cs, hk, rfl, hcs, hblk, hfl, hB⟩ := hrel
    have HF := Lib.hid hfl; clear hfl
    have HB := Lib.hid hB; clear hB
    have HK := Lib.hid hblk; clear hblk
    have HC := Lib.hid hcs; clear hcs
    by_cases hlt : k < n
    · obtain ⟨b, off, x, y, rfl, hb, h1, h2, H3, H4⟩ := (HR.out.below HB.out).term hlt
      go_wp2_with fail
      refine (toTerm_any x y _).mono ?_
      rintro e w2 ⟨rfl, hb2⟩
      have HK2 := Lib.hid (HK.out.sub hb2)
      have HB2 := Lib.hid (HB.out.trans (hb2.mono HB.out.size))
      clear hb2
      obtain ⟨u1, hu1⟩ := old_cell HK2.out (j := k * 2) (by rw [HC.out]; omega)
      obtain ⟨u2, hu2⟩ := old_cell HK2.out (j := k * 2 + 1) (by rw [HC.out]; omega)
      have hf1 := HK2.out.frozen (k * 2)
      have hf2 := HK2.out.frozen (k * 2 + 1)
      go_wp2_with fail
      go_roundw
      case rel =>
        refine ⟨k + 1, _, by omega, by go_num, ?_, (HK2.out.set (k * 2) (.int .i64 x)).set (k * 2 + 1) (.int .i64 y), ?_, (HB2.out.setCell (Nat.le_refl _) _).setCell (Nat.le_refl _) _⟩
        · simp [HC.out]
        · have hl : (ts.take k).length = k := by rw [List.length_take, HT.out]; omega
          have := (HF.out.put (j := k * 2) (by rw [tcells_len, hl]) (by rw [HC.out]; omega) (.int .i64 x)).put (j := k * 2 + 1) (by rw [List.length_append, tcells_len, hl]; rfl) (by simp [HC.out]; omega) (.int .i64 y)
          rw [H4.out, tcells_snoc]
          simpa using this
      case measure => simp [intOf]; omega
    · go_wp2_with fail
      go_ret
      have hk' : k = n := by omega
      subst hk'
      refine ⟨⟨w.heap.size, rfl, HF.out.reads HK.out (by rw [tcells_len, List.take_of_length_le (by rw [HT.out]; omega), HT.out]) |> fun h => by rwa [List.take_of_length_le (by rw [HT.out]; omega)] at h⟩, HB.out⟩
end Go.Proofs.YtnljibgjfobkbaaDoor
