/- The ground term of a shell. -/
import Derived.Test.YtjglgcgkmfbdpaaSmall
import Derived.Test.YtjglgcgkmfbdpaaWords2
import Derived.RegionTactic
import Derived.ChangeAlike
namespace Go.Proofs.Ytjglgcgkmfbdpaa
open Go.RowKit

def capB (l : Int) : Int := if l < 0 ∨ 3 < l then 0 else 4 * l + 2
theorem implShellCapacity_any (l : Int) (w : World) (h0 : 0 ≤ l) (h1 : l ≤ 3) :
    Calls Try.prog 49 #[.int .i64 l] w fun e w' => e = .returned (.int .i64 (4 * l + 2)) ∧ w = w' := by
  go_enter Try.func49, Try.ntmps49
  go_wp2
  go_ret
  exact ⟨rfl, rfl⟩
def evB (l n : Int) : Bool := inB l 0 2 && (decide (0 ≤ n) && decide (n ≤ 4 * l + 2))
theorem evB_iff {l n : Int} : evB l n = true ↔ (0 ≤ l ∧ l ≤ 2) ∧ 0 ≤ n ∧ n ≤ 4 * l + 2 := by simp [evB, inB_iff]
theorem implElectronsValid_any (l n : Int) (w : World) :
    Calls Try.prog 41 #[.int .i64 l, .int .i64 n] w fun e w' => e = .returned (.bool (evB l n)) ∧ w = w' := by
  by_cases h0 : 0 ≤ l
  · by_cases h1 : l ≤ 2
    · by_cases h2 : 0 ≤ n
      · go_enter Try.func41, Try.ntmps41
        go_wp2_with (go_at_call 49; refine (implShellCapacity_any l _ h0 (by omega)).mono ?_; rintro e w' ⟨rfl, rfl⟩)
        go_ret
        exact ⟨ret_bool (by simp only [evB, inB, decide_eq_true h0, decide_eq_true h1, decide_eq_true h2, Bool.true_and]), rfl⟩
      · have h3 : decide (0 ≤ n) = false := by simpa using h2
        go_enter Try.func41, Try.ntmps41
        go_wp2_with fail
        go_ret
        exact ⟨ret_bool (by simp [evB, h2] <;> (intros; omega)), rfl⟩
    · have h3 : decide (l ≤ 2) = false := by simpa using h1
      go_enter Try.func41, Try.ntmps41
      go_wp2_with fail
      go_ret
      exact ⟨ret_bool (by simp [evB, inB, h1] <;> (intros; omega)), rfl⟩
  · have h3 : decide (0 ≤ l) = false := by simpa using h0
    go_enter Try.func41, Try.ntmps41
    go_wp2_with fail
    go_ret
    exact ⟨ret_bool (by simp [evB, inB, h0] <;> (intros; omega)), rfl⟩

/-- The ground term of k electrons, one electron after the other. -/
def hundT (l : Nat) : Nat → T2
  | 0 => (0, 0)
  | k + 1 => (if k ≤ 2 * l then (hundT l k).1 + 1 else (hundT l k).1 - 1, (hundT l k).2 + ((l : Int) - ((k % (2 * l + 1) : Nat) : Int)))
theorem hundT_bd (l k : Nat) (hl : l ≤ 2) : -(k : Int) ≤ (hundT l k).1 ∧ (hundT l k).1 ≤ k ∧ -(2 * k : Int) ≤ (hundT l k).2 ∧ (hundT l k).2 ≤ 2 * k := by
  induction k with
  | zero => simp [hundT]
  | succ k ih =>
    have h := Nat.mod_lt k (show 0 < 2 * l + 1 by omega)
    simp only [hundT]
    generalize k % (2 * l + 1) = r at *
    split <;> omega

def HundPost (w : World) (l n : Nat) (e : Ending) (w' : World) : Prop :=
  e = .returned (.tuple #[.agg #[.int .i64 (hundT l n).1, .int .i64 (hundT l n).2], .bool true]) ∧ Below w.heap.size w w'

theorem results_cell2_tmp {P : Program} {fn : Func} {p t1 : Tmp} {ty : TypeId} {a b : Value} (h : fn.results = #[.cell p ty, .tmp t1]) (tmps : Array Value) (w : World) (g : Nat) (t : TypeId) (d : TypeDesc)
    (hp : tmps.getD p undef = .pointer (some ⟨g, 0, none⟩)) (hg : Blk w g t #[a, b])
    (hu : P.underlying ty = some d) (hd : (match d with | .struct _ | .array _ _ => true | _ => false) = true) (hi : (P.info? ty).map (·.size) = some 2) :
    (results fn tmps).run P w = .ok (.tuple #[.agg #[a, b], tmps.getD t1 undef]) w := by
  have hp' : tmps[p]?.getD undef = .pointer (some ⟨g, 0, none⟩) := by simpa using hp
  simp [results, h, hp', asAddr, run_loadVar_row w g t ty #[a, b] (0, 0) d hg hu hd hi]

set_option maxHeartbeats 2000000 in
theorem implHundTerm_any (l n : Nat) (w : World) (hl : l ≤ 2) (hn : n ≤ 4 * l + 2) :
    Calls Try.prog 25 #[.int .i64 l, .int .i64 n] w (HundPost w l n) := by
  have HEV := Lib.hid (fun W => implElectronsValid_any l n W)
  have hev : evB l n = true := evB_iff.2 (by omega)
  rw [hev] at HEV
  clear hev
  have HD1 := Lib.hid ((Blk.new w 38 #[.int .i64 0, .int .i64 0]).alloc (.cells #[.int .i64 0, .int .i64 0] 38))
  have HD2 := Lib.hid (Blk.new (w.alloc (.cells #[.int .i64 0, .int .i64 0] 38)) 38 #[.int .i64 0, .int .i64 0])
  rw [World.size_alloc] at HD2
  have HB := Lib.hid (((Below.refl w.heap.size w).alloc (Nat.le_refl _) (.cells #[.int .i64 0, .int .i64 0] 38)).alloc (by simp) (.cells #[.int .i64 0, .int .i64 0] 38))
  go_enter Try.func25, Try.ntmps25
  go_wp2_with fail
  refine (HEV.out _).mono ?_
  rintro e w1 ⟨rfl, rfl⟩
  go_wp2_with fail
  go_loopw [14] (fun i wr => ∃ (k : Nat), k ≤ n ∧ i = .int .i64 k ∧ Blk wr w.heap.size 38 #[.int .i64 0, .int .i64 0] ∧ Blk wr (w.heap.size + 1) 38 #[.int .i64 (hundT l k).1, .int .i64 (hundT l k).2] ∧ Below w.heap.size w wr) (fun i _ => n - (intOf i).toNat)
  case atStart => exact ⟨0, Nat.zero_le _, rfl, HD1.out, HD2.out, HB.out⟩
  case round =>
    clear HD1 HD2 HB
    obtain ⟨k, hk, rfl, hd1, hd2, hb⟩ := hrel
    have HB := Lib.hid hb; clear hb
    have HD1 := Lib.hid hd1; clear hd1
    have HD2 := Lib.hid hd2; clear hd2
    have hbd := hundT_bd l k hl
    have q1 : ¬ w.heap.size = w.heap.size + 1 := by omega
    by_cases hlt : k < n
    · have hs := show (hundT l (k + 1)).2 = (hundT l k).2 + ((l : Int) - ((k % (2 * l + 1) : Nat) : Int)) from rfl
      have HS2 := Lib.hid hs; clear hs
      obtain ⟨x1, x2, x3, x4⟩ := blk2 HD2.out
      by_cases hc : k ≤ 2 * l
      · have HS1 := Lib.hid (show (hundT l (k + 1)).1 = (hundT l k).1 + 1 by simp [hundT, hc])
        have HW := Lib.hid (show Blk (wr.setCell ⟨w.heap.size + 1, 0, none⟩ (.int .i64 ((hundT l k).1 + 1))) (w.heap.size + 1) 38 #[.int .i64 ((hundT l k).1 + 1), .int .i64 (hundT l k).2] from HD2.out.set 0 _)
        have HW1 := Lib.hid (show Blk (wr.setCell ⟨w.heap.size + 1, 0, none⟩ (.int .i64 ((hundT l k).1 + 1))) w.heap.size 38 #[.int .i64 0, .int .i64 0] from HD1.out.far (by simp) _)
        have HBW := Lib.hid (HB.out.setCell (p := ⟨w.heap.size + 1, 0, none⟩) (by simp) (.int .i64 ((hundT l k).1 + 1)))
        generalize (hundT l k).1 = s at *
        generalize (hundT l k).2 = o at *
        have dc : decide ((k : Int) ≤ 2 * (l : Int)) = true := by simp; omega
        go_wp2_with fail
        clear x1 x2 x3 x4
        generalize wr.setCell ⟨w.heap.size + 1, 0, none⟩ (.int .i64 (s + 1)) = W at *
        obtain ⟨x1, x2, x3, x4⟩ := blk2 HW.out
        have u1 : IntKind.i64.wrap (2 * (l : Int)) = 2 * (l : Int) := IntWalk.i64_in _ (by omega)
        have u2 : IntKind.i64.wrap (2 * (l : Int) + 1) = 2 * (l : Int) + 1 := IntWalk.i64_in _ (by omega)
        have hr := Nat.mod_lt k (show 0 < 2 * l + 1 by omega)
        have hre : (k : Int).tmod (2 * (l : Int) + 1) = ((k % (2 * l + 1) : Nat) : Int) := by rw [show (2 * (l : Int) + 1) = ((2 * l + 1 : Nat) : Int) by omega]; rfl
        have u7 : ¬ (2 * (l : Int) + 1 = 0) := by omega
        have r0 : 0 ≤ (k : Int) % (2 * (l : Int) + 1) := Int.emod_nonneg _ (by omega)
        have r1 : (k : Int) % (2 * (l : Int) + 1) < 2 * (l : Int) + 1 := Int.emod_lt_of_pos _ (by omega)
        have hre2 : (k : Int) % (2 * (l : Int) + 1) = ((k % (2 * l + 1) : Nat) : Int) := by rw [show (2 * (l : Int) + 1) = ((2 * l + 1 : Nat) : Int) by omega]; rfl
        have HRE := Lib.hid hre2
        rw [← hre2] at HS2
        clear hre2
        have e1 : wrap64 ((l : Int) - (k : Int) % (2 * (l : Int) + 1)) = (l : Int) - (k : Int) % (2 * (l : Int) + 1) := (IntWalk.i64_left _).symm.trans (IntWalk.i64_in _ (by omega))
        have e2 : wrap64 (o + ((l : Int) - (k : Int) % (2 * (l : Int) + 1))) = o + ((l : Int) - (k : Int) % (2 * (l : Int) + 1)) := (IntWalk.i64_left _).symm.trans (IntWalk.i64_in _ (by omega))
        have E := Lib.hid (And.intro e1 e2)
        clear e1 e2
        go_region
        try simp only [E.out.1, E.out.2]
        clear r0 r1 hre HRE E u1 u2 hr
        generalize (k : Int) % (2 * (l : Int) + 1) = rr at *
        go_wp2_with fail
        go_roundw
        case rel =>
          refine ⟨k + 1, by omega, by go_num, (HW1.out.far (by simp) _), ?_, ((HBW.out.setCell (p := ⟨w.heap.size + 1, 1, none⟩) (by simp) _).drew)⟩
          have := HW.out.set 1 (.int .i64 (o + ((l : Int) - rr)))
          rw [HS1.out, HS2.out]
          exact this
        case measure => simp [intOf]; omega
      · have HS1 := Lib.hid (show (hundT l (k + 1)).1 = (hundT l k).1 - 1 by simp [hundT, hc])
        have HW := Lib.hid (show Blk (wr.setCell ⟨w.heap.size + 1, 0, none⟩ (.int .i64 ((hundT l k).1 - 1))) (w.heap.size + 1) 38 #[.int .i64 ((hundT l k).1 - 1), .int .i64 (hundT l k).2] from HD2.out.set 0 _)
        have HW1 := Lib.hid (show Blk (wr.setCell ⟨w.heap.size + 1, 0, none⟩ (.int .i64 ((hundT l k).1 - 1))) w.heap.size 38 #[.int .i64 0, .int .i64 0] from HD1.out.far (by simp) _)
        have HBW := Lib.hid (HB.out.setCell (p := ⟨w.heap.size + 1, 0, none⟩) (by simp) (.int .i64 ((hundT l k).1 - 1)))
        generalize (hundT l k).1 = s at *
        generalize (hundT l k).2 = o at *
        have dc : decide ((k : Int) ≤ 2 * (l : Int)) = false := by simp; omega
        go_wp2_with fail
        clear x1 x2 x3 x4
        generalize wr.setCell ⟨w.heap.size + 1, 0, none⟩ (.int .i64 (s - 1)) = W at *
        obtain ⟨x1, x2, x3, x4⟩ := blk2 HW.out
        have u1 : IntKind.i64.wrap (2 * (l : Int)) = 2 * (l : Int) := IntWalk.i64_in _ (by omega)
        have u2 : IntKind.i64.wrap (2 * (l : Int) + 1) = 2 * (l : Int) + 1 := IntWalk.i64_in _ (by omega)
        have hr := Nat.mod_lt k (show 0 < 2 * l + 1 by omega)
        have hre : (k : Int).tmod (2 * (l : Int) + 1) = ((k % (2 * l + 1) : Nat) : Int) := by rw [show (2 * (l : Int) + 1) = ((2 * l + 1 : Nat) : Int) by omega]; rfl
        have u7 : ¬ (2 * (l : Int) + 1 = 0) := by omega
        have r0 : 0 ≤ (k : Int) % (2 * (l : Int) + 1) := Int.emod_nonneg _ (by omega)
        have r1 : (k : Int) % (2 * (l : Int) + 1) < 2 * (l : Int) + 1 := Int.emod_lt_of_pos _ (by omega)
        have hre2 : (k : Int) % (2 * (l : Int) + 1) = ((k % (2 * l + 1) : Nat) : Int) := by rw [show (2 * (l : Int) + 1) = ((2 * l + 1 : Nat) : Int) by omega]; rfl
        have HRE := Lib.hid hre2
        rw [← hre2] at HS2
        clear hre2
        have e1 : wrap64 ((l : Int) - (k : Int) % (2 * (l : Int) + 1)) = (l : Int) - (k : Int) % (2 * (l : Int) + 1) := (IntWalk.i64_left _).symm.trans (IntWalk.i64_in _ (by omega))
        have e2 : wrap64 (o + ((l : Int) - (k : Int) % (2 * (l : Int) + 1))) = o + ((l : Int) - (k : Int) % (2 * (l : Int) + 1)) := (IntWalk.i64_left _).symm.trans (IntWalk.i64_in _ (by omega))
        have E := Lib.hid (And.intro e1 e2)
        clear e1 e2
        go_region
        try simp only [E.out.1, E.out.2]
        clear r0 r1 hre HRE E u1 u2 hr
        generalize (k : Int) % (2 * (l : Int) + 1) = rr at *
        go_wp2_with fail
        go_roundw
        case rel =>
          refine ⟨k + 1, by omega, by go_num, (HW1.out.far (by simp) _), ?_, ((HBW.out.setCell (p := ⟨w.heap.size + 1, 1, none⟩) (by simp) _).drew)⟩
          have := HW.out.set 1 (.int .i64 (o + ((l : Int) - rr)))
          rw [HS1.out, HS2.out]
          exact this
        case measure => simp [intOf]; omega
    · have hkn : k = n := by omega
      subst hkn
      obtain ⟨x1, x2, x3, x4⟩ := blk2 HD2.out
      obtain ⟨y1, y2, y3, y4⟩ := blk2 HD1.out
      have HZ := Lib.hid ((HD1.out.set 0 (.int .i64 (hundT l k).1)).set 1 (.int .i64 (hundT l k).2))
      have HB2 := Lib.hid ((HB.out.setCell (p := ⟨w.heap.size, 0, none⟩) (Nat.le_refl _) (.int .i64 (hundT l k).1)).setCell (p := ⟨w.heap.size, 1, none⟩) (Nat.le_refl _) (.int .i64 (hundT l k).2))
      go_wp2_with fail
      refine bodyPost_ret (results_cell2_tmp rfl _ _ w.heap.size _ _ rfl HZ.out Try.underlying38 rfl (by kernel_rfl)) rfl ?_
      exact ⟨rfl, HB2.out⟩
end Go.Proofs.Ytjglgcgkmfbdpaa
