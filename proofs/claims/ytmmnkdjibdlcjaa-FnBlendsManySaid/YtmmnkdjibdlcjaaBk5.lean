/- Blends: the program's groups. -/
import Derived.Test.YtmmnkdjibdlcjaaBk4
namespace Go.Proofs.Ytmmnkdjibdlcjaa
open Go.RowKit Go.Shelf
attribute [local go_sem] Oper.semAt_some

set_option maxHeartbeats 1000000 in
set_option maxRecDepth 100000 in
theorem cut0_in (N : Nat) (l c B0 : Nat) (A : Option Addr) (J : List (Seg 0) → World → Prop) (W : World)
    (hBl : W.cell? ⟨B0 + 1, 0, none⟩ = some (.slice A 0 c)) (hJ0 : J [] W) :
    CallsIn Fence.wide N Try.prog 33 #[.func (.yield l) #[] #[], .pointer (some ⟨B0 + 1, 0, none⟩), .pointer (some ⟨B0 + 2, 0, none⟩)] W fun e W' => (∃ v, e = .returned v) ∧ J [] W' := by
  have HJ0 := Lib.hid hJ0; clear hJ0
  refine callsIn_of_wp Try.func33 rfl trivial ?_ rfl
  simp only [Try.ntmps33, List.size_toArray, List.length_cons, List.length_nil, Nat.reduceAdd, Nat.reduceSub, Array.replicate_succ, Array.replicate_zero, List.push_toArray, List.append_toArray, List.nil_append, List.cons_append]
  refine wpIn_wide.2 ?_
  go_wp2_with fail
  go_loopw [4] (fun i wr => i = .int .i64 0 ∧ wr = W) (fun _ _ => 0)
  case atStart => exact ⟨rfl, rfl⟩
  case round =>
    obtain ⟨rfl, rfl⟩ := hrel
    go_wp2_with fail
    go_end0
    exact ⟨⟨_, rfl⟩, HJ0.out⟩

theorem cutBlends_any (A : Option Addr) (n c : Nat) (wd : Int) (w : World) :
    Calls Try.prog 25 #[.slice A n c, .int .i64 wd] w fun e w' => e = .returned (.func (.func 33) #[] #[.pointer (some ⟨w.heap.size, 0, none⟩), .pointer (some ⟨w.heap.size + 1, 0, none⟩)]) ∧ w' = (w.alloc (.cells #[.slice A n c] 23)).alloc (.cells #[.int .i64 wd] 3) := by
  go_enter Try.func25, Try.ntmps25
  go_wp2_with fail
  go_ret
  exact ⟨rfl, rfl⟩

theorem cut_stops (N : Nat) (hN : 1 ≤ N) (A : Option Addr) (n c B0 : Nat) (xs : List Int) (wd : Int) (h8 : n ≤ 8) (hnc : n ≤ c) (hxs : xs.length = n) (hin : InB xs 3001) (h0 : 0 ≤ wd) (h1 : wd ≤ 200000) (w : World)
    (hBl : w.cell? ⟨B0 + 1, 0, none⟩ = some (.slice A n c)) (hBw : w.cell? ⟨B0 + 2, 0, none⟩ = some (.int .i64 wd)) (hr : Reads w B0 1 A n (icells xs)) :
    ∃ b off, SeqStopsK Fence.wide N Try.prog 33 #[.pointer (some ⟨B0 + 1, 0, none⟩), .pointer (some ⟨B0 + 2, 0, none⟩)] (fun x : Seg n => #[encG b off c x]) (KpB B0) (fun ys => ys.map (sgm xs) = grL xs wd n) (fun _ => True) n w ∧ Reads w B0 1 A n (icells xs) ∧ (0 < n → A = some ⟨b, off, none⟩) := by
  have hsz : B0 + 2 < w.heap.size := World.block_lt_of_cell? _ _ hBw
  have hsz1 : B0 + 1 < w.heap.size := World.block_lt_of_cell? _ _ hBl
  rcases Nat.eq_zero_or_pos n with h | h
  · subst h
    refine ⟨0, 0, ?_, hr, fun h => absurd h (by omega)⟩
    intro l J Jx W hW _ _ _ hJ0
    exact (cut0_in N l c B0 A J W ((hW.cell (p := ⟨B0 + 1, 0, none⟩) hsz1).trans hBl) hJ0).mono fun e W' ⟨he, hj⟩ => ⟨he, .inl ⟨[], rfl, hj⟩⟩
  · obtain ⟨b, off, rfl, hb, hc⟩ := hr.2 h
    refine ⟨b, off, ?_, hr, fun _ => rfl⟩
    intro l J Jx W hW hJ _ hY hJ0
    exact cut1_in N hN l b off n c B0 xs wd h8 hnc hxs hin h0 h1 J Jx W hJ hY ((hW.cell (p := ⟨B0 + 1, 0, none⟩) hsz1).trans hBl) ((hW.cell (p := ⟨B0 + 2, 0, none⟩) hsz).trans hBw) (hr.below (hW.mono (by omega))) hJ0
end Go.Proofs.Ytmmnkdjibdlcjaa
