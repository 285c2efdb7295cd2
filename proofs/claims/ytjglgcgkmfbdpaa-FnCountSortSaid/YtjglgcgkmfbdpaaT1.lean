/- Lists of terms: how they lie in memory; the functions that count terms by their spin. -/
import Derived.Test.YtjglgcgkmfbdpaaRows
import Derived.Test.YtjglgcgkmfbdpaaWords
import Derived.WalkKit
import Derived.Outline
import Derived.WalkSpells
import Derived.WalkLawsBesides
namespace Go.Proofs.Ytjglgcgkmfbdpaa
open Go.RowKit

abbrev T2 := Int × Int
def tcells (ts : List T2) : List Value := ts.flatMap fun t => [.int .i64 t.1, .int .i64 t.2]
theorem tcells_len (ts : List T2) : (tcells ts).length = ts.length * 2 := by
  unfold tcells; induction ts with
  | nil => rfl
  | cons t ts ih => simp only [List.flatMap_cons, List.length_append, ih, List.length_cons, List.length_nil]; omega
theorem tcells_at (ts : List T2) (i : Nat) (h : i < ts.length) : (tcells ts)[i * 2]? = some (.int .i64 ts[i].1) ∧ (tcells ts)[i * 2 + 1]? = some (.int .i64 ts[i].2) := by
  induction ts generalizing i with
  | nil => simp at h
  | cons t ts ih =>
    cases i with
    | zero => exact ⟨rfl, rfl⟩
    | succ i =>
      have := ih i (by simpa using h)
      rw [show (i + 1) * 2 = i * 2 + 2 by omega]
      exact this

theorem Reads.term {w : World} {B : Nat} {A : Option Addr} {n : Nat} {ts : List T2} (h : Reads w B 2 A n (tcells ts)) {k : Nat} (hk : k < n) :
    ∃ b off x y, A = some ⟨b, off, none⟩ ∧ b < B ∧ w.cell? ⟨b, off + k * 2, none⟩ = some (.int .i64 x) ∧ w.cell? ⟨b, off + k * 2 + 1, none⟩ = some (.int .i64 y) ∧
      Hid (ts[k]? = some (x, y)) ∧ Hid (ts.take (k + 1) = ts.take k ++ [(x, y)]) := by
  obtain ⟨b, off, e, hb, hc⟩ := h.2 (by omega)
  have hl := h.1; rw [tcells_len] at hl
  have hkl : k < ts.length := by omega
  obtain ⟨c1, c2⟩ := tcells_at ts k hkl
  exact ⟨b, off, _, _, e, hb, hc _ _ c1, hc _ _ c2, by unfold Hid; rw [List.getElem?_eq_getElem hkl], by unfold Hid; rw [List.take_succ_eq_append_getElem hkl]⟩

theorem tcells_take (ts : List T2) (k : Nat) : tcells (ts.take k) = (tcells ts).take (k * 2) := by
  induction ts generalizing k with
  | nil => simp [tcells]
  | cons t ts ih =>
    cases k with
    | zero => simp [tcells]
    | succ k =>
      have := ih k
      simp only [tcells] at this
      simp only [tcells, List.take_succ_cons, List.flatMap_cons, this]
      rw [show (k + 1) * 2 = k * 2 + 2 by omega]
      simp
theorem tcells_drop (ts : List T2) (k : Nat) : tcells (ts.drop k) = (tcells ts).drop (k * 2) := by
  induction ts generalizing k with
  | nil => simp [tcells]
  | cons t ts ih =>
    cases k with
    | zero => simp
    | succ k =>
      have := ih k
      simp only [tcells] at this
      simp only [tcells, List.drop_succ_cons, List.flatMap_cons, this]
      rw [show (k + 1) * 2 = k * 2 + 2 by omega]
      simp

def cntSpin (ts : List T2) (s : Int) : Int := (ts.countP fun t => t.1 == s : Nat)
theorem cntSpin_snoc (ts : List T2) (t : T2) (s : Int) : cntSpin (ts ++ [t]) s = cntSpin ts s + if t.1 == s then 1 else 0 := by
  unfold cntSpin; rw [List.countP_append]; by_cases h : t.1 = s <;> simp [h]
theorem cntSpin_le (ts : List T2) (s : Int) : 0 ≤ cntSpin ts s ∧ cntSpin ts s ≤ ts.length := by
  unfold cntSpin; exact ⟨by omega, by have := List.countP_le_length (p := fun t : T2 => t.1 == s) (l := ts); omega⟩

set_option maxHeartbeats 400000 in
theorem specCountSpins_any (A : Option Addr) (c n : Nat) (ts : List T2) (s : Int) (w : World) (hn : ts.length = n) (hm : n ≤ 140737488355328) (hr : Reads w w.heap.size 2 A n (tcells ts)) :
    Calls Try.prog 13 #[.slice A n c, .int .i64 s] w fun e w' => e = .returned (.int .i64 (cntSpin ts s)) ∧ w = w' := by
  have HR := Lib.hid hr; clear hr
  have HN := Lib.hid hn; clear hn
  go_enter Try.func13, Try.ntmps13
  go_wp2
  go_loop [5, 6] (fun v i => ∃ k : Nat, k ≤ n ∧ i = .int .i64 k ∧ v = .int .i64 (cntSpin (ts.take k) s)) (fun _ i => n - (intOf i).toNat)
  case atStart => exact ⟨0, Nat.zero_le _, rfl, rfl⟩
  case round =>
    obtain ⟨k, hk, rfl, rfl⟩ := hrel
    have hl := cntSpin_le (ts.take k) s
    have hl2 : (ts.take k).length ≤ k := List.length_take_le _ _
    by_cases hlt : k < n
    · obtain ⟨b, off, x, y, rfl, hb, h1, h2, H3, H4⟩ := HR.out.term hlt
      by_cases hx : x = s
      · subst hx
        go_wp2
        go_round
        case rel => exact ⟨k + 1, by omega, by go_num, by rw [H4.out, cntSpin_snoc]; simp⟩
        case measure => simp [intOf]; omega
      · have hx' : (x == s) = false := by simpa using hx
        go_wp2
        go_round
        case rel => exact ⟨k + 1, by omega, by go_num, by rw [H4.out, cntSpin_snoc]; simp [hx]⟩
        case measure => simp [intOf]; omega
    · go_wp2
      go_ret
      exact ⟨by rw [List.take_of_length_le (by rw [HN.out]; omega)]; rfl, rfl⟩

set_option maxHeartbeats 400000 in
theorem implCountSpins_any (A : Option Addr) (c n : Nat) (ts : List T2) (s : Int) (w : World) (hn : ts.length = n) (hm : n ≤ 140737488355328) (hr : Reads w w.heap.size 2 A n (tcells ts)) :
    Calls Try.prog 15 #[.slice A n c, .int .i64 s] w fun e w' => e = .returned (.int .i64 (cntSpin ts s)) ∧ Below w.heap.size w w' := by
  have HR := Lib.hid hr; clear hr
  have HN := Lib.hid hn; clear hn
  have hB0 := Below.refl w.heap.size w
  go_enter Try.func15, Try.ntmps15
  go_wp2
  go_loopw [5, 10] (fun v i wr => Below w.heap.size w wr ∧ ∃ k : Nat, k ≤ n ∧ i = .int .i64 k ∧ v = .int .i64 (cntSpin (ts.take k) s)) (fun _ i _ => n - (intOf i).toNat)
  case atStart => exact ⟨hB0, 0, Nat.zero_le _, rfl, rfl⟩
  case round =>
    obtain ⟨hB, k, hk, rfl, rfl⟩ := hrel
    have hl := cntSpin_le (ts.take k) s
    have hl2 : (ts.take k).length ≤ k := List.length_take_le _ _
    by_cases hlt : k < n
    · obtain ⟨b, off, x, y, rfl, hb, h1, h2, H3, H4⟩ := (HR.out.below hB).term hlt
      by_cases hx : x = s
      · subst hx
        go_wp2
        go_roundw
        case rel => exact ⟨(hB.alloc hB.size _), k + 1, by omega, by go_num, by rw [H4.out, cntSpin_snoc]; simp⟩
        case measure => simp [intOf]; omega
      · have hx' : (x == s) = false := by simpa using hx
        go_wp2
        go_roundw
        case rel => exact ⟨(hB.alloc hB.size _), k + 1, by omega, by go_num, by rw [H4.out, cntSpin_snoc]; simp [hx]⟩
        case measure => simp [intOf]; omega
    · go_wp2
      go_ret
      exact ⟨by rw [List.take_of_length_le (by rw [HN.out]; omega)]; rfl, hB⟩
end Go.Proofs.Ytjglgcgkmfbdpaa
