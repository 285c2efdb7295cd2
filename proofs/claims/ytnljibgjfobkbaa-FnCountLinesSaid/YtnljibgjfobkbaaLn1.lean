/- Lines of schemes. -/
import Derived.Test.YtnljibgjfobkbaaSc2
import Derived.Deep.DrawnRows
namespace Go.Proofs.Ytnljibgjfobkbaa
open Go.RowKit
attribute [local go_sem ↓] Go.wp_at_zero Go.wp_at_succ

abbrev L3 := Int × Int × Int
def lcells (ls : List L3) : List Value := ls.flatMap fun t => [.int .i64 t.1, .int .i64 t.2.1, .int .i64 t.2.2]
def gL (ls : List L3) (k : Nat) : L3 := ls[k]?.getD (0, 0, 0)
theorem lcells_append (a b : List L3) : lcells (a ++ b) = lcells a ++ lcells b := by simp [lcells]
theorem lcells_one (a b c : Int) : lcells [(a, b, c)] = [.int .i64 a, .int .i64 b, .int .i64 c] := rfl
theorem lcells_len (ls : List L3) : (lcells ls).length = ls.length * 3 := by
  unfold lcells; induction ls with
  | nil => rfl
  | cons t ts ih => simp only [List.flatMap_cons, List.length_append, ih, List.length_cons, List.length_nil]; omega
theorem lcells_at (ls : List L3) (i : Nat) (h : i < ls.length) : (lcells ls)[i * 3]? = some (.int .i64 (gL ls i).1) ∧ (lcells ls)[i * 3 + 1]? = some (.int .i64 (gL ls i).2.1) ∧ (lcells ls)[i * 3 + 2]? = some (.int .i64 (gL ls i).2.2) := by
  induction ls generalizing i with
  | nil => simp at h
  | cons t ts ih =>
    cases i with
    | zero => exact ⟨rfl, rfl, rfl⟩
    | succ i =>
      have := ih i (by simpa using h)
      rw [show (i + 1) * 3 = i * 3 + 3 by omega]
      exact this
theorem lcells_one_cell (ls : List L3) : ∀ u ∈ lcells ls, u.oneCell' = true := by
  intro u hu
  simp only [lcells, List.mem_flatMap] at hu
  obtain ⟨t, _, ht⟩ := hu
  simp at ht
  rcases ht with rfl | rfl | rfl <;> rfl
theorem lcells_take (ls : List L3) (k : Nat) : (lcells ls).take (k * 3) = lcells (ls.take k) := by
  induction ls generalizing k with
  | nil => simp [lcells]
  | cons t ts ih =>
    cases k with
    | zero => simp [lcells]
    | succ k =>
      rw [show (k + 1) * 3 = k * 3 + 3 by omega]
      show Value.int .i64 t.1 :: Value.int .i64 t.2.1 :: Value.int .i64 t.2.2 :: (lcells ts).take (k * 3) = Value.int .i64 t.1 :: Value.int .i64 t.2.1 :: Value.int .i64 t.2.2 :: lcells (ts.take k)
      rw [ih k]
theorem lcells_drop (ls : List L3) (k : Nat) : (lcells ls).drop (k * 3) = lcells (ls.drop k) := by
  induction ls generalizing k with
  | nil => simp [lcells]
  | cons t ts ih =>
    cases k with
    | zero => simp
    | succ k =>
      rw [show (k + 1) * 3 = k * 3 + 3 by omega]
      show (lcells ts).drop (k * 3) = lcells (ts.drop k)
      exact ih k
theorem Reads.line {w : World} {B : Nat} {g n : Nat} {ls : List L3} (h : Reads w B 3 (some ⟨g, 0, none⟩) n (lcells ls)) {k : Nat} (hk : k < n) :
    w.cell? ⟨g, k * 3, none⟩ = some (.int .i64 (gL ls k).1) ∧ w.cell? ⟨g, k * 3 + 1, none⟩ = some (.int .i64 (gL ls k).2.1) ∧ w.cell? ⟨g, k * 3 + 2, none⟩ = some (.int .i64 (gL ls k).2.2) := by
  obtain ⟨b, off, e, hb, hc⟩ := h.2 (by omega)
  cases e
  have hl := h.1; rw [lcells_len] at hl
  obtain ⟨c1, c2, c3⟩ := lcells_at ls k (by omega)
  exact ⟨by have := hc _ _ c1; rwa [Nat.zero_add] at this, by have := hc _ _ c2; rwa [Nat.zero_add] at this, by have := hc _ _ c3; rwa [Nat.zero_add] at this⟩
theorem elLine : ElemOk Try.prog 31 45 3 24 := elemOk Try.underlying31 (z := .agg #[.int .i64 0, .int .i64 0, .int .i64 0]) (by kernel_rfl) rfl (by omega)

theorem wpList_appN {P : Program} (w : World) {ops : Array Oper} {rest : List Oper} {o : Oper} {a : Act} {Q : Exit → Act → World → Prop} (hgd : o.guard = none) (s x : Operand) (t : TypeId)
    (ho : o.op = .call { callee := .builtin .append, args := #[s, x], argTypes := #[t, t] })
    (base : Nat) (e : TypeId) (size bytes : Nat) (hE : ElemOk P t e size bytes)
    (A : Option Addr) (c n : Nat) (xs : List Value) (hs : a.eval s = .slice A n c) (hown : w.ownsRow base e size (.slice A n c) n xs)
    (ad : Addr) (m mc : Nat) (news : List Value) (hx : a.eval x = .slice (some ad) m mc) (hl : news.length = m * size) (hnews : ∀ j u, news[j]? = some u → w.cell? (ad.add j) = some u) (h1 : ∀ u ∈ news, u.oneCell' = true)
    (N : Nat) (hN : N = n + m) (hn : N ≤ 1000000) (hby : bytes ≤ 1000000) (hbase : base ≤ w.heap.size)
    (h : ∀ A' c' w', w'.ownsRow base e size (.slice A' N c') N (xs ++ news) → N ≤ c' → Below base w w' → wpList P ops Q rest (a.put o.dst (.slice A' N c')) w') : wpList P ops Q (o :: rest) a w := by
  subst hN
  obtain ⟨ht, i, z, hi, hz, hsize, hbytes, hzs, hsz⟩ := hE
  refine wpList_append_own w hgd s x t ho base e i z size bytes ht hi hz hsize hbytes hzs hsz _ n xs hs hown ad m mc news hx hl hnews h1 (by unfold maxLen; omega) ?_ hbase ?_
  · calc (n + m) * bytes ≤ 1000000 * 1000000 := Nat.mul_le_mul hn hby
      _ ≤ _ := by omega
  · intro v' w' hown' hg _
    obtain ⟨A', c', rfl, hc'⟩ := own_form hown'
    exact h A' c' w' hown' hc' ((Below.refl base w).grown hg hbase (fun k hk => (hown.lt k hk).1))
theorem own_some {w : World} {base : Nat} {e : TypeId} {size n c : Nat} {A : Option Addr} {xs : List Value} (h : w.ownsRow base e size (.slice A n c) n xs) (hn : 0 < n) : ∃ g, A = some ⟨g, 0, none⟩ ∧ base ≤ g := by
  rcases h.2 with ⟨hv, h0⟩ | ⟨g, cap, cur, hv, hb, hh, _⟩
  · omega
  · exact ⟨g, by injection hv, hb⟩

/-- Whether a line stands ahead of another one. -/
def ahB (a b : L3) : Bool := if a.2.2 = b.2.2 then decide (a.1 < b.1) || (decide (a.1 = b.1) && decide (a.2.1 < b.2.1)) else decide (a.2.2 < b.2.2)
set_option maxHeartbeats 1000000 in
theorem l31Ahead_any (a1 a2 a3 b1 b2 b3 : Int) (w : World) :
    Calls Try.prog 32 #[.agg #[.int .i64 a1, .int .i64 a2, .int .i64 a3], .agg #[.int .i64 b1, .int .i64 b2, .int .i64 b3]] w fun e w' => e = .returned (.bool (ahB (a1, a2, a3) (b1, b2, b3))) ∧ Below w.heap.size w w' := by
  have hB : ∀ o1 o2, Below w.heap.size w ((w.alloc o1).alloc o2) := fun o1 o2 => (((Below.refl _ _).alloc (Nat.le_refl _) _).alloc (by simp) _)
  have HB := Lib.hid hB; clear hB
  by_cases h3 : a3 = b3
  · subst h3
    by_cases h1 : a1 < b1
    · have he : ahB (a1, a2, a3) (b1, b2, a3) = true := by simp [ahB, h1]
      rw [he]; clear he
      go_enter Try.func32, Try.ntmps32
      go_wp2_with fail
      go_ret
      exact ⟨rfl, HB.out _ _⟩
    · have d1 : decide (a1 < b1) = false := decide_eq_false h1
      by_cases h2 : a1 = b1
      · have he : ahB (a1, a2, a3) (b1, b2, a3) = decide (a2 < b2) := by simp [ahB, h2]
        rw [he]; clear he
        have e2 : (a1 == b1) = true := by simpa using h2
        clear h1 h2
        go_enter Try.func32, Try.ntmps32
        go_wp2_with fail
        go_ret
        exact ⟨rfl, HB.out _ _⟩
      · have he : ahB (a1, a2, a3) (b1, b2, a3) = false := by simp [ahB, h2]; omega
        rw [he]; clear he
        have e2 : (a1 == b1) = false := by simpa using h2
        clear h1 h2
        go_enter Try.func32, Try.ntmps32
        go_wp2_with fail
        go_ret
        exact ⟨rfl, HB.out _ _⟩
  · have he : ahB (a1, a2, a3) (b1, b2, b3) = decide (a3 < b3) := by simp [ahB, h3]
    rw [he]; clear he
    have e3 : (a3 != b3) = true := by simpa using h3
    clear h3
    go_enter Try.func32, Try.ntmps32
    go_wp2_with fail
    go_ret
    exact ⟨rfl, HB.out _ _⟩
end Go.Proofs.Ytnljibgjfobkbaa
