/- The program's count of microstates; the table of all sums. -/
import Derived.Test.YtjglgcgkmfbdpaaDoorMi2
import Derived.Test.YtjglgcgkmfbdpaaDoorMapB
namespace Go.Proofs.YtjglgcgkmfbdpaaDoor
open Go.RowKit

theorem cnt_take_bd (ts : List T2) (k : Nat) (o s : Int) : 0 ≤ cnt (ts.take k) o s ∧ cnt (ts.take k) o s ≤ k := by
  have := cnt_bd (ts.take k) o s
  have h2 : (ts.take k).length ≤ k := by rw [List.length_take]; omega
  omega

set_option maxHeartbeats 2000000 in
theorem implMicroCount_any (l n : Nat) (hl : l ≤ 2) (hn : n ≤ capL l) (o s : Int) (w : World) (ht : Dbt w) :
    Calls Tryd.prog 8 #[.int .i64 (l : Int), .int .i64 (n : Int), .int .i64 o, .int .i64 s] w fun e w' => e = .returned (.int .i64 (cnt (lit l n) o s)) ∧ Below w.heap.size w w' := by
  have HEV := Lib.hid (fun W => electronsValid_any (l : Int) (n : Int) W)
  rw [show evB (l : Int) (n : Int) = true from decide_eq_true (by unfold capL at hn; omega)] at HEV
  have HMS := Lib.hid (microstates_any l n hl hn w ht)
  have h252 := (lit_len ⟨l, by omega⟩ ⟨n, by unfold capL at hn; omega⟩ hn).1
  simp only at h252
  clear ht hn
  obtain ⟨ts, hTS⟩ : ∃ ts, lit l n = ts := ⟨_, rfl⟩
  rw [hTS] at h252 ⊢
  go_enter Tryd.func8, Tryd.ntmps8
  go_wp2_with fail
  refine (HEV.out _).mono ?_
  rintro e w1 ⟨rfl, rfl⟩
  go_wp2_with fail
  refine HMS.out.mono ?_
  rintro e w1 ⟨A, c, m, rfl, hmc, hlen, hr, hb⟩
  rw [hTS] at hlen hr
  have HB0 := Lib.hid hb; have HR := Lib.hid hr; have HLEN := Lib.hid hlen
  rw [hlen] at h252
  clear hb hr hlen HMS hTS
  go_wp2_with fail
  go_loopw [9, 20] (fun v i wr => ∃ k : Nat, k ≤ m ∧ i = .int .i64 k ∧ v = .int .i64 (cnt (ts.take k) o s) ∧ Hid (Below w1.heap.size w1 wr)) (fun _ i _ => m - (RowKit.intOf i).toNat)
  case atStart => exact ⟨0, Nat.zero_le _, rfl, rfl, Below.refl _ _⟩
  case round =>
    obtain ⟨k, hk, rfl, rfl, HB⟩ := hrel
    have hcb := cnt_take_bd ts k o s
    by_cases hlt : k < m
    · obtain ⟨b, off, x, y, rfl, hb, r1, r2, _, htk⟩ := (HR.out.below HB.out).term hlt
      have HS := Lib.hid (congrArg (fun l => cnt l o s) htk.out)
      simp only [cnt_snoc] at HS
      have i1 : (k : Int) < (m : Int) := by omega
      have i0 : (0 : Int) ≤ (k : Int) := by omega
      have HB2 := Lib.hid (HB.out.alloc HB.out.size (.cells #[.int .i64 x, .int .i64 y] 39))
      clear htk
      generalize cnt (ts.take k) o s = C at *
      by_cases hx : x = o
      · by_cases hy : y = s
        · have HE : Hid (cnt (ts.take (k + 1)) o s = C + 1) := by unfold Hid; rw [HS.out, if_pos (by rw [hx, hy])]
          subst hx hy
          have e1 : (x == x) = true := by simp
          have e2 : (y == y) = true := by simp
          clear HS
          go_wp2_with fail
          go_roundw
          case rel => exact ⟨k + 1, by omega, by go_num, by rw [HE.out], HB2.out⟩
          case measure => (simp [RowKit.intOf] <;> omega)
        · have HE : Hid (cnt (ts.take (k + 1)) o s = C + 0) := by
            unfold Hid; rw [HS.out, if_neg (fun h => hy (by injection h))]
          subst hx
          have e1 : (x == x) = true := by simp
          have e2 : (y == s) = false := by simpa using hy
          clear HS hy
          go_wp2_with fail
          go_roundw
          case rel => exact ⟨k + 1, by omega, by go_num, by rw [HE.out, Int.add_zero], HB2.out⟩
          case measure => (simp [RowKit.intOf] <;> omega)
      · have HE : Hid (cnt (ts.take (k + 1)) o s = C + 0) := by
          unfold Hid; rw [HS.out, if_neg (fun h => hx (by injection h))]
        have e1 : (x == o) = false := by simpa using hx
        clear HS hx
        go_wp2_with fail
        go_roundw
        case rel => exact ⟨k + 1, by omega, by go_num, by rw [HE.out, Int.add_zero], HB2.out⟩
        case measure => (simp [RowKit.intOf] <;> omega)
    · obtain rfl : k = m := by omega
      have HA : Hid (ts.take k = ts) := List.take_of_length_le (by rw [HLEN.out]; exact Nat.le_refl _)
      rw [HA.out]
      have HBF := Lib.hid (HB0.out.trans (HB.out.mono HB0.out.size))
      go_wp2_with fail
      go_ret
      exact ⟨rfl, HBF.out⟩

/-! The table. -/
theorem wideSums : (match Tryd.prog.underlying 39 with | some (.array _ _) | some (.struct _) => true | _ => false) = true := by kernel_rfl
theorem laidOutM : laidOutB Tryd.prog = true := by kernel_rfl
theorem lawSums : WideMaps.KeyLaw Tryd.prog 39 := deep_law_laid laidOutM (m := 2) (by omega) (of_decide_eq_true (by kernel_rfl)) (by kernel_rfl) wideSums
def keyV (o s : Int) : Value := .agg #[.int .i64 o, .int .i64 s]
theorem key_some : ∀ o s : Fin 21, (keyOf Tryd.prog 39 (keyV ((o.val : Int) - 10) ((s.val : Int) - 10))).isSome = true := by decide +kernel
def In10 (x : Int) : Prop := -10 ≤ x ∧ x ≤ 10
theorem key_at {o s : Int} (ho : In10 o) (hs : In10 s) : ∃ kl, keyOf Tryd.prog 39 (keyV o s) = some kl := by
  have h := key_some ⟨(o + 10).toNat, by unfold In10 at ho; omega⟩ ⟨(s + 10).toNat, by unfold In10 at hs; omega⟩
  simp only at h
  unfold In10 at ho hs
  rw [show (((o + 10).toNat : Nat) : Int) - 10 = o by omega, show (((s + 10).toNat : Nat) : Int) - 10 = s by omega] at h
  exact Option.isSome_iff_exists.1 h
/-- A map that reads as a function of both sums. -/
def Tbl (w : World) (b n : Nat) (T : Int → Int → Int) : Prop :=
  ∃ D : DataW Unit, w.ownsMap Tryd.prog 39 (plainElem Tryd.prog 3) b n D ∧ ∀ o s kl, In10 o → In10 s → keyOf Tryd.prog 39 (keyV o s) = some kl → D.atKey kl (.lit (.int .i64 0)) = .lit (.int .i64 (T o s))
def upd (T : Int → Int → Int) (o s c : Int) : Int → Int → Int := fun a d => if a = o ∧ d = s then c else T a d
theorem upd_same (T : Int → Int → Int) (o s c : Int) : upd T o s c o s = c := by simp [upd]
theorem upd_other (T : Int → Int → Int) {o s a d : Int} (c : Int) (h : ¬ (a = o ∧ d = s)) : upd T o s c a d = T a d := by simp [upd, h]
theorem zeroM (u : World) : (zeroValue 3).run Tryd.prog u = .ok (.int .i64 0) u := by kernel_rfl
theorem Tbl.put {w2 : World} {b n : Nat} {T : Int → Int → Int} {D : DataW Unit} (hD : ∀ o s kl, In10 o → In10 s → keyOf Tryd.prog 39 (keyV o s) = some kl → D.atKey kl (.lit (.int .i64 0)) = .lit (.int .i64 (T o s)))
    (hm : Maps.IsMap D) {o s : Int} {kl : Lit} (hk : keyOf Tryd.prog 39 (keyV o s) = some kl) (c : Int)
    (hown : w2.ownsMap Tryd.prog 39 (plainElem Tryd.prog 3) b n (D.put kl (.lit (.int .i64 c)))) : Tbl w2 b n (upd T o s c) := by
  refine ⟨_, hown, fun a d kl' ha hd hk' => ?_⟩
  by_cases h : a = o ∧ d = s
  · obtain ⟨rfl, rfl⟩ := h
    rw [hk] at hk'
    injection hk' with hk'
    subst hk'
    rw [upd_same, Maps.atKey_put_same hm ((Maps.Keyed.of_law lawSums).key hk)]
  · rw [upd_other T c h]
    have hne : kl' ≠ kl := by
      rintro rfl
      have := lawSums.inj hk' hk
      simp only [keyV, Value.agg.injEq, Array.mk.injEq, List.cons.injEq, Value.int.injEq, true_and, and_true] at this
      exact h this
    rw [Maps.atKey_put_other hne]
    exact hD a d kl' ha hd hk'
theorem Tbl.kept {w w' : World} {b n : Nat} {T : Int → Int → Int} (h : Tbl w b n T) (hb : w'.heap[b]? = w.heap[b]?) : Tbl w' b n T := by
  obtain ⟨D, ⟨es, ck, h1, h2⟩, h3⟩ := h
  exact ⟨D, ⟨es, ck, hb.trans h1, h2⟩, h3⟩
theorem Tbl.lt {w : World} {b n : Nat} {T : Int → Int → Int} (h : Tbl w b n T) : b < w.heap.size := by
  obtain ⟨D, ⟨es, ck, h1, h2⟩, h3⟩ := h
  exact (Array.getElem?_eq_some_iff.1 h1).1
theorem Tbl.more {w : World} {b n n' : Nat} {T : Int → Int → Int} (h : Tbl w b n T) (hn : n ≤ n') : Tbl w b n' T := by
  obtain ⟨D, h1, h3⟩ := h
  exact ⟨D, h1.mono hn, h3⟩
theorem Tbl.below {w w' : World} {b n : Nat} {T : Int → Int → Int} (h : Tbl w b n T) (hb : Below w.heap.size w w') : Tbl w' b n T := h.kept (hb.block b h.lt)
theorem Tbl.eq {w : World} {b n : Nat} {T T' : Int → Int → Int} (h : Tbl w b n T) (he : ∀ o s, In10 o → In10 s → T o s = T' o s) : Tbl w b n T' := by
  obtain ⟨D, h1, h3⟩ := h
  exact ⟨D, h1, fun o s kl ho hs hk => by rw [h3 o s kl ho hs hk, he o s ho hs]⟩
/-- A look-up. -/
theorem Tbl.look {w : World} {b n : Nat} {T : Int → Int → Int} (h : Tbl w b n T) {o s : Int} (ho : In10 o) (hs : In10 s) :
    (Instr.lookup 36 (.map (some b)) (keyV o s) false).run Tryd.prog w = .ok (.int .i64 (T o s)) w := by
  obtain ⟨D, hown, hD⟩ := h
  obtain ⟨kl, hk⟩ := key_at ho hs
  obtain ⟨c, hl, hat, _⟩ := hown.lookup_int (Maps.Keyed.of_law lawSums) Tryd.underlying36 Tryd.underlying3 (zeroM w) hk
  rw [hD o s kl ho hs hk] at hat
  injection hat with hat
  injection hat with _ hat
  rw [hat]; exact hl
/-- A step of an entry. -/
theorem Tbl.bump {w : World} {b n : Nat} {T : Int → Int → Int} (h : Tbl w b n T) (hn : n < maxLen) {o s : Int} (ho : In10 o) (hs : In10 s) :
    ∃ (v0 : Value) (st : Nat) (w1 : World), (Instr.lookup 36 (.map (some b)) (keyV o s) false).run Tryd.prog w = .ok (.int .i64 (T o s)) w ∧
      (Instr.mapEntry 36 (.map (some b)) (keyV o s)).run Tryd.prog w = .ok (.tuple #[v0, .int .i64 (st : Int)]) w1 ∧
      (Instr.lookup 36 (.map (some b)) (keyV o s) false).run Tryd.prog w1 = .ok (.int .i64 (T o s)) w1 ∧ w.grownBy w1 (some b) ∧
      ∀ c' : Int, (Lit.int .i64 c').wf = true → ∃ w2, (Instr.entryStore 36 (.map (some b)) (.int .i64 (st : Int)) (.int .i64 c')).run Tryd.prog w1 = .ok () w2 ∧ Tbl w2 b (n + 1) (upd T o s c') ∧ w.grownBy w2 (some b) := by
  obtain ⟨D, hown, hD⟩ := h
  obtain ⟨kl, hk⟩ := key_at ho hs
  obtain ⟨c, v0, st, w1, hw, hat, hl, he, hl1, hg, hst⟩ := own_bump lawSums Tryd.underlying36 Tryd.underlying3 zeroM hown hn hk
  rw [hD o s kl ho hs hk] at hat
  injection hat with hat
  injection hat with _ hat
  subst hat
  refine ⟨v0, st, w1, hl, he, hl1, hg, fun c' hc' => ?_⟩
  obtain ⟨w2, h1, h2, h3⟩ := hst c' hc'
  exact ⟨w2, h1, Tbl.put hD hown.isMap hk c' h2, h3⟩
theorem tbl_made (w : World) : Tbl (w.alloc (.map #[] 0)) w.heap.size 0 (fun _ _ => 0) :=
  ⟨.map [], World.ownsMap_made _ _ _ _, fun _ _ _ _ _ _ => rfl⟩
end Go.Proofs.YtjglgcgkmfbdpaaDoor
