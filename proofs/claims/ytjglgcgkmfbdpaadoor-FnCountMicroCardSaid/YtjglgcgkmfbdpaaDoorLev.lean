/- The levels of a term. -/
import Derived.Test.YtjglgcgkmfbdpaaDoorCpl
import Derived.Test.YtjglgcgkmfbdpaaDoorWords2
import Derived.Deep.RegionHeld3
import Derived.Deep.DrawnRows
namespace Go.Proofs.YtjglgcgkmfbdpaaDoor
open Go.RowKit
attribute [local go_sem ↓] Go.wp_at_zero Go.wp_at_succ

def lvJs (t : T2) : List Int := if tvB t then cpl (2 * t.2) t.1 else []
def lcells (t : T2) (js : List Int) : List Value := js.flatMap fun j => [.int .i64 t.1, .int .i64 t.2, .int .i64 j]
theorem lcells_snoc (t : T2) (js : List Int) (j : Int) : lcells t (js ++ [j]) = lcells t js ++ [.int .i64 t.1, .int .i64 t.2, .int .i64 j] := by simp [lcells]
theorem icells_at (l : List Int) (k : Nat) (h : k < l.length) : (icells l)[k]? = some (.int .i64 l[k]) := by simp [icells, h]
theorem Reads.int {w : World} {B : Nat} {A : Option Addr} {n : Nat} {l : List Int} (h : Reads w B 1 A n (icells l)) {k : Nat} (hk : k < n) :
    ∃ b off x, A = some ⟨b, off, none⟩ ∧ b < B ∧ w.cell? ⟨b, off + k, none⟩ = some (.int .i64 x) ∧ Hid (l[k]? = some x) ∧ Hid (l.take (k + 1) = l.take k ++ [x]) := by
  obtain ⟨b, off, e, hb, hc⟩ := h.2 (by omega)
  have hl : l.length = n := by have := h.1; simp [icells] at this; omega
  have hkl : k < l.length := by omega
  exact ⟨b, off, _, e, hb, hc _ _ (icells_at l k hkl), by unfold Hid; rw [List.getElem?_eq_getElem hkl], by unfold Hid; rw [List.take_succ_eq_append_getElem hkl]⟩

theorem elLevel : ElemOk Tryd.prog 62 65 3 24 := elemOk Tryd.underlying62 (z := .agg #[.int .i64 0, .int .i64 0, .int .i64 0]) (by kernel_rfl) rfl (by omega)

def LevelsPost (w : World) (t : T2) (e : Ending) (w' : World) : Prop :=
  (∃ A c, e = .returned (.slice A (lvJs t).length c) ∧ w'.ownsRow w.heap.size 65 3 (.slice A (lvJs t).length c) (lvJs t).length (lcells t (lvJs t))) ∧ Below w.heap.size w w'

set_option maxHeartbeats 1000000 in
theorem implLevelsOf_any (t : T2) (w : World) :
    Calls Tryd.prog 29 #[.agg #[.int .i64 t.1, .int .i64 t.2]] w (LevelsPost w t) := by
  obtain ⟨s, l⟩ := t
  have HB := Lib.hid ((Below.refl w.heap.size w).alloc (Nat.le_refl _) (.cells #[.int .i64 s, .int .i64 l] 41))
  have HD := Lib.hid (Blk.new w 41 #[.int .i64 s, .int .i64 l])
  cases hv : tvB (s, l)
  · have HL := Lib.hid (show lvJs (s, l) = [] by unfold lvJs; rw [hv]; rfl)
    have HT := Lib.hid (implTermValid_any (s, l) (w.alloc (.cells #[.int .i64 s, .int .i64 l] 41)))
    rw [hv] at HT
    clear hv
    go_enter Tryd.func29, Tryd.ntmps29
    go_wp2_with fail
    refine HT.out.mono ?_
    rintro e w1 ⟨rfl, hb1⟩
    have HB1 := Lib.hid (HB.out.trans (hb1.mono HB.out.size)); clear hb1
    go_wp2_with fail
    go_ret
    exact ⟨⟨none, 0, by rw [HL.out]; rfl, by rw [HL.out]; exact World.ownsRow_nil _ _ _ _⟩, HB1.out⟩
  · have hv2 := tvB_iff.1 hv
    simp only at hv2
    obtain ⟨⟨s0, s1⟩, l0, l1⟩ := hv2
    have HL := Lib.hid (show lvJs (s, l) = cpl (2 * l) s by unfold lvJs; rw [hv]; rfl)
    have HT := Lib.hid (implTermValid_any (s, l) (w.alloc (.cells #[.int .i64 s, .int .i64 l] 41)))
    rw [hv] at HT
    clear hv
    go_enter Tryd.func29, Tryd.ntmps29
    go_wp2_with fail
    refine HT.out.mono ?_
    rintro e w1 ⟨rfl, hb1⟩
    have HB1 := Lib.hid (HB.out.trans (hb1.mono HB.out.size))
    have HD1 := Lib.hid (HD.out.sub hb1); clear hb1 HB HD
    obtain ⟨d1, d2, _, _⟩ := blk2 HD1.out
    go_wp2_with fail
    refine (implSpinCoupled_any (2 * l) s w1 (by omega) (by omega) (by omega) (by omega) (by omega)).mono ?_
    rintro e w2 ⟨⟨A, c, rfl, hr2⟩, hb2⟩
    have HD2 := Lib.hid (HD1.out.sub hb2)
    have HB2 := Lib.hid (HB1.out.trans (hb2.mono HB1.out.size))
    have HR2 := Lib.hid (own_reads hr2)
    have hn := cpl_len (2 * l) s
    have hn2 : (cpl (2 * l) s).length ≤ 20 := by omega
    generalize hq : (cpl (2 * l) s).length = n at *
    have HN := Lib.hid hq
    clear hb2 HD1 HB1 d1 d2 hr2 hn hq
    have ho := World.ownsRow_nil w2 w.heap.size 65 3
    go_wp2_with fail
    go_loopw [3, 5, 16] (fun v u i wr => ∃ (k : Nat) (A : Option Addr) (c : Nat), k ≤ n ∧ i = .int .i64 k ∧ v = .slice A k c ∧ wr.ownsRow w2.heap.size 65 3 (.slice A k c) k (lcells (s, l) ((cpl (2 * l) s).take k)) ∧ Below w2.heap.size w2 wr) (fun _ _ i _ => n - (intOf i).toNat)
    case atStart => exact ⟨0, none, 0, Nat.zero_le _, rfl, rfl, World.ownsRow_nil w2 w2.heap.size 65 3, Below.refl _ _⟩
    case round =>
      clear ho
      obtain ⟨k, A', c', hk, rfl, rfl, hown, hB⟩ := hrel
      have HW := Lib.hid hown; clear hown
      have HB := Lib.hid hB; clear hB
      by_cases hlt : k < n
      · obtain ⟨b, off, x, rfl, hb, h1, H3, H4⟩ := (HR2.out.below HB.out).int hlt
        obtain ⟨d1, d2, _, _⟩ := blk2 (HD2.out.sub HB.out)
        go_wp2_with (at_builtin; refine wpList_app1 _ rfl (.tmp 20) (.tmp 24) _ rfl w2.heap.size 65 3 24 elLevel A' c' k (lcells (s, l) ((cpl (2 * l) s).take k)) rfl (HW.out.alloc _) wr.heap.size #[.int .i64 s, .int .i64 l, .int .i64 x] rfl (Blk.new wr _ _) rfl ?h1 (by omega) (by omega) (by have := HB.out.size; simp; omega) ?_)
        case h1 => exact ⟨rfl, rfl, rfl⟩
        intro A'' c'' w3 hown3 hc3 hb3
        have HW3 := Lib.hid hown3; clear hown3
        have HB3 := Lib.hid ((HB.out.alloc HB.out.size _).trans hb3); clear hb3
        go_wp2_with fail
        go_roundw
        case rel =>
          refine ⟨k + 1, A'', c'', by omega, by go_num, rfl, ?_, HB3.out⟩
          rw [H4.out, lcells_snoc]; exact HW3.out
        case measure => simp [intOf]; omega
      · go_wp2_with fail
        go_ret
        have hk' : k = n := by omega
        subst hk'
        have hr := own_mono HW.out (HB2.out.size)
        rw [List.take_of_length_le (by rw [HN.out]; exact Nat.le_refl _)] at hr
        exact ⟨⟨A', c', by rw [HL.out, HN.out]; rfl, by rw [HL.out, HN.out]; exact hr⟩, HB2.out.trans (HB.out.mono HB2.out.size)⟩
end Go.Proofs.YtjglgcgkmfbdpaaDoor
