/- Counts of levels: the reference's; weights. -/
import Derived.Test.YtjglgcgkmfbdpaaCnt2
import Derived.Deep.RegionHeld3
import Derived.Deep.DrawnRows
namespace Go.Proofs.Ytjglgcgkmfbdpaa
open Go.RowKit
attribute [local go_sem ↓] Go.wp_at_zero Go.wp_at_succ

set_option maxHeartbeats 1000000 in
theorem l33Has_any (A : Option Addr) (n c : Nat) (l : List Int) (j : Int) (w : World) (hn : n ≤ 1048576) (hl : l.length = n) (hr : Reads w w.heap.size 1 A n (icells l)) :
    Calls Try.prog 33 #[.slice A n c, .int .i64 j] w fun e w' => e = .returned (.bool (decide (j ∈ l))) ∧ w = w' := by
  have HR := Lib.hid hr; clear hr
  have HL := Lib.hid hl; clear hl
  go_enter Try.func33, Try.ntmps33
  go_wp2_with fail
  go_loop [5] (fun i => ∃ (k : Nat), k ≤ n ∧ i = .int .i64 k ∧ j ∉ l.take k) (fun i => n - (intOf i).toNat)
  case atStart => exact ⟨0, Nat.zero_le _, rfl, by simp⟩
  case round =>
    obtain ⟨k, hk, rfl, hno⟩ := hrel
    have HNO := Lib.hid hno; clear hno
    by_cases hlt : k < n
    · obtain ⟨b, off, x, rfl, hb, h1, H3, H4⟩ := HR.out.int hlt
      by_cases hx : x = j
      · subst hx
        go_wp2_with fail
        go_ret
        exact ⟨ret_bool (by simp [List.mem_of_getElem? H3.out]), rfl⟩
      · have hx2 : (x == j) = false := by simpa using hx
        go_wp2_with fail
        go_round
        case rel => exact ⟨k + 1, by omega, by go_num, by rw [H4.out]; simp [HNO.out, Ne.symm hx]⟩
        case measure => simp [intOf]; omega
    · go_wp2_with fail
      go_ret
      have := HNO.out
      rw [List.take_of_length_le (by rw [HL.out]; omega)] at this
      exact ⟨ret_bool (by simp [this]), rfl⟩

theorem ctL_snoc_bad (ts : List T2) (k : Nat) (t : T2) (h : ts[k]? = some t) (hv : tvB t = false) : ts.all tvB = false := by
  rw [List.all_eq_false]; exact ⟨t, List.mem_of_getElem? h, by rw [hv]; simp⟩

set_option maxHeartbeats 1000000 in
theorem specCountLevels_any (A : Option Addr) (n c : Nat) (ts : List T2) (w : World) (hn : n ≤ 1048576) (hts : ts.length = n) (hr : Reads w w.heap.size 2 A n (tcells ts)) :
    Calls Try.prog 20 #[.slice A n c] w fun e w' => e = .returned (.int .i64 (ctL ts)) ∧ Below w.heap.size w w' := by
  have HR := Lib.hid hr; clear hr
  have HT := Lib.hid hts; clear hts
  have hB0 := Below.refl w.heap.size w
  go_enter Try.func20, Try.ntmps20
  go_wp2_with fail
  go_loopw [3, 4] (fun v i wr => ∃ (k : Nat), k ≤ n ∧ i = .int .i64 k ∧ v = .int .i64 (cntLev (ts.take k)) ∧ (ts.take k).all tvB = true ∧ Below w.heap.size w wr) (fun _ i _ => n - (intOf i).toNat)
  case atStart => exact ⟨0, Nat.zero_le _, rfl, rfl, rfl, hB0⟩
  case round =>
    clear hB0
    obtain ⟨k, hk, rfl, rfl, hall, hB⟩ := hrel
    have HA := Lib.hid hall; clear hall
    have HB := Lib.hid hB; clear hB
    have hc := cntLev_le (ts.take k)
    have hlk : (ts.take k).length ≤ k := List.length_take_le _ _
    have hc1 := hc.1
    have hc2 : cntLev (ts.take k) ≤ 100000000 := by have := hc.2; omega
    clear hc
    by_cases hlt : k < n
    · obtain ⟨b, off, x, y, rfl, hb, h1, h2, H3, H4⟩ := (HR.out.below HB.out).term hlt
      have HC := Lib.hid (cntLev_snoc (ts.take k) (x, y))
      have HQ := Lib.hid (specTermValid_any (x, y) wr)
      generalize cntLev (ts.take k) = q at *
      cases hv : tvB (x, y)
      · have HV := Lib.hid (ctL_snoc_bad ts k (x, y) H3.out hv); rw [hv] at HQ; clear hv
        go_wp2_with fail
        refine HQ.out.mono ?_
        rintro e w2 ⟨rfl, hb2⟩
        have HB2 := Lib.hid (HB.out.trans (hb2.mono HB.out.size)); clear hb2
        go_wp2_with fail
        go_ret
        exact ⟨ret_int (by unfold ctL; rw [HV.out]; rfl), HB2.out⟩
      · have HV := Lib.hid hv; rw [hv] at HQ; clear hv
        have hl9 := lvJs_len (x, y)
        go_wp2_with fail
        refine HQ.out.mono ?_
        rintro e w2 ⟨rfl, hb2⟩
        have HB2 := Lib.hid (HB.out.trans (hb2.mono HB.out.size))
        have g1 := (hb2.cell (p := ⟨b, off + k * 2, none⟩) (Nat.lt_of_lt_of_le hb HB.out.size)).trans h1
        have g2 := (hb2.cell (p := ⟨b, off + k * 2 + 1, none⟩) (Nat.lt_of_lt_of_le hb HB.out.size)).trans h2
        clear hb2 h1 h2
        go_wp2_with fail
        refine (specLevelsOf_any (x, y) _).mono ?_
        rintro e w3 ⟨⟨A3, c3, rfl, hr3⟩, hb3⟩
        have HB3 := Lib.hid (HB2.out.trans (hb3.mono HB2.out.size))
        clear hb3 hr3
        generalize (lvJs (x, y)).length = nl at *
        go_wp2_with fail
        go_roundw
        case rel => exact ⟨k + 1, by omega, by go_num, by rw [H4.out, HC.out], by rw [H4.out, List.all_append, HA.out]; simp [HV.out], HB3.out⟩
        case measure => simp [intOf]; omega
    · go_wp2_with fail
      go_ret
      have hkn : k = n := by omega
      subst hkn
      have HX := Lib.hid (show ts.take k = ts from List.take_of_length_le (by rw [HT.out]; exact Nat.le_refl _))
      rw [HX.out] at HA
      exact ⟨ret_int (by unfold ctL; rw [HA.out, HX.out]; rfl), HB.out⟩
end Go.Proofs.Ytjglgcgkmfbdpaa
