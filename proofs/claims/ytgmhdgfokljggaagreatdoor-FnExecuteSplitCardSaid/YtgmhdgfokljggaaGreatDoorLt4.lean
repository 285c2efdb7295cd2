/- A drawn term; the script of one line of levels. -/
import Derived.Test.YtgmhdgfokljggaaGreatDoorLt3
import Derived.Test.YtgmhdgfokljggaaGreatDoorOpen
import Derived.Test.YtgmhdgfokljggaaGreatDoorTm2
import Derived.Test.YtgmhdgfokljggaaGreatDoorEx3
namespace Go.Proofs.YtgmhdgfokljggaaGreatDoor
open Go.RowKit
attribute [local go_sem ↓] Go.wp_at_zero Go.wp_at_succ

set_option maxHeartbeats 2000000 in
theorem DrawLevelsOf_any (A : Option Addr) (n c : Nat) (w : World) (hm : n ≤ 140737488355328) (hc : n ≤ c) (hb : Bytes w w.heap.size A n) :
    Calls Tryz.prog 9 #[.slice A n c] w fun e w' => ∃ t : T2, e = .returned (trm t) ∧ Drawn t ∧ Below w.heap.size w w' := by
  have hb' : Bytes (w.alloc (.cells #[.int .i64 0, .int .i64 0] 24)) (w.alloc (.cells #[.int .i64 0, .int .i64 0] 24)).heap.size A n := fun hn => by
    obtain ⟨b, off, e, h1, h2⟩ := (hb.keep fun p hp => World.cell?_alloc_lt w (.cells #[.int .i64 0, .int .i64 0] 24) p (by omega)) hn
    exact ⟨b, off, e, by simp; omega, h2⟩
  have HBY := Lib.hid hb'; clear hb hb'
  have HB0 := Lib.hid ((Below.refl w.heap.size w).alloc (Nat.le_refl _) (.cells #[.int .i64 0, .int .i64 0] 24))
  have HX0 := Lib.hid (Blk.new w 24 #[.int .i64 0, .int .i64 0])
  go_enter Tryz.func9, Tryz.ntmps9
  go_wp2_with fail
  refine (l6Open_any A n c _ hm hc HBY.out).mono ?_
  rintro e w1 ⟨rfl, hR1, hb1⟩
  have HB1 := Lib.hid (HB0.out.trans (hb1.mono HB0.out.size))
  have HX1 := Lib.hid (HX0.out.sub hb1)
  have HR1 := Lib.hid hR1
  obtain ⟨B, hB⟩ : ∃ B, (w.alloc (.cells #[.int .i64 0, .int .i64 0] 24)).heap.size = B := ⟨_, rfl⟩
  have hB2 : B = w.heap.size + 1 := by rw [← hB]; simp
  rw [hB] at HR1
  clear hb1 hR1 HBY hB
  subst hB2
  go_wp2_with fail
  refine (l92Term_any (w.heap.size + 1) (w.heap.size + 1) 0 _ (by omega) HR1.out).mono ?_
  rintro e w2 ⟨⟨s, l⟩, rfl, hd, hR2, hg2⟩
  have HB2 := Lib.hid (below_of_gb HB1.out hg2 HB1.out.size (by omega))
  have HX2 := Lib.hid (HX1.out.gb hg2 (by omega))
  have HD := Lib.hid hd
  clear hd hR2 hg2 HB1 HX1 HR1
  obtain ⟨x1, x2, x3, x4⟩ := blk2 HX2.out
  unfold trm
  go_wp2_with fail
  refine bodyPost_ret (by simp [results, Tryz.results9, go_sem, x1, x2]; rfl) rfl ?_
  exact ⟨(s, l), rfl, HD.out, (HB2.out.setCell (p := ⟨w.heap.size, 0, none⟩) (Nat.le_refl _) _).setCell (p := ⟨w.heap.size, 1, none⟩) (Nat.le_refl _) _⟩

/-- The word, the line and the script. -/
def lvW : List UInt8 := [108, 101, 118, 101, 108, 115]
def lvL (t : T2) : List UInt8 := lvW ++ [32] ++ tmT t
def lvS (t : T2) : List UInt8 := lvL t ++ [10]
theorem lv_spl (s l : Nat) (hs : s ≤ 8) (hl : l ≤ 8) : spl 32 (lvL ((s : Int), (l : Int))) = [lvW, tmT ((s : Int), (l : Int))] ∧ spl 10 (lvS ((s : Int), (l : Int))) = [lvL ((s : Int), (l : Int))] ++ [[]] := by
  unfold lvS lvL
  rw [tm_two s l hs hl]
  have h : ∀ s l : Fin 9, spl 32 (lvW ++ [32] ++ [UInt8.ofNat (49 + s.1), lts.getD l.1 0]) = [lvW, [UInt8.ofNat (49 + s.1), lts.getD l.1 0]] ∧ spl 10 (lvW ++ [32] ++ [UInt8.ofNat (49 + s.1), lts.getD l.1 0] ++ [10]) = [lvW ++ [32] ++ [UInt8.ofNat (49 + s.1), lts.getD l.1 0]] ++ [[]] := by decide +kernel
  exact h ⟨s, by omega⟩ ⟨l, by omega⟩
theorem lv_cmd : cmdOf lvW = some 154 := by decide +kernel

theorem lvT_len {t : T2} (hv : tvB t = true) : (lvT t).length ≤ 108 := by
  have h := joinl_len hv (lvJs t) (lvJs t).length (Nat.le_refl _)
  rw [List.take_of_length_le (Nat.le_refl _)] at h
  have := (lv_len hv).2
  unfold lvT
  omega

theorem ExecLevels_any (t : T2) (w : World) (hv : tvB t = true) (ht : Tab w) (hm : Mx w) :
    Calls Tryz.prog 14 #[.string (bs (lvS t))] w fun e w' => e = .returned (.string (bs (lvT t ++ [10, 108, 105, 110, 101, 115, 32, 49, 10]))) ∧ Below w.heap.size w w' := by
  obtain ⟨s, l⟩ := t
  have hb := tvB_iff.1 hv
  obtain ⟨s, rfl⟩ := Int.eq_ofNat_of_zero_le hb.1.1
  obtain ⟨l, rfl⟩ := Int.eq_ofNat_of_zero_le hb.2.1
  have hs8 : s ≤ 8 := by have := hb.1.2; simp at this; omega
  have hl8 : l ≤ 8 := by have := hb.2.2; simp at this; omega
  obtain ⟨e1, e2⟩ := lv_spl s l hs8 hl8
  have htl := tmT_len hv
  have hlen : (lvL ((s : Int), (l : Int))).length = 9 := by unfold lvL; rw [List.length_append, htl]; rfl
  have hvl := lvT_len hv
  have hgo : ∀ (x : List UInt8) (m : Nat), x.length ≤ m → ∀ k, ([x].getD k []).length ≤ m := fun x m h k => by
    cases k with
    | zero => exact h
    | succ k => simp
  have h := Execute_any (lvS ((s : Int), (l : Int))) 1 [lvL ((s : Int), (l : Int))] [lvT ((s : Int), (l : Int))] w ht hm (by unfold lvS; rw [List.length_append, hlen]; decide) e2 rfl (by omega)
    (hgo _ _ (by omega)) (hgo _ _ (by omega)) (fun k hk W b hW hbl => by
      obtain rfl : k = 0 := by omega
      simp only [List.getD_cons_zero] at hbl ⊢
      rw [e1] at hbl ⊢
      have ha := answer_any b 2 [lvW, tmT ((s : Int), (l : Int))] lvW 154 (bs (lvT ((s : Int), (l : Int)))) true W rfl rfl (by decide) (by omega) hbl lv_cmd
        (enters_of Tryz.func154 (by kernel_rfl) rfl)
        (fun W' hW' => reqLevels_any ((s : Int), (l : Int)) b W' hv (Nat.lt_of_lt_of_le hbl.lt hW'.size) (((hbl.sub hW').cell 1).trans rfl))
      exact ha)
  refine h.mono fun e w' ⟨he, hb⟩ => ⟨?_, hb⟩
  rw [he]
  refine ret_str (congrArg bs ?_)
  show outP [lvT ((s : Int), (l : Int))] 1 ++ linesT ++ Lib.decDigits 1 ++ [10] = _
  have : Lib.decDigits 1 = [49] := by decide +kernel
  rw [this]
  simp [outP, linesT]
end Go.Proofs.YtgmhdgfokljggaaGreatDoor
