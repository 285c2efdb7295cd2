/- Joined: Lt4 Fa6 Dlev Fa7. -/
import Derived.Test.YtjdfbnlaiiknpaaGreatDoorLt3
import Derived.Test.YtjdfbnlaiiknpaaGreatDoorOpen
import Derived.Test.YtjdfbnlaiiknpaaGreatDoorTm2
import Derived.Test.YtjdfbnlaiiknpaaGreatDoorEx
import Derived.Test.YtjdfbnlaiiknpaaGreatDoorFa
import Derived.Test.YtjdfbnlaiiknpaaGreatDoorLt2
import Derived.RegionTactic
namespace Go.Proofs.YtjdfbnlaiiknpaaGreatDoor
/- A drawn term; the script of one line of levels. -/
section
open Go.RowKit
attribute [local go_sem ↓] Go.wp_at_zero Go.wp_at_succ


/-- The word, the line and the script. -/
def lvW : List UInt8 := [108, 101, 118, 101, 108, 115]
def lvL (t : T2) : List UInt8 := lvW ++ [32] ++ tmT t
def lvS (t : T2) : List UInt8 := lvL t ++ [10]
theorem lv_spl (s l : Nat) (hs : s ≤ 8) (hl : l ≤ 8) : spl 32 (lvL ((s : Int), (l : Int))) = [lvW, tmT ((s : Int), (l : Int))] ∧ spl 10 (lvS ((s : Int), (l : Int))) = [lvL ((s : Int), (l : Int))] ++ [[]] := by
  unfold lvS lvL
  rw [tm_two s l hs hl]
  have h : ∀ s l : Fin 9, spl 32 (lvW ++ [32] ++ [UInt8.ofNat (49 + s.1), lts.getD l.1 0]) = [lvW, [UInt8.ofNat (49 + s.1), lts.getD l.1 0]] ∧ spl 10 (lvW ++ [32] ++ [UInt8.ofNat (49 + s.1), lts.getD l.1 0] ++ [10]) = [lvW ++ [32] ++ [UInt8.ofNat (49 + s.1), lts.getD l.1 0]] ++ [[]] := by decide +kernel
  exact h ⟨s, by omega⟩ ⟨l, by omega⟩
theorem lv_cmd : cmdOf lvW = some 88 := by decide +kernel

theorem lvT_len {t : T2} (hv : tvB t = true) : (lvT t).length ≤ 108 := by
  have h := joinl_len hv (lvJs t) (lvJs t).length (Nat.le_refl _)
  rw [List.take_of_length_le (Nat.le_refl _)] at h
  have := (lv_len hv).2
  unfold lvT
  omega

theorem ExecLevels_any (t : T2) (w : World) (hv : tvB t = true) (ht : Tab w) (hm : Mx w) :
    Calls Tryz.prog 9 #[.string (bs (lvS t))] w fun e w' => e = .returned (.string (bs (lvT t ++ [10, 108, 105, 110, 101, 115, 32, 49, 10]))) ∧ Below w.heap.size w w' := by
  obtain ⟨s, l⟩ := t
  have hb := tvB_iff.1 hv
  obtain ⟨s, rfl⟩ := Int.eq_ofNat_of_zero_le hb.1.1
  obtain ⟨l, rfl⟩ := Int.eq_ofNat_of_zero_le hb.2.1
  have hs8 : s ≤ 8 := by have := hb.1.2; simp at this; omega
  have hl8 : l ≤ 8 := by have := hb.2.2; simp at this; omega
  obtain ⟨e1, e2⟩ := lv_spl s l hs8 hl8
  have htl := tmT_len hv
  have hlen : (lvL ((s : Int), (l : Int))).length = 9 := by unfold lvL; rw [List.length_append, htl]; rfl
  have hvl := lvT_len hv
  have hgo : ∀ (x : List UInt8) (m : Nat), x.length ≤ m → ∀ k, ([x].getD k []).length ≤ m := fun x m h k => by
    cases k with
    | zero => exact h
    | succ k => simp
  have h := Execute_any (lvS ((s : Int), (l : Int))) 1 [lvL ((s : Int), (l : Int))] [lvT ((s : Int), (l : Int))] w ht hm (by unfold lvS; rw [List.length_append, hlen]; decide) e2 rfl (by omega)
    (hgo _ _ (by omega)) (hgo _ _ (by omega)) (fun k hk W b hW hbl => by
      obtain rfl : k = 0 := by omega
      simp only [List.getD_cons_zero] at hbl ⊢
      rw [e1] at hbl ⊢
      have ha := answer_any b 2 [lvW, tmT ((s : Int), (l : Int))] lvW 88 (bs (lvT ((s : Int), (l : Int)))) true W rfl rfl (by decide) (by omega) hbl lv_cmd
        (enters_of Tryz.func88 (by kernel_rfl) rfl)
        (fun W' hW' => reqLevels_any ((s : Int), (l : Int)) b W' hv (Nat.lt_of_lt_of_le hbl.lt hW'.size) (((hbl.sub hW').cell 1).trans rfl))
      exact ha)
  refine h.mono fun e w' ⟨he, hb⟩ => ⟨?_, hb⟩
  rw [he]
  refine ret_str (congrArg bs ?_)
  show outP [lvT ((s : Int), (l : Int))] 1 ++ linesT ++ Lib.decDigits 1 ++ [10] = _
  have : Lib.decDigits 1 = [49] := by decide +kernel
  rw [this]
  simp [outP, linesT]
end

/- The request of a factor; a drawn level. -/
section
open Go.RowKit
attribute [local go_sem ↓] Go.wp_at_zero Go.wp_at_succ

def rqFac (s : List UInt8) : List UInt8 × Bool := (ratT (facR (lvF s).1.1 (lvF s).1.2).1, (lvF s).2 && (facR (lvF s).1.1 (lvF s).1.2).2)
set_option maxHeartbeats 4000000 in
theorem reqFactor_any (s : List UInt8) (b : Nat) (w : World) (hs : s.length ≤ 1000000) (hb : b < w.heap.size) (hA : w.cell? ⟨b, 1, none⟩ = some (.string (bs s))) (hE : Ers w) (ht : Tab w) :
    Calls Tryz.prog 89 #[.agg #[.slice (some ⟨b, 1, none⟩) 1 1]] w fun e w' => e = .returned (.tuple #[.string (bs (rqFac s).1), .bool (rqFac s).2]) ∧ Below w.heap.size w w' := by
  have HLF := Lib.hid (fun W => LevelFrom_all s W hs)
  unfold rqFac
  simp only
  obtain ⟨r, hr⟩ : ∃ r, lvF s = r := ⟨_, rfl⟩
  rw [hr] at HLF ⊢
  clear hr
  obtain ⟨⟨⟨p, q⟩, j⟩, ok⟩ := r
  unfold lvV at HLF
  simp only at HLF ⊢
  have HFF := Lib.hid (fun W (hW : Ers W) => FactorOf_any (p, q) j W hW)
  obtain ⟨f, hf⟩ : ∃ f, facR (p, q) j = f := ⟨_, rfl⟩
  rw [hf] at HFF ⊢
  rw [okV_form] at HFF
  clear hf
  obtain ⟨⟨x, y⟩, fk⟩ := f
  simp only at HFF ⊢
  have HRT := Lib.hid (fun W (hW : Tab W) => implRatText_any x y W hW)
  have HA := Lib.hid hA; clear hA
  have HE := Lib.hid (fun W (hb : Below w.heap.size w W) => hE.on hb); clear hE
  have HTb := Lib.hid (fun W (hb : Below w.heap.size w W) => ht.on hb); clear ht
  generalize bs s = X at *
  generalize bs (ratT (x, y)) = Y at *
  have HB0 := Lib.hid (bel_alloc (Below.refl w.heap.size w) (.cells #[.slice (some ⟨b, 1, none⟩) 1 1] 91))
  have HQ0 := Lib.hid (Blk.new w 91 #[.slice (some ⟨b, 1, none⟩) 1 1])
  go_enter Tryz.func89, Tryz.ntmps89
  go_wp2_with fail
  refine (exactly_any _ 1 1 _).mono ?_
  rintro e w1 ⟨rfl, hb1⟩
  have HB1 := Lib.hid (bel_sub HB0.out hb1)
  have c0 : w1.cell? ⟨w.heap.size, 0, none⟩ = some (.slice (some ⟨b, 1, none⟩) 1 1) := (HQ0.out.sub hb1).cell 0
  have hA := (HB1.out.cell (p := ⟨b, 1, none⟩) hb).trans HA.out
  clear hb1 HB0 HQ0
  go_wp2_with fail
  refine (HLF.out _).mono ?_
  rintro e w2 ⟨rfl, hb2⟩
  have HB2 := Lib.hid (bel_alloc (bel_sub HB1.out hb2) (.cells #[.int .i64 p, .int .i64 q, .int .i64 j] 131))
  clear hb2 c0 hA HB1
  go_wp2_with fail
  refine (HFF.out _ (HE.out _ HB2.out)).mono ?_
  rintro e w3 ⟨rfl, hb3⟩
  have HB3 := Lib.hid (bel_alloc (bel_sub HB2.out hb3) (.cells #[.int .i64 x, .int .i64 y] 97))
  clear hb3 HB2
  go_wp2_with fail
  refine (HRT.out _ (HTb.out _ HB3.out)).mono ?_
  rintro e w4 ⟨rfl, hb4⟩
  have HB4 := Lib.hid (bel_sub HB3.out hb4)
  clear hb4 HB3
  cases ok
  · go_wp2_with fail
    go_ret2
    exact ⟨rfl, HB4.out⟩
  · go_wp2_with fail
    go_ret2
    exact ⟨rfl, HB4.out⟩
end

/- Draws of levels. -/
section
open Go.RowKit
attribute [local go_sem ↓] Go.wp_at_zero Go.wp_at_succ

theorem results_lev1 {P : Program} {fn : Func} {p : Tmp} {ty : TypeId} {cs : Array Value} (h : fn.results = #[.cell p ty]) (tmps : Array Value) (w : World) (g : Nat) (t : TypeId) (d : TypeDesc)
    (hp : tmps.getD p undef = .pointer (some ⟨g, 0, none⟩)) (hg : Blk w g t cs)
    (hu : P.underlying ty = some d) (hd : (match d with | .struct _ | .array _ _ => true | _ => false) = true) (hi : (P.info? ty).map (·.size) = some cs.size) :
    (results fn tmps).run P w = .ok (.agg cs) w := by
  have hp' : tmps[p]?.getD undef = .pointer (some ⟨g, 0, none⟩) := by simpa using hp
  simp [results, h, hp', asAddr, run_loadVar_row w g t ty cs (0, 0) d hg hu hd hi]

def LevPost (T : TypeId) (w : World) (B R N : Nat) (e : Ending) (w' : World) : Prop :=
  ∃ s l j : Int, e = .returned (.agg #[.int .i64 s, .int .i64 l, .int .i64 j]) ∧ ((0 ≤ s ∧ s ≤ 9) ∧ (0 ≤ l ∧ l ≤ 4) ∧ (-2 ≤ j ∧ j ≤ 30)) ∧ Rd T w' B R N ∧ w.grownBy w' (some R)
end

/- One line, one answer; the text of a level is read back. -/
section
open Go.RowKit
attribute [local go_sem ↓] Go.wp_at_zero Go.wp_at_succ

/-- A line's answer. -/
def LineOk (w : World) (line out : List UInt8) : Prop := ∀ (W : World) (b : Nat), Below w.heap.size w W → Blk W b 9 (wcs (spl 32 line)) →
  Calls Tryz.prog 25 #[.slice (some ⟨b, 0, none⟩) (spl 32 line).length (spl 32 line).length] W fun e w' => e = .returned (.string (bs out)) ∧ Below W.heap.size W w'
theorem spl_line {l : List UInt8} (h : 10 ∉ l) : spl 10 (l ++ [10]) = [l] ++ [[]] := by
  rw [spl_app h]; rfl
theorem lines1 {x : List UInt8} : outP [x] 1 ++ linesT ++ Lib.decDigits 1 ++ [10] = x ++ [10, 108, 105, 110, 101, 115, 32, 49, 10] := by
  have : Lib.decDigits 1 = [49] := by decide +kernel
  rw [this]
  simp [outP, linesT]
theorem exec1 (line out : List UInt8) (w : World) (ht : Tab w) (hm : Mx w) (hl : line.length ≤ 599) (h10 : 10 ∉ line) (ho : out.length ≤ 10000) (h : LineOk w line out) :
    Calls Tryz.prog 9 #[.string (bs (line ++ [10]))] w fun e w' => e = .returned (.string (bs (out ++ [10, 108, 105, 110, 101, 115, 32, 49, 10]))) ∧ Below w.heap.size w w' := by
  have hgo : ∀ (x : List UInt8) (m : Nat), x.length ≤ m → ∀ k, ([x].getD k []).length ≤ m := fun x m h k => by
    cases k with
    | zero => exact h
    | succ k => simp
  have hx := Execute_any (line ++ [10]) 1 [line] [out] w ht hm (by simp; omega) (spl_line h10) rfl (by omega) (hgo _ _ (by omega)) (hgo _ _ ho) (fun k hk W b hW hbl => by
    obtain rfl : k = 0 := by omega
    simp only [List.getD_cons_zero] at hbl ⊢
    exact h W b hW hbl)
  refine hx.mono fun e w' ⟨he, hb⟩ => ⟨?_, hb⟩
  rw [he]
  exact ret_str (congrArg bs lines1)

theorem sp_chars (j : Nat) (h : j ≤ 24) : 32 ∉ spT (j : Int) ∧ 10 ∉ spT (j : Int) ∧ 1 ≤ (spT (j : Int)).length ∧ (spT (j : Int)).length ≤ 4 := by
  have h1 : ∀ j : Fin 25, 32 ∉ spT (j.1 : Int) ∧ 10 ∉ spT (j.1 : Int) ∧ 1 ≤ (spT (j.1 : Int)).length ∧ (spT (j.1 : Int)).length ≤ 4 := by decide +kernel
  exact h1 ⟨j, by omega⟩
theorem sp_inj {i j : Nat} (hi : i ≤ 24) (hj : j ≤ 24) (h : spT (i : Int) = spT (j : Int)) : i = j := by
  have h1 : ∀ i j : Fin 25, spT (i.1 : Int) = spT (j.1 : Int) → i = j := by decide +kernel
  have := h1 ⟨i, by omega⟩ ⟨j, by omega⟩ h
  injection this
theorem tm_chars {t : T2} (hv : tvB t = true) : 32 ∉ tmT t ∧ 10 ∉ tmT t ∧ tmF (tmT t) = (t, true) := by
  have hb := tvB_iff.1 hv
  obtain ⟨s, l⟩ := t
  obtain ⟨s, rfl⟩ := Int.eq_ofNat_of_zero_le hb.1.1
  obtain ⟨l, rfl⟩ := Int.eq_ofNat_of_zero_le hb.2.1
  have h : ∀ s l : Fin 9, 32 ∉ tmT ((s.1 : Int), (l.1 : Int)) ∧ 10 ∉ tmT ((s.1 : Int), (l.1 : Int)) ∧ tmF (tmT ((s.1 : Int), (l.1 : Int))) = (((s.1 : Int), (l.1 : Int)), true) := by decide +kernel
  have h8 := hb.1.2; have h9 := hb.2.2; simp at h8 h9
  exact h ⟨s, by omega⟩ ⟨l, by omega⟩
theorem lvF_text {t : T2} {j : Int} (h : lvB t j = true) : lvF (l1T t j) = ((t, j), true) ∧ 32 ∉ l1T t j ∧ 10 ∉ l1T t j ∧ (l1T t j).length ≤ 6 := by
  have h1 := lvB_iff.1 h
  have hm := lvB_mem.1 h
  obtain ⟨c1, c2, c3⟩ := tm_chars h1.1
  have hj := (triB_iff.1 h1.2).1.2.2
  obtain ⟨k, rfl⟩ := Int.eq_ofNat_of_zero_le hj.1
  obtain ⟨d1, d2, d3, d4⟩ := sp_chars k (by omega)
  have htl := tmT_len h1.1
  have e1 : (l1T t (k : Int)).take 2 = tmT t := by unfold l1T; rw [List.take_append_of_le_length (by omega), List.take_of_length_le (by omega)]
  have e2 : (l1T t (k : Int)).drop 2 = spT (k : Int) := by unfold l1T; rw [List.drop_append_of_le_length (by omega), List.drop_of_length_le (by omega), List.nil_append]
  have e3 : (l1T t (k : Int)).length = 2 + (spT (k : Int)).length := by unfold l1T; rw [List.length_append, htl]
  refine ⟨?_, ?_, ?_, by omega⟩
  · unfold lvF
    rw [e1, e2, c3, if_pos ⟨by omega, rfl⟩]
    have : lvJ t (spT (k : Int)) = some (k : Int) := by
      unfold lvJ
      have hx : ((lvJs t).find? fun j => decide (spT j = spT (k : Int))) ≠ none := by
        intro hn
        have := List.find?_eq_none.1 hn (k : Int) hm
        simp at this
      cases hq : (lvJs t).find? fun j => decide (spT j = spT (k : Int)) with
      | none => exact absurd hq hx
      | some i =>
        have h2 := List.find?_some hq
        have h3 := List.mem_of_find?_eq_some hq
        have h4 := lv_ok h1.1 h3
        obtain ⟨i, rfl⟩ := Int.eq_ofNat_of_zero_le h4.1
        have := sp_inj (by have := h4.2.1; omega) (by omega) (of_decide_eq_true h2)
        rw [this]
    simp only [this]
  · unfold l1T; simp [c1, d1]
  · unfold l1T; simp [c2, d2]
end

end Go.Proofs.YtjdfbnlaiiknpaaGreatDoor
