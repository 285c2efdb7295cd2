/- A script whose lines are all answered. -/
import Derived.Test.YtgmhdgfokljggaaGreatDoorEx2
import Derived.Test.YtgmhdgfokljggaaGreatDoorBu
namespace Go.Proofs.YtgmhdgfokljggaaGreatDoor
open Go.RowKit Go.Lib
attribute [local go_sem ↓] Go.wp_at_zero Go.wp_at_succ

def outP (outs : List (List UInt8)) : Nat → List UInt8
  | 0 => []
  | k + 1 => outP outs k ++ (outs.getD k [] ++ [10])
theorem outP_len (outs : List (List UInt8)) (h : ∀ k, (outs.getD k []).length ≤ 10000) : ∀ k, (outP outs k).length ≤ 10001 * k := by
  intro k
  induction k with
  | zero => simp [outP]
  | succ k ih => have := h k; simp only [outP, List.length_append, List.length_cons, List.length_nil]; omega
def linesT : List UInt8 := [108, 105, 110, 101, 115, 32]
def outT (outs : List (List UInt8)) (n : Nat) : List UInt8 := outP outs n ++ linesT ++ decDigits n ++ [10]
theorem head_slice (b n : Nat) (hn1 : n ≤ 1000) (w : World) : (Instr.slice 78 (.slice (some ⟨b, 0, none⟩) (n + 1) (n + 1)) none (some (.int .i64 (n : Int))) none).run Tryz.prog w = .ok (.slice (some ⟨b, 0, none⟩) n (n + 1)) w := by
  have hs : (sizeOf (Tryz.prog.elem 78)).run Tryz.prog w = .ok 1 w := by kernel_rfl
  rw [run_slice_h w 78 _ (n + 1) (n + 1) (show Tryz.prog.underlying 78 = some (.slice (Tryz.prog.elem 78)) by kernel_rfl) .i64 n (by omega) (by omega), hs]
  simp [sliced, Addr.add]

set_option maxHeartbeats 4000000 in
set_option maxRecDepth 100000 in
theorem Execute_any (l : List UInt8) (n : Nat) (lines outs : List (List UInt8)) (w : World) (ht : Tab w) (hm : Mx w) (hlen : l.length ≤ 600) (hspl : spl 10 l = lines ++ [[]]) (hn : lines.length = n) (hn6 : n ≤ 600) (hll : ∀ k, (lines.getD k []).length ≤ 600)
    (hol : ∀ k, (outs.getD k []).length ≤ 10000)
    (HA : ∀ k, k < n → ∀ (W : World) (b : Nat), Below w.heap.size w W → Blk W b 9 (wcs (spl 32 (lines.getD k []))) →
      Calls Tryz.prog 49 #[.slice (some ⟨b, 0, none⟩) (spl 32 (lines.getD k [])).length (spl 32 (lines.getD k [])).length] W fun e w' => e = .returned (.string (bs (outs.getD k []))) ∧ Below W.heap.size W w') :
    Calls Tryz.prog 14 #[.string (bs l)] w fun e w' => e = .returned (.string (bs (outT outs n))) ∧ Below w.heap.size w w' := by
  have HSP := Lib.hid (split_any l 10 w hm (by omega))
  rw [hspl] at HSP
  have hll1 : (lines ++ [[]]).length = n + 1 := by rw [List.length_append, hn]; rfl
  rw [hll1] at HSP
  have HM := Lib.hid (fun W (hB : Below w.heap.size w W) => hm.on hB)
  have HTab := Lib.hid (fun W (hB : Below w.heap.size w W) => ht.on hB)
  have HANS := Lib.hid HA
  have HLL := Lib.hid hll; have HOL := Lib.hid hol
  have HOP := Lib.hid (outP_len outs hol)
  have hsz : (bs l).size ≤ 600 := by rw [bs_size]; exact hlen
  obtain ⟨LV, hLV⟩ : ∃ LV : Array Value, ((lines ++ [[]]).map fun x => Value.string (bs x)).toArray = LV := ⟨_, rfl⟩
  rw [hLV] at HSP
  have HLV : Hid (∀ k, k < n → LV[k]? = some (.string (bs (lines.getD k [])))) := fun k hk => by
    rw [← hLV]
    have : k < lines.length := by omega
    simp [List.getD, this, List.getElem?_append_left]
  have hal : Below w.heap.size w (w.alloc (.cells LV 9)) := (Below.refl _ _).alloc (Nat.le_refl _) _
  have HAL := Lib.hid hal
  have HBL := Lib.hid (Blk.new w 9 LV)
  clear hspl hll1 ht hm HA hll hol hLV hal hn hlen
  obtain ⟨L, hL⟩ : ∃ L, bs l = L := ⟨_, rfl⟩
  rw [hL] at hsz HSP ⊢
  clear hL
  have hsl := head_slice w.heap.size n (by omega)
  have hsl' := Lib.hid hsl; clear hsl
  go_enter Tryz.func14, Tryz.ntmps14
  go_wp2_with fail
  refine HSP.out.mono ?_
  rintro e w1 ⟨rfl, rfl⟩
  have hs1 := hsl'.out (w.alloc (.cells LV 9))
  have HBD := Lib.hid (HAL.out.alloc HAL.out.size (.cells #[.pointer none, .slice none 0 0] 82))
  have HU0 := Lib.hid (builder_new (w := w.alloc (.cells LV 9)) (B := w.heap.size + 1) (by simp))
  rw [World.size_alloc] at HU0
  have HBL0 := Lib.hid (HBL.out.alloc (.cells #[.pointer none, .slice none 0 0] 82))
  have hz0 : w.heap.size + 1 ≤ ((w.alloc (.cells LV 9)).alloc (.cells #[.pointer none, .slice none 0 0] 82)).heap.size := by simp
  have HZ0 := Lib.hid hz0; clear hz0
  go_wp2_with fail
  obtain ⟨D, hD⟩ : ∃ D, w.heap.size + 1 = D := ⟨_, rfl⟩
  rw [hD] at HU0 HZ0 ⊢
  have HD := Lib.hid hD; clear hD
  go_loopw [19] (fun i wr => ∃ k : Nat, k ≤ n ∧ i = .int .i64 k ∧ Hid (Below w.heap.size w wr) ∧ Hid (Blk wr w.heap.size 9 LV) ∧ Hid (Lib.IsBuilderF 82 5 D D (Lib.byteCells (outP outs k)) wr) ∧ Hid (D ≤ wr.heap.size)) (fun i _ => n - (RowKit.intOf i).toNat)
  case atStart => exact ⟨0, Nat.zero_le _, rfl, HBD.out, HBL0.out, HU0.out, HZ0.out⟩
  case round =>
    clear HBD HBL0 HU0 HZ0 hs1
    obtain ⟨k, hk, rfl, HB, HBK, HU, HZ⟩ := hrel
    by_cases hlt : k < n
    · have c0 : wr.cell? ⟨w.heap.size, k, none⟩ = some (.string (bs (lines.getD k []))) := (HBK.out.cell k).trans (HLV.out k hlt)
      have i1 : (k : Int) < (n : Int) := by omega
      have i0 : (0 : Int) ≤ (k : Int) := by omega
      have h60 := HLL.out k
      have h10 := HOL.out k
      have hop := HOP.out k
      have HSW := Lib.hid (split_any (lines.getD k []) 32 wr (HM.out wr HB.out) (by omega))
      have HBW := Lib.hid (Blk.new wr 9 (wcs (spl 32 (lines.getD k []))))
      have HB1 := Lib.hid (HB.out.alloc HB.out.size (.cells (wcs (spl 32 (lines.getD k []))) 9))
      have HBK1 := Lib.hid (HBK.out.alloc (.cells (wcs (spl 32 (lines.getD k []))) 9))
      have HU1 := Lib.hid (builder_below HU.out ((Below.refl _ wr).alloc (Nat.le_refl _) (.cells (wcs (spl 32 (lines.getD k []))) 9)))
      have HAN := Lib.hid (HANS.out k hlt (wr.alloc (.cells (wcs (spl 32 (lines.getD k []))) 9)) wr.heap.size HB1.out HBW.out)
      have HOS : Hid (outP outs (k + 1) = outP outs k ++ (outs.getD k [] ++ [10])) := rfl
      have HSJ : Hid (bs (outs.getD k []) ++ ⟨#[10]⟩ = bs (outs.getD k [] ++ [10])) := bs_append _ [10]
      have hz4 : (outs.getD k [] ++ [10]).length ≤ 10001 := by rw [List.length_append]; simpa using h10
      have hos : (bs (outs.getD k [])).size ≤ 10000 := by rw [bs_size]; exact h10
      obtain ⟨q, hq⟩ : ∃ q, outs.getD k [] ++ [10] = q := ⟨_, rfl⟩
      rw [hq] at HOS HSJ hz4
      clear hq h10 HBW
      change Hid (Calls Tryz.prog 47 _ wr fun e w' => e = .returned (.slice (some ⟨wr.heap.size, 0, none⟩) (spl 32 (lines.getD k [])).length (spl 32 (lines.getD k [])).length) ∧ w' = wr.alloc (.cells (wcs (spl 32 (lines.getD k []))) 9)) at HSW
      generalize (spl 32 (lines.getD k [])).length = m at *
      generalize wcs (spl 32 (lines.getD k [])) = WV at *
      generalize bs (lines.getD k []) = LK at *
      generalize bs (outs.getD k []) = OK at *
      go_wp2_with fail
      refine HSW.out.mono ?_
      rintro e w2 ⟨rfl, rfl⟩
      go_wp2_with fail
      refine HAN.out.mono ?_
      rintro e w3 ⟨rfl, hb3⟩
      have HB3 := Lib.hid (HB1.out.trans (hb3.mono HB1.out.size))
      have HBK3 := Lib.hid (HBK1.out.sub hb3)
      have HU3 := Lib.hid (builder_below HU1.out hb3)
      have HZ3 : Hid (D ≤ w3.heap.size) := Nat.le_trans HZ.out (Nat.le_trans (by simp) hb3.size)
      clear hb3 HAN HSW
      go_wp2_with fail
      rw [HSJ.out]
      refine (writeString_any D D (outP outs k) q w3 HU3.out (by omega) HZ3.out).mono ?_
      rintro e w4 ⟨rfl, hu4, hb4⟩
      have HB4 := Lib.hid (HB3.out.trans (hb4.mono (by have := HD.out; omega)))
      have HBK4 := Lib.hid (HBK3.out.below hb4 (by have := HD.out; omega))
      have HU4 : Hid (Lib.IsBuilderF 82 5 D D (Lib.byteCells (outP outs (k + 1))) w4) := by unfold Hid; rw [HOS.out]; exact hu4
      have HZ4 := Lib.hid (Nat.le_trans HZ3.out hb4.size)
      clear hu4 hb4
      go_wp2_with fail
      go_roundw
      case rel => exact ⟨k + 1, by omega, by go_num, HB4.out, HBK4.out, HU4.out, HZ4.out⟩
      case measure => (simp [RowKit.intOf] <;> omega)
    · obtain rfl : k = n := by omega
      have hop := HOP.out k
      rw [← bs_size] at hop
      have hdd : (decDigits k).length ≤ 7 := dig_len7 (by omega)
      rw [← bs_size] at hdd
      have HOT : Hid (bs (outT outs k) = bs (outP outs k) ++ ⟨#[108, 105, 110, 101, 115, 32]⟩ ++ bs (decDigits k) ++ ⟨#[10]⟩) := by
        unfold Hid outT
        rw [← bs_append, ← bs_append, ← bs_append]; rfl
      go_wp2_with fail
      refine (Tryz.Builder_String_any_f D D _ wr HU.out HZ.out).mono ?_
      rintro e w3 ⟨rfl, _, hb3⟩
      have HB3 := Lib.hid (HB.out.trans (hb3.mono (by have := HD.out; omega))); clear hb3
      have HIT := Lib.hid (itoa_any k (by omega) w3 (HTab.out _ HB3.out))
      obtain ⟨S, hS⟩ : ∃ S, bs (outP outs k) = S := ⟨_, rfl⟩
      obtain ⟨DD, hDD⟩ : ∃ DD, bs (decDigits k) = DD := ⟨_, rfl⟩
      rw [show ({ data := (outP outs k).toArray } : ByteArray) = S from hS]
      rw [hS] at hop HOT
      rw [hDD] at hdd HOT HIT
      have HS := Lib.hid hS; clear hS hDD
      have hop2 : S.size ≤ 6000600 := by omega
      clear hop
      go_wp2_with fail
      refine HIT.out.mono ?_
      rintro e w4 ⟨rfl, hb4⟩
      have HB4 := Lib.hid (HB3.out.trans (hb4.mono HB3.out.size)); clear hb4
      go_wp2_with fail
      go_ret
      exact ⟨ret_str HOT.out.symm, HB4.out⟩
end Go.Proofs.YtgmhdgfokljggaaGreatDoor
