/- The text of a rational; a level is read out of any text. -/
import Derived.Test.YtgmhdgfokljggaaGreatDoorFa3
import Derived.Test.YtgmhdgfokljggaaGreatDoorLt1
namespace Go.Proofs.YtgmhdgfokljggaaGreatDoor
open Go.RowKit
attribute [local go_sem ↓] Go.wp_at_zero Go.wp_at_succ

theorem itoaZ_any (n : Int) (w : World) (ht : Tab w) (h0 : -1000000000 ≤ n) (h1 : n ≤ 1000000000) : Calls Tryz.prog 51 #[.int .i64 n] w fun e w' => e = .returned (.string (bs (Lib.itoa n))) ∧ Below w.heap.size w w' :=
  (Tryz.strconv_Itoa n (by omega) (by omega) w ht.here).mono fun _ _ ⟨he, k, os, hw⟩ => ⟨he, by rw [hw]; exact below_grow' w k os⟩
theorem itoa_len {n : Int} (h0 : -1000000000 ≤ n) (h1 : n ≤ 1000000000) : (Lib.itoa n).length ≤ 11 := by
  unfold Lib.itoa
  split
  · have := dig_len 9 n.natAbs (by omega)
    simp only [List.length_cons]; omega
  · have := dig_len 9 n.toNat (by omega)
    omega
def ratT (a : T2) : List UInt8 := if rvB a = true then (if a.2 = 1 then Lib.itoa a.1 else Lib.itoa a.1 ++ [47] ++ Lib.itoa a.2) else []
theorem ratT_len (a : T2) : (ratT a).length ≤ 23 := by
  unfold ratT
  split
  · rename_i h
    have hb := rvB_bd (a := a.1) (b := a.2) h
    have h1 := itoa_len (n := a.1) (by omega) (by omega)
    have h2 := itoa_len (n := a.2) (by omega) (by omega)
    split
    · omega
    · simp only [List.length_append, List.length_cons, List.length_nil]; omega
  · simp

set_option maxHeartbeats 2000000 in
theorem implRatText_any (a b : Int) (w : World) (ht : Tab w) :
    Calls Tryz.prog 25 #[.agg #[.int .i64 a, .int .i64 b]] w fun e w' => e = .returned (.string (bs (ratT (a, b)))) ∧ Below w.heap.size w w' := by
  have HV := Lib.hid (fun W => implRatValid_any a b W)
  have HB := Lib.hid (bel_alloc (Below.refl w.heap.size w) (.cells #[.int .i64 a, .int .i64 b] 45))
  have HX := Lib.hid (Blk.new w 45 #[.int .i64 a, .int .i64 b])
  have HT := Lib.hid (fun W (hb : Below w.heap.size w W) => ht.on hb); clear ht
  cases hv : rvB (a, b)
  · have he : ratT (a, b) = [] := by unfold ratT; rw [hv]; simp
    rw [he, bs_nil]; rw [hv] at HV; clear hv he
    go_enter Tryz.func25, Tryz.ntmps25
    go_wp2_with fail
    refine (HV.out _).mono ?_
    rintro e w1 ⟨rfl, hb1⟩
    have HB1 := Lib.hid (bel_sub HB.out hb1); clear hb1
    go_wp2_with fail
    go_ret
    exact ⟨rfl, HB1.out⟩
  have hbd := rvB_bd hv
  rw [hv] at HV
  by_cases h1 : b = 1
  · have he : ratT (a, b) = Lib.itoa a := by unfold ratT; rw [hv, if_pos rfl, if_pos h1]
    rw [he]; clear hv he
    subst h1
    have HI := Lib.hid (fun W (hW : Tab W) => itoaZ_any a W hW (by omega) (by omega))
    go_enter Tryz.func25, Tryz.ntmps25
    go_wp2_with fail
    refine (HV.out _).mono ?_
    rintro e w1 ⟨rfl, hb1⟩
    have HB1 := Lib.hid (bel_sub HB.out hb1)
    obtain ⟨x1, x2, _, _⟩ := blk2 (HX.out.sub hb1); clear hb1
    go_wp2_with fail
    refine (HI.out _ (HT.out _ HB1.out)).mono ?_
    rintro e w2 ⟨rfl, hb2⟩
    have HB2 := Lib.hid (bel_sub HB1.out hb2); clear hb2
    go_wp2_with fail
    go_ret
    exact ⟨rfl, HB2.out⟩
  · have he : ratT (a, b) = Lib.itoa a ++ [47] ++ Lib.itoa b := by unfold ratT; rw [hv, if_pos rfl, if_neg h1]
    rw [he, ← bs_append, ← bs_append]; clear hv he
    have e1 : (b == 1) = false := by simpa using h1
    have HI := Lib.hid (fun n W (hW : Tab W) h0 h1 => itoaZ_any n W hW h0 h1)
    have hz1 : (bs (Lib.itoa a)).size ≤ 11 := by rw [bs_size]; exact itoa_len (by omega) (by omega)
    have hz2 : (bs (Lib.itoa b)).size ≤ 11 := by rw [bs_size]; exact itoa_len (by omega) (by omega)
    have hs47 : bs [47] = ⟨#[47]⟩ := rfl
    rw [hs47]; clear hs47
    go_enter Tryz.func25, Tryz.ntmps25
    go_wp2_with fail
    refine (HV.out _).mono ?_
    rintro e w1 ⟨rfl, hb1⟩
    have HB1 := Lib.hid (bel_sub HB.out hb1)
    obtain ⟨x1, x2, _, _⟩ := blk2 (HX.out.sub hb1); clear hb1
    have k1 := After.cell x1
    have k2 := After.cell x2
    have HTA := Lib.hid (fun p : After w1 => HT.out p.w' (bel_sub HB1.out p.below))
    go_wp2_with fail
    refine wp_region_after (by kernel_rfl) (by kernel_rfl) ?_
    repeat (go_big_quiet_step ((go_at_call 51; exact after_call _ (HI.out _ _ (HTA.out _) (by omega) (by omega)))))
    refine wpQuiet_nil ?_
    intro w9 hw'
    obtain ⟨⟨w9', hb9⟩, hw''⟩ := hw'
    subst hw''
    have HB9 := Lib.hid (bel_sub HB1.out hb9); clear hb9
    go_wp2_with fail
    go_ret
    exact ⟨rfl, HB9.out⟩
end Go.Proofs.YtgmhdgfokljggaaGreatDoor
