/- The request of a factor; a drawn level. -/
import Derived.Test.YtgmhdgfokljggaaGreatDoorFa5
import Derived.Test.YtgmhdgfokljggaaGreatDoorLt4
namespace Go.Proofs.YtgmhdgfokljggaaGreatDoor
open Go.RowKit
attribute [local go_sem ↓] Go.wp_at_zero Go.wp_at_succ

def rqFac (s : List UInt8) : List UInt8 × Bool := (ratT (facR (lvF s).1.1 (lvF s).1.2).1, (lvF s).2 && (facR (lvF s).1.1 (lvF s).1.2).2)
set_option maxHeartbeats 4000000 in
theorem reqFactor_any (s : List UInt8) (b : Nat) (w : World) (hs : s.length ≤ 1000000) (hb : b < w.heap.size) (hA : w.cell? ⟨b, 1, none⟩ = some (.string (bs s))) (hE : Ers w) (ht : Tab w) :
    Calls Tryz.prog 155 #[.agg #[.slice (some ⟨b, 1, none⟩) 1 1]] w fun e w' => e = .returned (.tuple #[.string (bs (rqFac s).1), .bool (rqFac s).2]) ∧ Below w.heap.size w w' := by
  have HLF := Lib.hid (fun W => LevelFrom_all s W hs)
  unfold rqFac
  simp only
  obtain ⟨r, hr⟩ : ∃ r, lvF s = r := ⟨_, rfl⟩
  rw [hr] at HLF ⊢
  clear hr
  obtain ⟨⟨⟨p, q⟩, j⟩, ok⟩ := r
  unfold lvV at HLF
  simp only at HLF ⊢
  have HFF := Lib.hid (fun W (hW : Ers W) => FactorOf_any (p, q) j W hW)
  obtain ⟨f, hf⟩ : ∃ f, facR (p, q) j = f := ⟨_, rfl⟩
  rw [hf] at HFF ⊢
  rw [okV_form] at HFF
  clear hf
  obtain ⟨⟨x, y⟩, fk⟩ := f
  simp only at HFF ⊢
  have HRT := Lib.hid (fun W (hW : Tab W) => implRatText_any x y W hW)
  have HA := Lib.hid hA; clear hA
  have HE := Lib.hid (fun W (hb : Below w.heap.size w W) => hE.on hb); clear hE
  have HTb := Lib.hid (fun W (hb : Below w.heap.size w W) => ht.on hb); clear ht
  generalize bs s = X at *
  generalize bs (ratT (x, y)) = Y at *
  have HB0 := Lib.hid (bel_alloc (Below.refl w.heap.size w) (.cells #[.slice (some ⟨b, 1, none⟩) 1 1] 145))
  have HQ0 := Lib.hid (Blk.new w 145 #[.slice (some ⟨b, 1, none⟩) 1 1])
  go_enter Tryz.func155, Tryz.ntmps155
  go_wp2_with fail
  refine (exactly_any _ 1 1 _).mono ?_
  rintro e w1 ⟨rfl, hb1⟩
  have HB1 := Lib.hid (bel_sub HB0.out hb1)
  have c0 : w1.cell? ⟨w.heap.size, 0, none⟩ = some (.slice (some ⟨b, 1, none⟩) 1 1) := (HQ0.out.sub hb1).cell 0
  have hA := (HB1.out.cell (p := ⟨b, 1, none⟩) hb).trans HA.out
  clear hb1 HB0 HQ0
  go_wp2_with fail
  refine (HLF.out _).mono ?_
  rintro e w2 ⟨rfl, hb2⟩
  have HB2 := Lib.hid (bel_alloc (bel_sub HB1.out hb2) (.cells #[.int .i64 p, .int .i64 q, .int .i64 j] 31))
  clear hb2 c0 hA HB1
  go_wp2_with fail
  refine (HFF.out _ (HE.out _ HB2.out)).mono ?_
  rintro e w3 ⟨rfl, hb3⟩
  have HB3 := Lib.hid (bel_alloc (bel_sub HB2.out hb3) (.cells #[.int .i64 x, .int .i64 y] 45))
  clear hb3 HB2
  go_wp2_with fail
  refine (HRT.out _ (HTb.out _ HB3.out)).mono ?_
  rintro e w4 ⟨rfl, hb4⟩
  have HB4 := Lib.hid (bel_sub HB3.out hb4)
  clear hb4 HB3
  cases ok
  · go_wp2_with fail
    go_ret2
    exact ⟨rfl, HB4.out⟩
  · go_wp2_with fail
    go_ret2
    exact ⟨rfl, HB4.out⟩
end Go.Proofs.YtgmhdgfokljggaaGreatDoor
