/- The program's list of all microstates. -/
import Derived.Test.YtjglgcgkmfbdpaaDoorMi1
import Derived.Test.YtjglgcgkmfbdpaaDoorDraw2
namespace Go.Proofs.YtjglgcgkmfbdpaaDoor
open Go.RowKit

theorem elSums : ElemOk Tryd.prog 44 39 2 16 := elemOk Tryd.underlying44 (z := .agg #[.int .i64 0, .int .i64 0]) (by kernel_rfl) rfl (by omega)
/-- The sums over the bits of x that are no longer in r. -/
def oF (l : Int) (x r : Nat) : Int := ((hsum x : Int) - hsum r) - l * ((pop x : Int) - pop r)
def sF (x r : Nat) : Int := 2 * ((rsum x : Int) - rsum r) - ((pop x : Int) - pop r)
theorem oF_self (l : Int) (x : Nat) : oF l x x = 0 := by unfold oF; simp
theorem sF_self (x : Nat) : sF x x = 0 := by unfold sF; simp
theorem oF_zero (l : Int) (x : Nat) : oF l x 0 = (msum l x).1 := by
  obtain ⟨h1, h2, _⟩ := sums_zero
  unfold oF msum; rw [h1, h2]; simp
theorem sF_zero (x : Nat) : sF x 0 = (msum 0 x).2 := by
  obtain ⟨h1, _, h3⟩ := sums_zero
  unfold sF msum; rw [h1, h3]; simp
theorem F_step (l : Int) {x r : Nat} (h0 : 0 < r) (hr : r < 1024) : (r &&& (r - 1)) < r ∧ tzb r < 10 ∧ oF l x (r &&& (r - 1)) = oF l x r + ((tzb r : Int) / 2 - l) ∧ sF x (r &&& (r - 1)) = sF x r + ((tzb r : Int) % 2 * 2 - 1) := by
  obtain ⟨h1, h2, h3, h4, h5⟩ := low_step ⟨r, hr⟩ (by simp; omega)
  simp only at h1 h2 h3 h4 h5
  refine ⟨h1, h2, ?_, ?_⟩
  · unfold oF
    rw [h3, h4]
    have e : l * ((pop x : Int) - ((pop (r &&& (r - 1)) + 1 : Nat) : Int)) = l * ((pop x : Int) - (pop (r &&& (r - 1)) : Int)) - l := by
      rw [show ((pop x : Int) - ((pop (r &&& (r - 1)) + 1 : Nat) : Int)) = ((pop x : Int) - (pop (r &&& (r - 1)) : Int)) + (-1) by omega, Int.mul_add]; omega
    omega
  · unfold sF
    omega
theorem F_bd {l : Int} (hl : 0 ≤ l ∧ l ≤ 2) {x r : Nat} (hx : x < 1024) (hr : r < 1024) : (-100 ≤ oF l x r ∧ oF l x r ≤ 100) ∧ (-100 ≤ sF x r ∧ sF x r ≤ 100) := by
  obtain ⟨a1, a2, a3⟩ := pop_le ⟨x, hx⟩
  obtain ⟨b1, b2, b3⟩ := pop_le ⟨r, hr⟩
  simp only at a1 a2 a3 b1 b2 b3
  unfold oF sF
  have h : l = 0 ∨ l = 1 ∨ l = 2 := by omega
  rcases h with rfl | rfl | rfl <;> omega
theorem and_low : ∀ r : Nat, r < 1024 → 0 < r → bits BinOp.and IntKind.u64 (r : Int) ((r : Int) - 1) = ((r &&& (r - 1) : Nat) : Int) := by decide +kernel
theorem tz_lt {r : Nat} (h0 : 0 < r) (hr : r < 1024) : tzb r < 10 := (F_step 0 (x := 0) h0 hr).2.1

def MsPost (l n : Nat) (w : World) (e : Ending) (w' : World) : Prop :=
  ∃ (A : Option Addr) (c m : Nat), e = .returned (.slice A m c) ∧ m ≤ c ∧ (lit l n).length = m ∧ Reads w' w'.heap.size 2 A m (tcells (lit l n)) ∧ Below w.heap.size w w'

set_option maxHeartbeats 4000000 in
set_option maxRecDepth 100000 in
theorem microstates_any (l n : Nat) (hl : l ≤ 2) (hn : n ≤ capL l) (w : World) (ht : Dbt w) :
    Calls Tryd.prog 17 #[.int .i64 (l : Int), .int .i64 (n : Int)] w (MsPost l n w) := by
  have HT := Lib.hid (fun W (hB : Below w.heap.size w W) => ht.on hB); clear ht
  have HCAP := Lib.hid (fun W => capacity_any (l : Int) (by omega) (by omega) W)
  have hn' : n ≤ 10 := by unfold capL at hn; omega
  have HSH : Hid (IntKind.u64.wrap (2 ^ (4 * l + 2)) = ((2 ^ capL l : Nat) : Int)) := by
    have h : l = 0 ∨ l = 1 ∨ l = 2 := by omega
    rcases h with rfl | rfl | rfl <;> (unfold Hid; decide +kernel)
  have hK : 2 ^ capL l ≤ 1024 := by
    have h : l = 0 ∨ l = 1 ∨ l = 2 := by omega
    rcases h with rfl | rfl | rfl <;> decide
  have HLIT := Lib.hid (lit_eq hl hn)
  generalize 2 ^ capL l = K at *
  have hB0 := Below.refl w.heap.size w
  have hO0 := World.ownsRow_nil w w.heap.size 39 2
  have HO0 := Lib.hid hO0; clear hO0
  have HB0 := Lib.hid hB0; clear hB0
  have hshl := HSH.out
  clear hn
  go_enter Tryd.func17, Tryd.ntmps17
  go_wp2_with fail
  refine (HCAP.out _).mono ?_
  rintro e w1 ⟨rfl, rfl⟩
  go_wp2_with fail
  clear hshl
  rw [HSH.out]
  go_loopw [5, 13] (fun v i wr => ∃ (x m : Nat) (A : Option Addr) (c : Nat), x ≤ K ∧ i = .int .u64 x ∧ v = .slice A m c ∧ m ≤ c ∧ m ≤ x ∧ Hid ((mst (l : Int) n x).length = m) ∧ Hid (wr.ownsRow w.heap.size 39 2 (.slice A m c) m (tcells (mst (l : Int) n x))) ∧ Hid (Below w.heap.size w wr)) (fun _ i _ => K - (RowKit.intOf i).toNat)
  case atStart => exact ⟨0, 0, _, _, Nat.zero_le _, rfl, rfl, Nat.le_refl _, Nat.le_refl _, rfl, HO0.out, HB0.out⟩
  case round =>
    clear HO0 HB0
    obtain ⟨wo, rfl⟩ : ∃ wo : World, wo = wr := ⟨_, rfl⟩
    obtain ⟨x, m, A, c, hx, rfl, rfl, hmc, hmx, HL, HW, HB⟩ := hrel
    by_cases hlt : x < K
    · have hx1 : x < 1024 := by omega
      have i1 : (x : Int) < (K : Int) := by omega
      have HON := Lib.hid (fun W => ones_any x hx1 W)
      by_cases hp : pop x = n
      · have HSN := Lib.hid (mst_succ_yes (l := (l : Int)) hp)
        have HO1 := Lib.hid (oF_self (l : Int) x)
        have HS1 := Lib.hid (sF_self x)
        have HOZ := Lib.hid (oF_zero (l : Int) x)
        have HSZ := Lib.hid (sF_zero x)
        subst hp
        have e1 : ((pop x : Int) != (pop x : Int)) = false := by simp
        have HBK := Lib.hid (Blk.new wo 39 #[.int .i64 (oF (l : Int) x x), .int .i64 (sF x x)])
        rw [HO1.out, HS1.out] at HBK
        have hsz := HB.out.size
        have HWA := Lib.hid (HW.out.alloc (.cells #[.int .i64 0, .int .i64 0] 39))
        go_wp2_with fail
        refine (HON.out _).mono ?_
        rintro e w1 ⟨rfl, rfl⟩
        go_wp2_with fail
        clear e1
        go_loopw [8] (fun v wr => ∃ r : Nat, r < 1024 ∧ v = .int .u64 r ∧ Hid (Blk wr wo.heap.size 39 #[.int .i64 (oF (l : Int) x r), .int .i64 (sF x r)]) ∧ Hid (World.grownBy (wo.alloc (.cells #[.int .i64 0, .int .i64 0] 39)) wr (some wo.heap.size))) (fun v _ => (RowKit.intOf v).toNat)
        case atStart => exact ⟨x, hx1, rfl, by rw [HO1.out, HS1.out]; exact HBK.out, gb_refl _ _⟩
        case round =>
          clear HBK HO1 HS1
          obtain ⟨r, hr, rfl, HQ, HG⟩ := hrel
          by_cases hr0 : 0 < r
          · obtain ⟨f1, f2, f3, f4⟩ := F_step (l : Int) (x := x) hr0 hr
            have HN := Lib.hid f3
            have HN2 := Lib.hid f4
            have bF := F_bd (l := (l : Int)) (by omega) hx1 hr
            have hal := and_low r hr hr0
            have HTZ := Lib.hid (fun W hW => tz_any r hr0 hr W hW)
            have HBW : Hid (Below w.heap.size w wr) := Lib.hid ((HB.out.alloc HB.out.size (.cells #[.int .i64 0, .int .i64 0] 39)).grown HG.out (by simp; omega) (fun k e => by cases e; exact hsz))
            have HDB := Lib.hid (HT.out wr HBW.out)
            obtain ⟨c0, c1, z0, z1⟩ := blk2 HQ.out
            have HQ2 := Lib.hid ((HQ.out.set 0 (.int .i64 (oF (l : Int) x (r &&& (r - 1))))).set 1 (.int .i64 (sF x (r &&& (r - 1)))))
            have HG2 := Lib.hid (gb_setCell (p := ⟨wo.heap.size, 1, none⟩) (gb_setCell (p := ⟨wo.heap.size, 0, none⟩) HG.out (.inl rfl) (.int .i64 (oF (l : Int) x (r &&& (r - 1))))) (.inl rfl) (.int .i64 (sF x (r &&& (r - 1)))))
            rw [f3, f4] at HQ2 HG2
            clear f3 f4
            have e2 : ((r : Int) != 0) = true := by simp; omega
            have hr1 : (r &&& (r - 1)) < 1024 := by omega
            have HLT := Lib.hid f1; clear f1
            generalize (r &&& (r - 1)) = r2 at *
            generalize tzb r = t at *
            have HO3 := Lib.hid (show oF (l : Int) x r2 = oF (l : Int) x r2 from rfl)
            generalize oF (l : Int) x r = O at *
            generalize sF x r = S at *
            go_wp2_with fail
            refine (HTZ.out _ HDB.out).mono ?_
            rintro e w2 ⟨rfl, rfl⟩
            go_wp2_with fail
            go_roundw
            case rel => exact ⟨r2, hr1, by go_num, by rw [HN.out, HN2.out]; exact HQ2.out, HG2.out⟩
            case measure => have := HLT.out; simp [RowKit.intOf]; omega
          · obtain rfl : r = 0 := by omega
            rw [HOZ.out, HSZ.out] at HQ
            have HM2 := Lib.hid (show (msum 0 x).2 = (msum (l : Int) x).2 from rfl)
            rw [HM2.out] at HQ
            have HWR := Lib.hid (HWA.out.kept HG.out (by
              cases hv : (Value.slice A m c).ownBlock with
              | none => exact .inl rfl
              | some k => exact .inr (by have := (HW.out.lt k hv).2; simp; omega)))
            have HBW : Hid (Below w.heap.size w wr) := Lib.hid ((HB.out.alloc HB.out.size (.cells #[.int .i64 0, .int .i64 0] 39)).grown HG.out (by simp; omega) (fun k e => by cases e; exact hsz))
            obtain ⟨c0, c1, z0, z1⟩ := blk2 HQ.out
            have HSC := Lib.hid (congrArg tcells HSN.out)
            rw [tcells_snoc] at HSC
            have HLN : Hid ((mst (l : Int) (pop x) (x + 1)).length = m + 1) := by unfold Hid; rw [HSN.out, List.length_append, HL.out]; rfl
            generalize (msum (l : Int) x).1 = O at *
            generalize (msum (l : Int) x).2 = S at *
            have hsw := HBW.out.size
            clear HOZ HSZ
            go_wp2_with (at_builtin; refine wpList_app1 _ rfl (.tmp 45) (.tmp 47) _ rfl w.heap.size 39 2 16 elSums A c m _ rfl (HWR.out.alloc _) wr.heap.size #[.int .i64 O, .int .i64 S] rfl (Blk.new wr _ _) rfl ?h1 (by omega) (by omega) (by simp; omega) ?_)
            case h1 => exact ⟨rfl, rfl⟩
            intro A' c' w5 hown5 hc5 hb5
            have HW5 : Hid (w5.ownsRow w.heap.size 39 2 (.slice A' (m + 1) c') (m + 1) (tcells (mst (l : Int) (pop x) (x + 1)))) := by unfold Hid; rw [HSC.out]; exact hown5
            have HB5 := Lib.hid ((HBW.out.alloc hsw (.cells #[.int .i64 O, .int .i64 S] 39)).trans hb5)
            clear hown5 hb5
            go_wp2_with fail
            go_roundw
            case rel => exact ⟨x + 1, m + 1, A', c', by omega, by go_num, rfl, hc5, by omega, HLN.out, HW5.out, HB5.out⟩
            case measure => simp [RowKit.intOf]; omega
      · have HSN := Lib.hid (mst_succ_no (l := (l : Int)) hp)
        have e1 : ((pop x : Int) != (n : Int)) = true := by simp; omega
        clear hp
        generalize pop x = px at *
        go_wp2_with fail
        refine (HON.out _).mono ?_
        rintro e w1 ⟨rfl, rfl⟩
        go_wp2_with fail
        go_roundw
        case rel => exact ⟨x + 1, m, A, c, by omega, by go_num, rfl, hmc, by omega, by rw [HSN.out]; exact HL.out, by rw [HSN.out]; exact HW.out, HB.out⟩
        case measure => simp [RowKit.intOf]; omega
    · obtain rfl : x = K := by omega
      rw [HLIT.out] at HW HL
      have HR := Lib.hid (own_reads HW.out)
      go_wp2_with fail
      go_ret
      exact ⟨A, c, m, rfl, hmc, HL.out, HR.out, HB.out⟩
end Go.Proofs.YtjglgcgkmfbdpaaDoor
