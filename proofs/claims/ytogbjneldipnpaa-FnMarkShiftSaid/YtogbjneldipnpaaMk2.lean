/- The number at a position. -/
import Derived.Test.YtogbjneldipnpaaMk1
import Derived.Test.YtogbjneldipnpaaSearch
import Derived.Shelf.Abstract
namespace Go.Proofs.Ytogbjneldipnpaa
open Go.RowKit
attribute [local go_sem ↓] Go.wp_at_zero Go.wp_at_succ

theorem at_bound {ms : List T2} (hm : MV ms) {k i : Nat} {x : Int} (h : At ms k x) (hi : i < ms.length) : decide (x < gp ms i) = decide (k + 1 ≤ i) := by
  apply decide_eq_decide.2
  constructor
  · intro h1
    rcases Nat.lt_or_ge k i with h2 | h2
    · exact h2
    · have := h.2.1
      rcases Nat.lt_or_ge i k with h3 | h3
      · have := (hm i k h3 h.1).1; omega
      · obtain rfl : i = k := by omega
        omega
  · intro h1
    have h2 := h.2.2 (by omega)
    rcases Nat.lt_or_ge (k + 1) i with h3 | h3
    · have := (hm (k + 1) i h3 hi).1; omega
    · obtain rfl : k + 1 = i := by omega
      exact h2
/-- The interpolation and its parts are small. -/
theorem ip_parts {a b c d x : Int} (h1 : 0 ≤ a) (h2 : a ≤ x) (h3 : x < c) (h4 : c ≤ 100000) (h5 : 0 ≤ b) (h6 : b < d) (h7 : d ≤ 200000) :
    0 ≤ (x - a) * (d - b) ∧ (x - a) * (d - b) ≤ 20000000000 ∧ 0 ≤ (x - a) * (d - b) / (c - a) ∧ (x - a) * (d - b) / (c - a) ≤ 200000 := by
  have e1 : 0 ≤ (x - a) * (d - b) := Int.mul_nonneg (by omega) (by omega)
  have e2 : (x - a) * (d - b) ≤ 100000 * 200000 := Int.mul_le_mul (by omega) (by omega) (by omega) (by omega)
  have e3 := ip_hi (a := a) (b := b) (d := d) h3 (by omega) h6
  unfold ip at e3
  have e4 := Int.ediv_nonneg e1 (show 0 ≤ c - a by omega)
  exact ⟨e1, by omega, e4, by omega⟩

theorem newPlate_any (v : Value) (A : Option Addr) (n c : Nat) (w : World) (hv : v = .slice A n c) :
    Calls Try.prog 32 #[v] w fun e w' => e = .returned (.pointer (some ⟨w.heap.size, 0, none⟩)) ∧ w' = w.alloc (.cells #[v] 55) := by
  subst hv
  go_enter Try.func32, Try.ntmps32
  go_wp2_with fail
  go_ret
  exact ⟨rfl, rfl⟩

set_option maxHeartbeats 1000000 in
theorem number1_any (G D1 D2 : Nat) (A : Option Addr) (n c : Nat) (ms : List T2) (x : Int) (i : Nat) (w : World) (hi : i < n) (hn : n ≤ 1000000)
    (c1 : w.cell? ⟨D1, 0, none⟩ = some (.pointer (some ⟨G, 0, none⟩))) (c2 : w.cell? ⟨D2, 0, none⟩ = some (.int .i64 x)) (c3 : w.cell? ⟨G, 0, none⟩ = some (.slice A n c)) (hr : Reads w w.heap.size 2 A n (tcells ms)) :
    Calls Try.prog 40 (#[.int .i64 i] ++ #[.pointer (some ⟨D1, 0, none⟩), .pointer (some ⟨D2, 0, none⟩)]) w fun e w' => e = .returned (.bool (decide (x < gp ms i))) ∧ Below w.heap.size w w' := by
  obtain ⟨b, off, rfl, hb, h1, _⟩ := hr.mark hi
  clear hr
  have hB0 := Below.refl w.heap.size w
  have i1 : (0 : Int) ≤ (i : Int) := by omega
  have i2 : (i : Int) < (n : Int) := by omega
  generalize gp ms i = y at *
  go_enter Try.func40, Try.ntmps40
  go_wp2_with fail
  go_quiet (fail)
  go_wp2_with fail
  go_ret
  exact ⟨rfl, below_drewN hB0 _⟩

theorem enters40 : ∀ args w, (callFunc 40 args).run Try.prog w = .ok (.enter 40 args) w :=
  enters_of Try.func40 (by kernel_rfl) rfl

/-- What a call of the plate's number needs of the memory. -/
def Plate (w : World) (G : Nat) (n : Nat) (ms : List T2) : Prop := ∃ A c, w.cell? ⟨G, 0, none⟩ = some (.slice A n c) ∧ G < w.heap.size ∧ Reads w w.heap.size 2 A n (tcells ms)
theorem Plate.below {w w' : World} {G n : Nat} {ms : List T2} (h : Plate w G n ms) (hb : Below w.heap.size w w') : Plate w' G n ms := by
  obtain ⟨A, c, h1, h2, h3⟩ := h
  exact ⟨A, c, (hb.cell h2).trans h1, Nat.lt_of_lt_of_le h2 hb.size, (h3.below hb).more hb.size⟩

set_option maxHeartbeats 2000000 in
theorem number_any (G n : Nat) (ms : List T2) (x : Int) (w : World) (hts : ms.length = n) (hp : Plate w G n ms) (hv : mvB ms = true) (hx0 : gp ms 0 ≤ x) (hx1 : x ≤ gp ms (n - 1)) :
    Calls Try.prog 33 #[.pointer (some ⟨G, 0, none⟩), .int .i64 x] w fun e w' => e = .returned (.int .i64 (numF ms x)) ∧ Below w.heap.size w w' := by
  obtain ⟨A, c, h1, h2, hr⟩ := hp
  have hnn := (mvB_iff.1 hv).1
  rw [hts] at hnn
  have hm := mvB_rises hv
  have ha := at_some (by omega) hx0
  rw [numF_at hm ha hx0]
  generalize kA ms x (ms.length - 1) = k at ha
  obtain ⟨N, hN⟩ : ∃ N, numI ms k x = N := ⟨_, rfl⟩
  rw [hN]
  have HN := Lib.hid hN; clear hN
  have hk := ha.1
  rw [hts] at hk
  have HA := Lib.hid (fun i (hi : i < n) => at_bound hm ha (i := i) (by omega))
  have hbk := mvB_bd hv (k := k) (by omega)
  have hR := fun W (hB : Below w.heap.size w W) => (hr.below hB).more hB.size
  have HR := Lib.hid hR; clear hR
  obtain ⟨b, off, rfl, hb, r1, r2⟩ := hr.mark hk
  have HB1 := Lib.hid (((Below.refl w.heap.size w).alloc (Nat.le_refl _) (.cells #[.pointer (some ⟨G, 0, none⟩)] 44)).alloc (by simp) (.cells #[.int .i64 x] 3))
  have HD1 := Lib.hid ((Blk.new w 44 #[.pointer (some ⟨G, 0, none⟩)]).alloc (.cells #[.int .i64 x] 3))
  have HD2 := Lib.hid (Blk.new (w.alloc (.cells #[.pointer (some ⟨G, 0, none⟩)] 44)) 3 #[.int .i64 x])
  have hs1 : ((w.alloc (.cells #[.pointer (some ⟨G, 0, none⟩)] 44)).alloc (.cells #[.int .i64 x] 3)).heap.size = w.heap.size + 2 := by simp
  go_enter Try.func33, Try.ntmps33
  go_wp2_with fail
  refine (search_any 40 _ n (k + 1) _ enters40 (by omega) (by omega) ?hf).mono ?_
  case hf =>
    intro i W hi hB
    have hBW := HB1.out.trans (hB.mono HB1.out.size)
    refine (number1_any G w.heap.size (w.heap.size + 1) _ n c ms x i W hi (by omega) (blk1 (HD1.out.sub hB)).1 (by have := (blk1 (HD2.out.sub hB)).1; rwa [World.size_alloc] at this) ((hBW.cell h2).trans h1) (HR.out W hBW)).mono ?_
    rintro e w1 ⟨rfl, hb1⟩
    exact ⟨by rw [HA.out i hi], hb1⟩
  rintro e w1 ⟨rfl, hb1⟩
  have d1 := (blk1 (HD1.out.sub hb1)).1
  have d2 : w1.cell? ⟨w.heap.size + 1, 0, none⟩ = some (.int .i64 x) := by have := (blk1 (HD2.out.sub hb1)).1; rwa [World.size_alloc] at this
  have HB2 := Lib.hid (HB1.out.trans (hb1.mono HB1.out.size))
  replace h1 := (HB2.out.cell h2).trans h1
  replace r1 := (HB2.out.cell (p := ⟨b, off + k * 2, none⟩) hb).trans r1
  replace r2 := (HB2.out.cell (p := ⟨b, off + k * 2 + 1, none⟩) hb).trans r2
  have i1 : IntKind.i64.wrap (((k + 1 : Nat) : Int) - 1) = (k : Int) := (IntWalk.i64_in _ (by omega)).trans (by omega)
  have hs2 := hb1.size
  rw [hs1] at hs2
  clear hs1
  have hG1 : G < w1.heap.size := by omega
  have hG2 : w.heap.size < w1.heap.size := by omega
  have hG3 : w.heap.size + 1 < w1.heap.size := by omega
  have hb1' : b < w1.heap.size := by omega
  clear hb1 HD1 HD2 HB1 HA hr
  have ha0 := ha.2.1
  by_cases hkn : k + 1 = n
  · have hg : numI ms k x = gn ms k := by unfold numI; rw [if_neg (by omega)]
    replace HN := Lib.hid (HN.out.symm.trans hg); clear hg
    have hq : ((k : Int) + 1 == (n : Int)) = true := by simp; omega
    clear hkn
    generalize gp ms k = a at *
    generalize gn ms k = g at *
    go_wp2_with fail
    go_ret
    exact ⟨ret_int HN.out.symm, HB2.out.alloc HB2.out.size _⟩
  · have hg : numI ms k x = ip (gp ms k) (gn ms k) (gp ms (k + 1)) (gn ms (k + 1)) x := by unfold numI; rw [if_pos (by omega)]
    replace HN := Lib.hid (HN.out.symm.trans hg); clear hg
    have hbk2 := mvB_bd hv (k := k + 1) (by omega)
    have ha1 := ha.2.2 (by omega)
    have hmm := hm k (k + 1) (by omega) (by omega)
    obtain ⟨b', off', e', hb', s1, s2⟩ := (HR.out w1 HB2.out).mark (show k + 1 < n by omega)
    cases e'
    generalize gp ms k = a at *
    generalize gn ms k = g at *
    generalize gp ms (k + 1) = a2 at *
    generalize gn ms (k + 1) = g2 at *
    obtain ⟨p1, p2, p3, p4⟩ := ip_parts (a := a) (b := g) (c := a2) (d := g2) (x := x) (by omega) (by omega) (by omega) (by omega) (by omega) (by omega) (by omega)
    unfold ip at HN
    go_wp2_with fail
    have HB3 := Lib.hid ((HB2.out.alloc HB2.out.size (.cells #[.int .i64 a, .int .i64 g] 34)).alloc (by simp; omega) (.cells #[.int .i64 a2, .int .i64 g2] 34))
    obtain ⟨y1, y2, _, _⟩ := blk2 ((Blk.new w1 34 #[.int .i64 a, .int .i64 g]).alloc (.cells #[.int .i64 a2, .int .i64 g2] 34))
    have hz := blk2 (Blk.new (w1.alloc (.cells #[.int .i64 a, .int .i64 g] 34)) 34 #[.int .i64 a2, .int .i64 g2])
    rw [World.size_alloc] at hz
    obtain ⟨z1, z2, _, _⟩ := hz
    have d3 := cell_past (.cells #[.int .i64 a2, .int .i64 g2] 34) (cell_past (.cells #[.int .i64 a, .int .i64 g] 34) d2)
    have u1 : IntKind.i64.wrap (x - a) = x - a := IntWalk.i64_in _ (by omega)
    have u2 : IntKind.i64.wrap (g2 - g) = g2 - g := IntWalk.i64_in _ (by omega)
    have u3 : IntKind.i64.wrap ((x - a) * (g2 - g)) = (x - a) * (g2 - g) := IntWalk.i64_in _ (by omega)
    have u4 : IntKind.i64.wrap (a2 - a) = a2 - a := IntWalk.i64_in _ (by omega)
    have u5 : IntKind.i64.wrap (((x - a) * (g2 - g)).tdiv (a2 - a)) = (x - a) * (g2 - g) / (a2 - a) := IntWalk.i64_quo _ _ (by omega)
    have u6 : IntKind.i64.wrap (g + (x - a) * (g2 - g) / (a2 - a)) = g + (x - a) * (g2 - g) / (a2 - a) := IntWalk.i64_in _ (by omega)
    have u7 : ¬ (a2 - a = 0) := by omega
    clear r1 r2 s1 s2 d1 d2 h1
    go_quiet (fail)
    clear u1 u2 u3 u4 u5 u6
    go_wp2_with fail
    go_ret
    exact ⟨ret_int HN.out.symm, below_drewN HB3.out _⟩
end Go.Proofs.Ytogbjneldipnpaa
