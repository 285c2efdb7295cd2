/- Draws of marks. -/
import Derived.Test.YtogbjneldipnpaaMk1
namespace Go.Proofs.Ytogbjneldipnpaa
open Go.RowKit
attribute [local go_sem ↓] Go.wp_at_zero Go.wp_at_succ

theorem elMark : ElemOk Try.prog 26 34 2 16 := elemOk Try.underlying26 (z := .agg #[.int .i64 0, .int .i64 0]) (by kernel_rfl) rfl (by omega)
/-- A mark that was drawn. -/
def DrM (t : T2) : Prop := (0 ≤ t.1 ∧ t.1 ≤ 100001) ∧ (0 ≤ t.2 ∧ t.2 ≤ 2000)
/-- The list that was drawn, in memory of its own. -/
def LstM (w : World) (base : Nat) (A : Option Addr) (n c : Nat) (ms : List T2) : Prop :=
  n ≤ c ∧ ms.length = n ∧ 1 ≤ n ∧ n ≤ 5 ∧ (∀ t ∈ ms, DrM t) ∧ Reads w w.heap.size 2 A n (tcells ms) ∧ ∀ a, A = some a → base ≤ a.block
theorem LstM.gb {w w' : World} {base R n c : Nat} {A : Option Addr} {ms : List T2} (h : LstM w base A n c ms) (hg : w.grownBy w' (some R)) (hR : R < base) : LstM w' base A n c ms := by
  obtain ⟨h1, h2, h3, h4, h5, h6, h7⟩ := h
  refine ⟨h1, h2, h3, h4, h5, ⟨h6.1, fun hn => ?_⟩, h7⟩
  obtain ⟨b, off, rfl, hb, hc⟩ := h6.2 hn
  have := h7 _ rfl
  exact ⟨b, off, rfl, Nat.lt_of_lt_of_le hb hg.size, fun j u hu => (World.cell?_of_block (hg.block b hb (by simp; simp at this; omega))).trans (hc j u hu)⟩
theorem LstM.below {w w' : World} {base n c : Nat} {A : Option Addr} {ms : List T2} (h : LstM w base A n c ms) (hb : Below w.heap.size w w') : LstM w' base A n c ms := by
  obtain ⟨h1, h2, h3, h4, h5, h6, h7⟩ := h
  exact ⟨h1, h2, h3, h4, h5, (h6.below hb).more hb.size, h7⟩
theorem own_blk {w : World} {base : Nat} {e : TypeId} {size n c : Nat} {A : Option Addr} {xs : List Value} (h : w.ownsRow base e size (.slice A n c) n xs) (hn : 0 < n) :
    ∃ g cur, A = some ⟨g, 0, none⟩ ∧ base ≤ g ∧ Blk w g e cur ∧ Filled cur xs := by
  have hr := own_reads h
  rcases h.2 with ⟨hv, h0⟩ | ⟨g, cap, cur, hv, hb, hh, _⟩
  · omega
  · have hA : A = some ⟨g, 0, none⟩ := by injection hv
    subst hA
    obtain ⟨b, off, e1, _, hc⟩ := hr.2 hn
    cases e1
    refine ⟨g, cur, rfl, hb, hh, fun j u hu => ?_⟩
    have := hc j u hu
    rw [Nat.zero_add] at this
    rw [← this]
    exact (Blk.cell (t := e) hh j).symm
theorem Filled.set {cs : Array Value} {vs : List Value} (h : Filled cs vs) (j : Nat) (u : Value) : Filled (cs.setIfInBounds j u) (vs.set j u) := by
  intro i x hx
  rw [Array.getElem?_setIfInBounds]
  rw [List.getElem?_set] at hx
  by_cases hij : j = i
  · subst hij
    rw [if_pos rfl] at hx ⊢
    split at hx
    · have hl : j < vs.length := by assumption
      have := h j _ (List.getElem?_eq_getElem hl)
      have hs : j < cs.size := by
        rcases Nat.lt_or_ge j cs.size with h1 | h1
        · exact h1
        · rw [Array.getElem?_eq_none h1] at this; cases this
      rw [if_pos hs]; exact hx
    · cases hx
  · rw [if_neg hij] at hx ⊢
    exact h i x hx
theorem tcells_set2 (ms : List T2) (k : Nat) (y : Int) : tcells (ms.set k (gp ms k, y)) = (tcells ms).set (k * 2 + 1) (.int .i64 y) := by
  induction ms generalizing k with
  | nil => simp [tcells]
  | cons t ms ih =>
    cases k with
    | zero => simp [tcells, gp]
    | succ k =>
      have := ih k
      simp only [tcells, gp] at this
      simp only [tcells, List.set_cons_succ, List.flatMap_cons, gp, List.getElem?_cons_succ, this]
      rw [show (k + 1) * 2 + 1 = (k * 2 + 1) + 2 by omega]
      simp
theorem tcells_set1 (ms : List T2) (k : Nat) (x : Int) : tcells (ms.set k (x, gn ms k)) = (tcells ms).set (k * 2) (.int .i64 x) := by
  induction ms generalizing k with
  | nil => simp [tcells]
  | cons t ms ih =>
    cases k with
    | zero => simp [tcells, gn]
    | succ k =>
      have := ih k
      simp only [tcells, gn] at this
      simp only [tcells, List.set_cons_succ, List.flatMap_cons, gn, List.getElem?_cons_succ, this]
      rw [show (k + 1) * 2 = k * 2 + 2 by omega]
      simp
theorem DrM.of {ms : List T2} (h : ∀ t ∈ ms, DrM t) {k : Nat} (hk : k < ms.length) : (0 ≤ gp ms k ∧ gp ms k ≤ 100001) ∧ (0 ≤ gn ms k ∧ gn ms k ≤ 2000) := by
  have := h _ (List.getElem_mem hk)
  simpa [gp, gn, List.getElem?_eq_getElem hk, DrM] using this
theorem lstM_own {w : World} {base n c : Nat} {A : Option Addr} {ms : List T2} {e : TypeId} (hc : n ≤ c) (hl : ms.length = n) (h1 : 1 ≤ n) (h5 : n ≤ 5) (hd : ∀ t ∈ ms, DrM t) (h : w.ownsRow base e 2 (.slice A n c) n (tcells ms)) : LstM w base A n c ms :=
  ⟨hc, hl, h1, h5, hd, own_reads h, fun a ha => by
    obtain ⟨g, cur, rfl, hb, _⟩ := own_blk h (by omega)
    cases ha; exact hb⟩

def MarksPost (T : TypeId) (w : World) (B R N : Nat) (e : Ending) (w' : World) : Prop :=
  ∃ A c n ms, e = .returned (.slice A n c) ∧ LstM w' w.heap.size A n c ms ∧ Rd T w' B R N ∧ w.grownBy w' (some R)

set_option maxHeartbeats 2000000 in
theorem l93Marks_any (B R N : Nat) (w : World) (hN : N ≤ 800000) (hR : Rd 57 w B R N) :
    Calls Try.prog 36 #[.pointer (some ⟨R, 0, none⟩)] w (MarksPost 57 w B R (N + 14)) := by
  have hlt := hR.lt
  have hle := hR.le
  have HR0 := Lib.hid (hR.alloc (.cells #[] 34))
  clear hR
  go_enter Try.func36, Try.ntmps36
  go_wp2_with fail
  refine (pick_any B R N 4 _ (by omega) (by omega) (by omega) HR0.out).mono ?_
  rintro e w1 ⟨m, rfl, hv1, hR1, hg1⟩
  have b1 := hv1.lt (by omega)
  have HO := Lib.hid (own_gb (own_empty w 34 2) hg1 hlt)
  have HR1 := Lib.hid hR1; clear hR1 hv1
  have HG := Lib.hid (gb_trans (gb_alloc (gb_refl w _) _) hg1); clear hg1 HR0
  obtain ⟨m, rfl⟩ := Int.eq_ofNat_of_zero_le b1.1
  go_wp2_with fail
  refine (pick_any B R (N + 1) 50 _ (by omega) (by omega) (by omega) HR1.out).mono ?_
  rintro e w2 ⟨p0, rfl, hv2, hR2, hg2⟩
  have b2 := hv2.lt (by omega)
  replace HO := Lib.hid (own_gb HO.out hg2 hlt)
  have HR2 := Lib.hid hR2; clear hR2 hv2
  replace HG := Lib.hid (gb_trans HG.out hg2); clear hg2 HR1
  go_wp2_with fail
  refine (pick_any B R (N + 2) 200 _ (by omega) (by omega) (by omega) HR2.out).mono ?_
  rintro e w3 ⟨q0, rfl, hv3, hR3, hg3⟩
  have b3 := hv3.lt (by omega)
  replace HO := Lib.hid (own_gb HO.out hg3 hlt)
  have HR3 := Lib.hid hR3; clear hR3 hv3
  replace HG := Lib.hid (gb_trans HG.out hg3); clear hg3 HR2
  go_wp2_with fail
  go_loopw [3, 5, 6, 7] (fun v p q i wr => ∃ (k : Nat) (A : Option Addr) (c : Nat) (ms : List T2) (x y : Int), k ≤ m + 2 ∧ i = .int .i64 k ∧ v = .slice A k c ∧ p = .int .i64 x ∧ q = .int .i64 y ∧ (0 ≤ x ∧ x ≤ 50 + 60 * k) ∧ (0 ≤ y ∧ y ≤ 1000 + 90 * k) ∧ k ≤ c ∧ ms.length = k ∧ (∀ t ∈ ms, DrM t) ∧ wr.ownsRow w.heap.size 34 2 (.slice A k c) k (tcells ms) ∧ Rd 57 wr B R (N + 3 + k * 2) ∧ w.grownBy wr (some R)) (fun _ _ _ i _ => m + 2 - (intOf i).toNat)
  case atStart => exact ⟨0, _, _, [], p0, q0 * 5, Nat.zero_le _, rfl, rfl, rfl, rfl, by omega, by omega, Nat.le_refl _, rfl, by simp, HO.out, HR3.out, HG.out⟩
  case round =>
    clear b2 b3 HO HR3 HG
    obtain ⟨k, A, c, ms, x, y, hk, rfl, rfl, rfl, rfl, hx, hy, hkc, hts, hdr, hown, hRr, hgr⟩ := hrel
    have HW := Lib.hid hown; clear hown
    have HRR := Lib.hid hRr; clear hRr
    have HGR := Lib.hid hgr; clear hgr
    have HT := Lib.hid hts; clear hts
    have HDR := Lib.hid hdr; clear hdr
    by_cases hkm : k < m + 2
    · have s3 := HGR.out.size
      go_wp2_with (at_builtin; refine wpList_app1 _ rfl (.tmp 22) (.tmp 26) _ rfl w.heap.size 34 2 16 elMark A c k (tcells ms) rfl (HW.out.alloc _) wr.heap.size #[.int .i64 x, .int .i64 y] rfl (Blk.new wr _ _) rfl ?h1 (by omega) (by omega) (by simp; omega) ?_)
      case h1 => exact ⟨rfl, rfl⟩
      intro A' c' w4 hown4 hc4 hb4
      have HW4 := Lib.hid hown4; clear hown4
      have HR4 := Lib.hid ((HRR.out.alloc (.cells #[.int .i64 x, .int .i64 y] 34)).sub hb4 hlt)
      have HG4 := Lib.hid (gb_base (gb_alloc HGR.out (.cells #[.int .i64 x, .int .i64 y] 34)) hb4)
      clear hb4 HRR HGR HW
      go_wp2_with fail
      refine (pick_any B R _ 60 _ (by omega) (by omega) (by omega) HR4.out).mono ?_
      rintro e w5 ⟨d1, rfl, hv5, hR5, hg5⟩
      have b5 := hv5.lt (by omega)
      replace HW4 := Lib.hid (own_gb HW4.out hg5 hlt)
      have HR5 := Lib.hid hR5; clear hR5 hv5
      replace HG4 := Lib.hid (gb_trans HG4.out hg5); clear hg5 HR4
      go_wp2_with fail
      refine (pick_any B R _ 90 _ (by omega) (by omega) (by omega) HR5.out).mono ?_
      rintro e w6 ⟨d2, rfl, hv6, hR6, hg6⟩
      have b6 := hv6.lt (by omega)
      replace HW4 := Lib.hid (own_gb HW4.out hg6 hlt)
      have HR6 := Lib.hid hR6; clear hR6 hv6
      replace HG4 := Lib.hid (gb_trans HG4.out hg6); clear hg6 HR5
      go_wp2_with fail
      go_roundw
      case rel =>
        refine ⟨k + 1, A', c', ms ++ [(x, y)], x + 1 + d1, y + 1 + d2, by omega, by go_num, rfl, rfl, rfl, by omega, by omega, hc4, by simp [HT.out], ?_, ?_, HR6.out.more (by omega), HG4.out⟩
        · intro t ht
          simp only [List.mem_append, List.mem_singleton] at ht
          rcases ht with ht | rfl
          · exact HDR.out t ht
          · exact ⟨⟨hx.1, by simp only; omega⟩, ⟨hy.1, by simp only; omega⟩⟩
        · rw [tcells_snoc]; exact HW4.out
      case measure => simp [intOf]; omega
    · obtain rfl : k = m + 2 := by omega
      go_wp2_with fail
      refine (pick_any B R _ 30 _ (by omega) (by omega) (by omega) HRR.out).mono ?_
      rintro e w4 ⟨s, rfl, hv4, hR4, hg4⟩
      replace HW := Lib.hid (own_gb HW.out hg4 hlt)
      have HR4 := Lib.hid (hR4.more (N' := N + 14) (by omega)); clear hR4 hv4
      replace HGR := Lib.hid (gb_trans HGR.out hg4); clear hg4 HRR
      obtain ⟨g, cur, rfl, hg, hblk, hfl⟩ := own_blk HW.out (by omega)
      have HF := Lib.hid hfl; clear hfl
      have HBK := Lib.hid hblk; clear hblk
      have HL : Hid (LstM w4 w.heap.size (some ⟨g, 0, none⟩) (m + 2) c ms) := lstM_own hkc HT.out (by omega) (by omega) HDR.out HW.out
      have hdm := fun k hk => DrM.of HDR.out (k := k) hk
      have hd0 := hdm 0 (by rw [HT.out]; omega)
      have hd1 := hdm 1 (by rw [HT.out]; omega)
      have hdl := hdm (1 + m) (by rw [HT.out]; omega)
      clear hdm
      by_cases c0 : s = 0
      · subst c0
        go_wp2_with fail
        go_ret
        obtain ⟨_, _, _, _, _, h6, h7⟩ := HL.out
        refine ⟨_, c, 1, ms.take 1, rfl, ⟨by omega, by rw [List.length_take, HT.out]; omega, by omega, by omega, fun t ht => HDR.out t (List.mem_of_mem_take ht), ?_, h7⟩, HR4.out, HGR.out⟩
        rw [tcells_take]
        exact h6.take (by omega)
      by_cases c1 : s = 1
      · subst c1
        obtain ⟨_, _, _, _, _, h6, h7⟩ := HL.out
        obtain ⟨b', off', e', hb', k1, k2⟩ := h6.mark (show 0 < m + 2 by omega)
        cases e'
        obtain ⟨b', off', e', hb', k3, k4⟩ := h6.mark (show 1 < m + 2 by omega)
        cases e'
        simp only [Nat.zero_mul, Nat.zero_add, Nat.one_mul, Nat.reduceAdd] at k1 k2 k3 k4
        have f4 := HBK.out.frozen 3
        have HN : Hid (LstM (w4.setCell ⟨g, 3, none⟩ (.int .i64 (gn ms 0))) w.heap.size (some ⟨g, 0, none⟩) (m + 2) c (ms.set 1 (gp ms 1, gn ms 0))) := by
          refine ⟨hkc, by simp [HT.out], by omega, by omega, fun t ht => ?_, ?_, h7⟩
          · rcases List.mem_or_eq_of_mem_set ht with h | rfl
            · exact HDR.out t h
            · exact ⟨hd1.1, hd0.2⟩
          · rw [tcells_set2]
            exact (HF.out.set 3 _).reads (HBK.out.set 3 _) (by rw [List.length_set]; exact h6.1)
        clear h6 h7
        generalize gn ms 0 = y0 at *
        go_wp2_with fail
        go_ret
        exact ⟨_, c, m + 2, _, rfl, HN.out, HR4.out.setCell (by show B ≤ g; omega) (by show g ≠ R; omega) _, gb_setCell HGR.out (.inr hg) _⟩
      by_cases c2 : s = 2
      · subst c2
        obtain ⟨_, _, _, _, _, h6, h7⟩ := HL.out
        obtain ⟨b', off', e', hb', k1, k2⟩ := h6.mark (show 1 + m < m + 2 by omega)
        cases e'
        simp only [Nat.zero_add] at k1 k2
        have f4 := HBK.out.frozen ((1 + m) * 2)
        have HN : Hid (LstM (w4.setCell ⟨g, (1 + m) * 2, none⟩ (.int .i64 100001)) w.heap.size (some ⟨g, 0, none⟩) (m + 2) c (ms.set (1 + m) (100001, gn ms (1 + m)))) := by
          refine ⟨hkc, by simp [HT.out], by omega, by omega, fun t ht => ?_, ?_, h7⟩
          · rcases List.mem_or_eq_of_mem_set ht with h | rfl
            · exact HDR.out t h
            · exact ⟨by simp, hdl.2⟩
          · rw [tcells_set1]
            exact (HF.out.set _ _).reads (HBK.out.set _ _) (by rw [List.length_set]; exact h6.1)
        clear h6 h7
        generalize gp ms (1 + m) = y0 at *
        go_wp2_with fail
        go_ret
        exact ⟨_, c, m + 2, _, rfl, HN.out, HR4.out.setCell (by show B ≤ g; omega) (by show g ≠ R; omega) _, gb_setCell HGR.out (.inr hg) _⟩
      · have d0 : (s == 0) = false := by simpa using c0
        have d1 : (s == 1) = false := by simpa using c1
        have d2 : (s == 2) = false := by simpa using c2
        go_wp2_with fail
        go_ret
        exact ⟨_, c, m + 2, ms, rfl, HL.out, HR4.out, HGR.out⟩
end Go.Proofs.Ytogbjneldipnpaa
