/- Draws of terms. -/
import Derived.Test.YtnljibgjfobkbaaDoorTm1
import Derived.Test.YtnljibgjfobkbaaDoorOpen
import Derived.Test.YtnljibgjfobkbaaDoorWords2
namespace Go.Proofs.YtnljibgjfobkbaaDoor
open Go.RowKit
attribute [local go_sem ↓] Go.wp_at_zero Go.wp_at_succ

def trm (t : T2) : Value := .agg #[.int .i64 t.1, .int .i64 t.2]
def Drawn (t : T2) : Prop := -1 ≤ t.1 ∧ t.1 ≤ 9 ∧ -1 ≤ t.2 ∧ t.2 ≤ 9
def TermPost (T : TypeId) (w : World) (B R N : Nat) (e : Ending) (w' : World) : Prop :=
  ∃ t : T2, e = .returned (trm t) ∧ Drawn t ∧ Rd T w' B R N ∧ w.grownBy w' (some R)

set_option maxHeartbeats 2000000 in
theorem l92Term_any (B R N : Nat) (w : World) (hN : N ≤ 900000) (hR : Rd 85 w B R N) :
    Calls Tryd.prog 57 #[.pointer (some ⟨R, 0, none⟩)] w (TermPost 85 w B R (N + 4)) := by
  have hlt := hR.lt
  have hle := hR.le
  have HR0 := Lib.hid (hR.alloc (.cells #[.int .i64 0, .int .i64 0] 45))
  clear hR
  go_enter Tryd.func57, Tryd.ntmps57
  go_wp2_with fail
  refine (pick_any B R N 5 _ (by omega) (by omega) (by omega) HR0.out).mono ?_
  rintro e w1 ⟨v1, rfl, hv1, hR1, hg1⟩
  have b1 := hv1.lt (by omega)
  have s1 := hg1.size
  simp at s1
  have HD := Lib.hid ((Blk.new w _ _).gb hg1 (by omega))
  have HR1 := Lib.hid hR1; clear hR1
  have HG := Lib.hid (gb_trans (gb_alloc (gb_refl w _) _) hg1); clear hg1
  go_wp2_with fail
  refine (pick_any B R (N + 1) 5 _ (by omega) (by omega) (by omega) HR1.out).mono ?_
  rintro e w2 ⟨v2, rfl, hv2, hR2, hg2⟩
  have b2 := hv2.lt (by omega)
  have s2 := hg2.size
  replace HD := Lib.hid ((HD.out.gb hg2 (by omega)).alloc (.cells #[.int .i64 v1, .int .i64 v2] 45))
  have HR2 := Lib.hid (hR2.alloc (.cells #[.int .i64 v1, .int .i64 v2] 45)); clear hR2
  replace HG := Lib.hid (gb_alloc (gb_trans HG.out hg2) (.cells #[.int .i64 v1, .int .i64 v2] 45)); clear hg2 HR1
  have HE := Lib.hid (Blk.new w2 45 #[.int .i64 v1, .int .i64 v2])
  go_wp2_with fail
  refine (pick_any B R (N + 2) 30 _ (by omega) (by omega) (by omega) HR2.out).mono ?_
  rintro e w3 ⟨v3, rfl, hv3, hR3, hg3⟩
  have s3 := hg3.size
  simp at s3
  replace HD := Lib.hid (HD.out.gb hg3 (by omega))
  replace HE := Lib.hid (HE.out.gb hg3 (by omega))
  have HR3 := Lib.hid hR3; clear hR3
  have q1 : ¬ w2.heap.size = w.heap.size := by omega
  have q2 : ¬ w.heap.size = w2.heap.size := by omega
  replace HG := Lib.hid (gb_trans HG.out hg3); clear hg3 HR2
  by_cases c0 : v3 = 0
  · subst c0
    go_wp2_with fail
    refine (pick_any B R (N + 3) 3 _ (by omega) (by omega) (by omega) (HR3.out.alloc _)).mono ?_
    rintro e w4 ⟨v4, rfl, hv4, hR4, hg4⟩
    have b4 := hv4.lt (by omega)
    have s4 := hg4.size
    simp at s4
    have HL := Lib.hid ((Blk.new w3 _ _).gb hg4 (by omega))
    replace HD := Lib.hid ((HD.out.alloc _).gb hg4 (by omega))
    replace HE := Lib.hid ((HE.out.alloc _).gb hg4 (by omega))
    have HR4 := Lib.hid hR4; clear hR4
    replace HG := Lib.hid (gb_trans (gb_alloc HG.out _) hg4); clear hg4 HR3
    obtain ⟨x1, x2, x3, x4⟩ := blk2 HD.out
    obtain ⟨y1, y2, y3, y4⟩ := blk2 HE.out
    obtain ⟨z1, z2, z3, _⟩ := blk3 HL.out
    have hcases : v4 = 0 ∨ v4 = 1 ∨ v4 = 2 := by omega
    rcases hcases with rfl | rfl | rfl
    all_goals
      go_wp2_with fail
      refine bodyPost_ret (by simp [results, Tryd.results57, go_sem, x1, x2]; rfl) rfl ?_
      refine ⟨(_, _), rfl, ⟨by simp, by simp, by simp; omega, by simp; omega⟩, ?_, ?_⟩
      · exact ((HR4.out.setCell (by show B ≤ w2.heap.size; omega) (by show w2.heap.size ≠ R; omega) _).setCell (by show B ≤ w.heap.size; omega) (by show w.heap.size ≠ R; omega) _).setCell (by show B ≤ w.heap.size; omega) (by show w.heap.size ≠ R; omega) _
      · exact gb_setCell (gb_setCell (gb_setCell HG.out (.inr (by show w.heap.size ≤ w2.heap.size; omega)) _) (.inr (Nat.le_refl _)) _) (.inr (Nat.le_refl _)) _
  · by_cases c1 : v3 = 1
    · subst c1
      go_wp2_with fail
      refine (pick_any B R (N + 3) 3 _ (by omega) (by omega) (by omega) (HR3.out.alloc _)).mono ?_
      rintro e w4 ⟨v4, rfl, hv4, hR4, hg4⟩
      have b4 := hv4.lt (by omega)
      have s4 := hg4.size
      simp at s4
      have HL := Lib.hid ((Blk.new w3 _ _).gb hg4 (by omega))
      replace HD := Lib.hid ((HD.out.alloc _).gb hg4 (by omega))
      replace HE := Lib.hid ((HE.out.alloc _).gb hg4 (by omega))
      have HR4 := Lib.hid hR4; clear hR4
      replace HG := Lib.hid (gb_trans (gb_alloc HG.out _) hg4); clear hg4 HR3
      obtain ⟨x1, x2, x3, x4⟩ := blk2 HD.out
      obtain ⟨y1, y2, y3, y4⟩ := blk2 HE.out
      obtain ⟨z1, z2, z3, _⟩ := blk3 HL.out
      have hcases : v4 = 0 ∨ v4 = 1 ∨ v4 = 2 := by omega
      rcases hcases with rfl | rfl | rfl
      all_goals
        go_wp2_with fail
        refine bodyPost_ret (by simp [results, Tryd.results57, go_sem, x1, x2]; rfl) rfl ?_
        refine ⟨(_, _), rfl, ⟨by simp; omega, by simp; omega, by simp, by simp⟩, ?_, ?_⟩
        · exact ((HR4.out.setCell (by show B ≤ w2.heap.size; omega) (by show w2.heap.size ≠ R; omega) _).setCell (by show B ≤ w.heap.size; omega) (by show w.heap.size ≠ R; omega) _).setCell (by show B ≤ w.heap.size; omega) (by show w.heap.size ≠ R; omega) _
        · exact gb_setCell (gb_setCell (gb_setCell HG.out (.inr (by show w.heap.size ≤ w2.heap.size; omega)) _) (.inr (Nat.le_refl _)) _) (.inr (Nat.le_refl _)) _
    · have d0 : (v3 == 0) = false := by simpa using c0
      have d1 : (v3 == 1) = false := by simpa using c1
      obtain ⟨x1, x2, x3, x4⟩ := blk2 HD.out
      obtain ⟨y1, y2, y3, y4⟩ := blk2 HE.out
      go_wp2_with fail
      refine bodyPost_ret (by simp [results, Tryd.results57, go_sem, x1, x2]; rfl) rfl ?_
      refine ⟨(_, _), rfl, ⟨by simp; omega, by simp; omega, by simp; omega, by simp; omega⟩, ?_, ?_⟩
      · exact ((HR3.out.more (by omega)).setCell (by show B ≤ w.heap.size; omega) (by show w.heap.size ≠ R; omega) _).setCell (by show B ≤ w.heap.size; omega) (by show w.heap.size ≠ R; omega) _
      · exact gb_setCell (gb_setCell HG.out (.inr (Nat.le_refl _)) _) (.inr (Nat.le_refl _)) _
theorem elTerm : ElemOk Tryd.prog 38 45 2 16 := elemOk Tryd.underlying38 (z := .agg #[.int .i64 0, .int .i64 0]) (by kernel_rfl) rfl (by omega)

def TermsPost (T : TypeId) (E : TypeId) (w : World) (B R N : Nat) (e : Ending) (w' : World) : Prop :=
  ∃ A c n ts, e = .returned (.slice A n c) ∧ n ≤ c ∧ ts.length = n ∧ n ≤ 5 ∧ (∀ t ∈ ts, Drawn t) ∧ w'.ownsRow w.heap.size E 2 (.slice A n c) n (tcells ts) ∧ Rd T w' B R N ∧ w.grownBy w' (some R)



set_option maxHeartbeats 2000000 in
theorem l92Terms_any (B R N : Nat) (w : World) (hN : N ≤ 800000) (hR : Rd 85 w B R N) :
    Calls Tryd.prog 49 #[.pointer (some ⟨R, 0, none⟩)] w (TermsPost 85 45 w B R (N + 21)) := by
  have hlt := hR.lt
  have hle := hR.le
  have HR0 := Lib.hid (hR.alloc (.cells #[] 45))
  clear hR
  go_enter Tryd.func49, Tryd.ntmps49
  go_wp2_with fail
  refine (pick_any B R N 6 _ (by omega) (by omega) (by omega) HR0.out).mono ?_
  rintro e w1 ⟨m, rfl, hv1, hR1, hg1⟩
  have b1 := hv1.lt (by omega)
  have HO := Lib.hid (own_gb (own_empty w 45 2) hg1 hlt)
  have HR1 := Lib.hid hR1; clear hR1
  have HG := Lib.hid (gb_trans (gb_alloc (gb_refl w _) _) hg1); clear hg1 HR0
  obtain ⟨m, rfl⟩ := Int.eq_ofNat_of_zero_le b1.1
  go_wp2_with fail
  go_loopw [3, 5] (fun v i wr => ∃ (k : Nat) (A : Option Addr) (c : Nat) (ts : List T2), k ≤ m ∧ i = .int .i64 k ∧ v = .slice A k c ∧ k ≤ c ∧ ts.length = k ∧ (∀ t ∈ ts, Drawn t) ∧ wr.ownsRow w.heap.size 45 2 (.slice A k c) k (tcells ts) ∧ Rd 85 wr B R (N + 1 + k * 4) ∧ w.grownBy wr (some R)) (fun _ i _ => m - (intOf i).toNat)
  case atStart => exact ⟨0, _, _, [], Nat.zero_le _, rfl, rfl, Nat.le_refl _, rfl, by simp, HO.out, HR1.out, HG.out⟩
  case round =>
    obtain ⟨k, A, c, ts, hk, rfl, rfl, hkc, hts, hdr, hown, hRr, hgr⟩ := hrel
    have HW := Lib.hid hown; clear hown
    have HRR := Lib.hid hRr; clear hRr
    have HGR := Lib.hid hgr; clear hgr
    have HT := Lib.hid hts; clear hts
    have HDR := Lib.hid hdr; clear hdr
    by_cases hkm : k < m
    · go_wp2_with fail
      refine (l92Term_any B R (N + 1 + k * 4) _ (by omega) HRR.out).mono ?_
      rintro e w2 ⟨t, rfl, hd, hR2, hg2⟩
      have s2 := hg2.size
      have s3 := HGR.out.size
      replace HW := Lib.hid (own_gb HW.out hg2 hlt)
      have HR2 := Lib.hid hR2; clear hR2
      have HG2 := Lib.hid (gb_trans HGR.out hg2); clear hg2
      have HD := Lib.hid hd; clear hd
      obtain ⟨t1, t2⟩ := t
      simp only [trm]
      go_wp2_with (at_builtin; refine wpList_app1 _ rfl (.tmp 14) (.tmp 17) _ rfl w.heap.size 45 2 16 elTerm A c k (tcells ts) rfl (HW.out.alloc _) w2.heap.size #[.int .i64 t1, .int .i64 t2] rfl (Blk.new w2 _ _) rfl ?h1 (by omega) (by omega) (by simp; omega) ?_)
      case h1 => exact ⟨rfl, rfl⟩
      intro A' c' w3 hown3 hc3 hb3
      have HW3 := Lib.hid hown3; clear hown3
      have HB3 := Lib.hid hb3; clear hb3
      go_wp2_with fail
      go_roundw
      case rel =>
        refine ⟨k + 1, A', c', ts ++ [(t1, t2)], by omega, by go_num, rfl, hc3, by simp [HT.out], ?_, ?_, ?_, ?_⟩
        · intro t ht
          simp only [List.mem_append, List.mem_singleton] at ht
          rcases ht with ht | rfl
          · exact HDR.out t ht
          · exact HD.out
        · rw [tcells_snoc]; exact HW3.out
        · exact ((HR2.out.alloc _).sub HB3.out hlt).more (by omega)
        · exact gb_base (gb_alloc HG2.out _) HB3.out
      case measure => simp [intOf]; omega
    · go_wp2_with fail
      go_ret
      exact ⟨A, c, k, ts, rfl, hkc, HT.out, by omega, HDR.out, HW.out, HRR.out.more (by omega), HGR.out⟩
def Lst (w : World) (A : Option Addr) (n c : Nat) (ts : List T2) : Prop := n ≤ c ∧ ts.length = n ∧ n ≤ 5 ∧ (∀ t ∈ ts, Drawn t) ∧ Reads w w.heap.size 2 A n (tcells ts)

def DrawTermsPost (w : World) (e : Ending) (w' : World) : Prop :=
  ∃ A c n ts, e = .returned (.slice A n c) ∧ Lst w' A n c ts ∧ Below w.heap.size w w'

set_option maxHeartbeats 2000000 in
theorem DrawTermsText_any (A : Option Addr) (n c : Nat) (w : World) (hm : n ≤ 140737488355328) (hc : n ≤ c) (hb : Bytes w w.heap.size A n) :
    Calls Tryd.prog 23 #[.slice A n c] w (DrawTermsPost w) := by
  have HB := Lib.hid hb; clear hb
  go_enter Tryd.func23, Tryd.ntmps23
  go_wp2_with fail
  refine (l6Open_any A n c w hm hc HB.out).mono ?_
  rintro e w1 ⟨rfl, hR1, hb1⟩
  have HB1 := Lib.hid hb1; have HR1 := Lib.hid hR1; clear hb1 hR1
  go_wp2_with fail
  refine (l92Terms_any w.heap.size w.heap.size 0 w1 (by omega) HR1.out).mono ?_
  rintro e w2 ⟨A2, c2, n2, ts, rfl, hnc, hts, hn5, hdr, hown, hR2, hg2⟩
  have HL : Hid (Lst w2 A2 n2 c2 ts) := ⟨hnc, hts, hn5, hdr, own_reads hown⟩
  have HG := Lib.hid (below_of_gb HB1.out hg2 HB1.out.size (Nat.le_refl _))
  clear hg2 hR2 hown hdr hts
  go_wp2_with fail
  go_ret
  exact ⟨A2, c2, n2, ts, rfl, HL.out, HG.out⟩

end Go.Proofs.YtnljibgjfobkbaaDoor
