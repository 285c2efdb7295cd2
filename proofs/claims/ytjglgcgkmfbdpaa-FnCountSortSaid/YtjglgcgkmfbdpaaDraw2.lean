/- Draws of lists of terms. -/
import Derived.Test.YtjglgcgkmfbdpaaDraw1
namespace Go.Proofs.Ytjglgcgkmfbdpaa
open Go.RowKit

theorem elTerm : ElemOk Try.prog 25 38 2 16 := elemOk Try.underlying25 (z := .agg #[.int .i64 0, .int .i64 0]) (by kernel_rfl) rfl (by omega)

def TermsPost (T : TypeId) (E : TypeId) (w : World) (B R N : Nat) (e : Ending) (w' : World) : Prop :=
  ∃ A c n ts, e = .returned (.slice A n c) ∧ n ≤ c ∧ ts.length = n ∧ n ≤ 5 ∧ (∀ t ∈ ts, Drawn t) ∧ w'.ownsRow w.heap.size E 2 (.slice A n c) n (tcells ts) ∧ Rd T w' B R N ∧ w.grownBy w' (some R)

theorem tcells_snoc (ts : List T2) (t : T2) : tcells (ts ++ [t]) = tcells ts ++ [.int .i64 t.1, .int .i64 t.2] := by simp [tcells]

set_option maxHeartbeats 1000000 in
theorem l92Terms_any (B R N : Nat) (w : World) (hN : N ≤ 800000) (hR : Rd 66 w B R N) :
    Calls Try.prog 30 #[.pointer (some ⟨R, 0, none⟩)] w (TermsPost 66 38 w B R (N + 21)) := by
  have hlt := hR.lt
  have hle := hR.le
  have HR0 := Lib.hid (hR.alloc (.cells #[] 38))
  clear hR
  go_enter Try.func30, Try.ntmps30
  go_wp2_with fail
  refine (pick_any B R N 6 _ (by omega) (by omega) (by omega) HR0.out).mono ?_
  rintro e w1 ⟨m, rfl, hv1, hR1, hg1⟩
  have b1 := hv1.lt (by omega)
  have HO := Lib.hid (own_gb (own_empty w 38 2) hg1 hlt)
  have HR1 := Lib.hid hR1; clear hR1
  have HG := Lib.hid (gb_trans (gb_alloc (gb_refl w _) _) hg1); clear hg1 HR0
  obtain ⟨m, rfl⟩ := Int.eq_ofNat_of_zero_le b1.1
  go_wp2_with fail
  go_loopw [3, 5] (fun v i wr => ∃ (k : Nat) (A : Option Addr) (c : Nat) (ts : List T2), k ≤ m ∧ i = .int .i64 k ∧ v = .slice A k c ∧ k ≤ c ∧ ts.length = k ∧ (∀ t ∈ ts, Drawn t) ∧ wr.ownsRow w.heap.size 38 2 (.slice A k c) k (tcells ts) ∧ Rd 66 wr B R (N + 1 + k * 4) ∧ w.grownBy wr (some R)) (fun _ i _ => m - (intOf i).toNat)
  case atStart => exact ⟨0, _, _, [], Nat.zero_le _, rfl, rfl, Nat.le_refl _, rfl, by simp, HO.out, HR1.out, HG.out⟩
  case round =>
    obtain ⟨k, A, c, ts, hk, rfl, rfl, hkc, hts, hdr, hown, hRr, hgr⟩ := hrel
    have HW := Lib.hid hown; clear hown
    have HRR := Lib.hid hRr; clear hRr
    have HGR := Lib.hid hgr; clear hgr
    have HT := Lib.hid hts; clear hts
    have HDR := Lib.hid hdr; clear hdr
    by_cases hkm : k < m
    · go_wp2_with fail
      refine (l92Term_any B R (N + 1 + k * 4) _ (by omega) HRR.out).mono ?_
      rintro e w2 ⟨t, rfl, hd, hR2, hg2⟩
      have s2 := hg2.size
      have s3 := HGR.out.size
      replace HW := Lib.hid (own_gb HW.out hg2 hlt)
      have HR2 := Lib.hid hR2; clear hR2
      have HG2 := Lib.hid (gb_trans HGR.out hg2); clear hg2
      have HD := Lib.hid hd; clear hd
      obtain ⟨t1, t2⟩ := t
      simp only [trm]
      go_wp2_with (at_builtin; refine wpList_app1 _ rfl (.tmp 14) (.tmp 17) _ rfl w.heap.size 38 2 16 elTerm A c k (tcells ts) rfl (HW.out.alloc _) w2.heap.size #[.int .i64 t1, .int .i64 t2] rfl (Blk.new w2 _ _) rfl ?h1 (by omega) (by omega) (by simp; omega) ?_)
      case h1 => exact ⟨rfl, rfl⟩
      intro A' c' w3 hown3 hc3 hb3
      have HW3 := Lib.hid hown3; clear hown3
      have HB3 := Lib.hid hb3; clear hb3
      go_wp2_with fail
      go_roundw
      case rel =>
        refine ⟨k + 1, A', c', ts ++ [(t1, t2)], by omega, by go_num, rfl, hc3, by simp [HT.out], ?_, ?_, ?_, ?_⟩
        · intro t ht
          simp only [List.mem_append, List.mem_singleton] at ht
          rcases ht with ht | rfl
          · exact HDR.out t ht
          · exact HD.out
        · rw [tcells_snoc]; exact HW3.out
        · exact ((HR2.out.alloc _).sub HB3.out hlt).more (by omega)
        · exact gb_base (gb_alloc HG2.out _) HB3.out
      case measure => simp [intOf]; omega
    · go_wp2_with fail
      go_ret
      exact ⟨A, c, k, ts, rfl, hkc, HT.out, by omega, HDR.out, HW.out, HRR.out.more (by omega), HGR.out⟩
end Go.Proofs.Ytjglgcgkmfbdpaa
