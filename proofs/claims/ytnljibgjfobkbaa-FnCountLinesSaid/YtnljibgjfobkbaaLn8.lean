/- The lines of one upper node. -/
import Derived.Test.YtnljibgjfobkbaaLn7
namespace Go.Proofs.Ytnljibgjfobkbaa
open Go.RowKit Go.Sort
attribute [local go_sem ↓] Go.wp_at_zero Go.wp_at_succ

def upF (i : Int) (ls : List L3) : List L3 := ls.filter fun t => decide (t.1 = i)
theorem gL_take (ls : List L3) {k : Nat} (h : k < ls.length) : ls.take (k + 1) = ls.take k ++ [gL ls k] := by
  rw [List.take_succ_eq_append_getElem h]; simp [gL, h]
theorem upF_snoc (i : Int) (ls : List L3) (t : L3) : upF i (ls ++ [t]) = upF i ls ++ (if t.1 = i then [t] else []) := by
  unfold upF; rw [List.filter_append]; congr 1
  by_cases h : t.1 = i <;> simp [h]
theorem upF_len (i : Int) (ls : List L3) : (upF i ls).length ≤ ls.length := List.length_filter_le _ _

set_option maxHeartbeats 4000000 in
theorem decays_any (A : Option Addr) (n c : Nat) (ns : List T3) (i : Nat) (w : World) (hn : n ≤ 1048576) (hnc : n ≤ c) (hns : ns.length = n) (hv : svB ns = true) (hr : Reads w w.heap.size 3 A n (ncells ns)) :
    Calls Try.prog 11 #[.slice A n c, .int .i64 i] w fun e w' => (∃ (A' : Option Addr) (q c' : Nat), e = .returned (.slice A' q c') ∧ q = (upF i (allL ns n)).length) ∧ Below w.heap.size w w' := by
  have hN := (svB_iff.1 hv).1
  rw [hns] at hN
  have hal := allL_len ns n (by omega)
  have HL := Lib.hid (implSchemeLines_any A n c ns w hn hnc hns hv hr)
  clear hr hv hns
  go_enter Try.func11, Try.ntmps11
  go_wp2_with fail
  refine HL.out.mono ?_
  rintro e w1 ⟨⟨A9, q, c9, ls, rfl, hq, hl, hp, hr, hA⟩, hb1⟩
  have hq0 : q ≤ 1000 := by rw [hq]; omega
  have HPL : Hid ((upF i ls).length = (upF i (allL ns n)).length) := (hp.filter _).length_eq
  have HT := Lib.hid hl
  have HB1 := Lib.hid hb1
  have HR := Lib.hid (fun W (hB : Below w1.heap.size w1 W) => (hr.below hB).more hB.size)
  have HA := Lib.hid hA
  have HW1 := Lib.hid (World.ownsRow_nil w1 w1.heap.size 45 3)
  clear hq hl hp hr hA hb1 HL hal
  go_wp2_with fail
  go_loopw [5, 11] (fun v j wr => ∃ (k p c2 : Nat) (A2 : Option Addr), k ≤ q ∧ j = .int .i64 k ∧ v = .slice A2 p c2 ∧ Hid (p = (upF i (ls.take k)).length) ∧ Hid (wr.ownsRow w1.heap.size 45 3 (.slice A2 p c2) p (lcells (upF i (ls.take k)))) ∧ Hid (Below w1.heap.size w1 wr)) (fun _ j _ => q - (intOf j).toNat)
  case atStart => exact ⟨0, 0, 0, none, Nat.zero_le _, rfl, rfl, rfl, HW1.out, Below.refl _ _⟩
  case round =>
    clear HW1
    obtain ⟨k, p, c2, A2, hk, rfl, rfl, HP, HW, HB⟩ := hrel
    by_cases hlt : k < q
    · obtain ⟨g, rfl⟩ := HA.out (by omega)
      obtain ⟨r1, r2, r3⟩ := (HR.out wr HB.out).line hlt
      have H4 : Hid (upF i (ls.take (k + 1)) = upF i (ls.take k) ++ (if (gL ls k).1 = (i : Int) then [gL ls k] else [])) := by
        unfold Hid; rw [gL_take ls (by rw [HT.out]; exact hlt), upF_snoc]
      have hp0 : p ≤ 1000 := by
        have := upF_len i (ls.take k)
        rw [List.length_take] at this
        have := HP.out; omega
      obtain ⟨x1, hx1⟩ : ∃ x, (gL ls k).1 = x := ⟨_, rfl⟩
      obtain ⟨x2, hx2⟩ : ∃ x, (gL ls k).2.1 = x := ⟨_, rfl⟩
      obtain ⟨x3, hx3⟩ : ∃ x, (gL ls k).2.2 = x := ⟨_, rfl⟩
      have hg : gL ls k = (x1, x2, x3) := by rw [← hx1, ← hx2, ← hx3]
      rw [hg] at H4
      rw [hx1] at r1; rw [hx2] at r2; rw [hx3] at r3
      clear hx1 hx2 hx3 hg
      have HB2 := Lib.hid (HB.out.alloc HB.out.size (.cells #[.int .i64 x1, .int .i64 x2, .int .i64 x3] 45))
      have HW2 := Lib.hid (HW.out.alloc (.cells #[.int .i64 x1, .int .i64 x2, .int .i64 x3] 45))
      obtain ⟨y1, y2, y3, _, _, _⟩ := blk3 (Blk.new wr 45 #[.int .i64 x1, .int .i64 x2, .int .i64 x3])
      have i5 : (0 : Int) ≤ (k : Int) := by omega
      have i6 : (k : Int) < (q : Int) := by omega
      have s4 := HB2.out.size
      clear HW HB
      by_cases he : x1 = (i : Int)
      · have H5 : Hid (upF i (ls.take (k + 1)) = upF i (ls.take k) ++ [((i : Int), x2, x3)]) := by
          unfold Hid; rw [H4.out, if_pos he, he]
        subst he
        have HLn := Lib.hid (Blk.new (wr.alloc (.cells #[.int .i64 i, .int .i64 x2, .int .i64 x3] 45)) 45 #[.int .i64 i, .int .i64 x2, .int .i64 x3])
        rw [World.size_alloc] at HLn
        go_wp2_with (at_builtin; go_loud (refine wpList_app1 _ rfl (.tmp 19) (.tmp 21) _ rfl w1.heap.size 45 3 24 elLine A2 c2 p (lcells (upF i (ls.take k))) rfl (HW2.out.alloc _) (wr.heap.size + 1) #[.int .i64 i, .int .i64 x2, .int .i64 x3] rfl HLn.out rfl ?h1 (by omega) (by omega) (by simp at s4 ⊢; omega) ?_))
        case h1 => simp [Value.oneCell']
        intro A3 c3 w5 hown5 hc5 hb5
        have HW5 := Lib.hid hown5; clear hown5
        have HB5 := Lib.hid ((HB2.out.alloc HB2.out.size (.cells #[.int .i64 i, .int .i64 x2, .int .i64 x3] 45)).trans hb5)
        clear hb5 HB2 HW2
        go_wp2_with fail
        go_roundw
        case rel => exact ⟨k + 1, p + 1, c3, A3, by omega, by go_num, rfl, by unfold Hid; rw [H5.out, HP.out]; simp, by unfold Hid; rw [H5.out, lcells_append _ [_]]; exact HW5.out, HB5.out⟩
        case measure => simp [intOf]; omega
      · have H5 : Hid (upF i (ls.take (k + 1)) = upF i (ls.take k)) := by
          unfold Hid; rw [H4.out, if_neg he, List.append_nil]
        have e3 : (x1 == (i : Int)) = false := by simpa using he
        clear he
        go_wp2_with fail
        go_roundw
        case rel => exact ⟨k + 1, p, c2, A2, by omega, by go_num, rfl, by unfold Hid; rw [H5.out]; exact HP.out, by unfold Hid; rw [H5.out]; exact HW2.out, HB2.out⟩
        case measure => simp [intOf]; omega
    · obtain rfl : k = q := by omega
      go_wp2_with fail
      go_ret
      refine ⟨⟨A2, p, c2, rfl, ?_⟩, HB1.out.trans (HB.out.mono HB1.out.size)⟩
      rw [HP.out, List.take_of_length_le (by rw [HT.out]; exact Nat.le_refl _), HPL.out]
end Go.Proofs.Ytnljibgjfobkbaa
