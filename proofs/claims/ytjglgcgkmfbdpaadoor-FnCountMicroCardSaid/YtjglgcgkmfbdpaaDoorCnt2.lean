/- Counts of levels: the program's. -/
import Derived.Test.YtjglgcgkmfbdpaaDoorCnt
namespace Go.Proofs.YtjglgcgkmfbdpaaDoor
open Go.RowKit

theorem wpList_store_rowB {P : Program} {ops : Array Oper} {rest : List Oper} {o : Oper} {a : Act} {w : World} {Q : Exit → Act → World → Prop} (hgd : o.guard = none) (ty : TypeId) (x y : Operand) (ho : o.op = .store ty x y)
    (g : Nat) (cells : Array Value) (hx : a.eval x = .pointer (some ⟨g, 0, none⟩)) (hy : a.eval y = .agg cells)
    (t : TypeId) (old : Array Value) (hg : Blk w g t old) (hi : (P.info? ty).map (·.size) = some cells.size)
    (hold : old.size = cells.size) (h1 : cells.all (·.oneCell') = true)
    (h : ∀ w', Blk w' g t cells → (∀ B, B ≤ g → Below B w w') → wpList P ops Q rest (a.put o.dst undef) w') : wpList P ops Q (o :: rest) a w :=
  wpList_store_row hgd ty x y ho g cells hx hy t old hg hi hold h1 (h _ hg.setRow fun B hB => below_setRow (Below.refl B w) hB _)

theorem run_index_ints (a : List Int) (k : Nat) (w : World) (ha : a.length = 25) (hk : k < 25) :
    (Instr.index 46 (.agg (acells a)) (.int .i64 (k : Int))).run Tryd.prog w = .ok (.int .i64 (a.getD k 0)) w := by
  have h1 : (0 : Int) ≤ k ∧ (k : Int) < 25 := by omega
  have h2 := acells_get a k (by omega)
  simp [Instr.index, asIntOf, run_underlying Tryd.underlying46, go_sem, part, hk, h2]

def ctJ (ts : List T2) (j : Int) : Int := if ts.all tvB then cntJ ts j else -1
def ctL (ts : List T2) : Int := if ts.all tvB then cntLev ts else -1

set_option maxHeartbeats 1000000 in
set_option maxRecDepth 100000 in
theorem implCountJ_any (A : Option Addr) (n c : Nat) (ts : List T2) (j : Int) (w : World) (hn : n ≤ 1048576) (hts : ts.length = n) (hr : Reads w w.heap.size 2 A n (tcells ts)) :
    Calls Tryd.prog 9 #[.slice A n c, .int .i64 j] w fun e w' => e = .returned (.int .i64 (ctJ ts j)) ∧ Below w.heap.size w w' := by
  have HCL := Lib.hid (countLevels_any A n c ts w hn hts hr)
  clear hr
  cases hall : ts.all tvB
  · have HX := Lib.hid (show ctJ ts j = -1 by unfold ctJ; rw [hall]; rfl)
    have HALL := Lib.hid hall; clear hall
    go_enter Tryd.func9, Tryd.ntmps9
    go_wp2_with fail
    refine HCL.out.mono ?_
    rintro e w2 ⟨a, rfl, ha, _, hb2⟩
    rw [HALL.out]
    have HB2 := Lib.hid hb2; clear hb2
    have HBK := Lib.hid (Blk.new w2 46 (acells (List.replicate 25 0)))
    have HSZ := Lib.hid (show (acells (List.replicate 25 0)).size = (acells a).size by rw [acells_size, acells_size, ha]; rfl)
    have HA := Lib.hid ha; clear ha
    go_wp2_with (refine wpList_store_rowB (by rfl) 46 (.tmp 5) (.tmp 10) (by rfl) w2.heap.size (acells a) (by rfl) (by rfl) _ _ HBK.out (info25 a HA.out) HSZ.out (acells_one a) ?_; intro w3 hk3 hb3; have HB3 := Lib.hid ((HB2.out.alloc HB2.out.size (.cells (acells (List.replicate 25 0)) 46)).trans (hb3 w.heap.size HB2.out.size)); clear hk3 hb3)
    go_ret
    exact ⟨ret_int HX.out.symm, HB3.out⟩
  · have HX := Lib.hid (show ctJ ts j = cntJ ts j by unfold ctJ; rw [hall]; rfl)
    have HALL := Lib.hid hall; clear hall
    have HSV := Lib.hid (fun W => implSpinValid_any j W)
    cases hj : inB j 0 24
    · have hj2 := inB_not.1 hj
      have HZ := Lib.hid (cntJ_out ts j hj2); clear hj2
      go_enter Tryd.func9, Tryd.ntmps9
      go_wp2_with fail
      refine HCL.out.mono ?_
      rintro e w2 ⟨a, rfl, ha, _, hb2⟩
      rw [HALL.out]
      have HB2 := Lib.hid hb2; clear hb2
      have HBK := Lib.hid (Blk.new w2 46 (acells (List.replicate 25 0)))
      have HSZ := Lib.hid (show (acells (List.replicate 25 0)).size = (acells a).size by rw [acells_size, acells_size, ha]; rfl)
      have HA := Lib.hid ha; clear ha
      go_wp2_with (first
        | (refine wpList_store_rowB (by rfl) 46 (.tmp 5) (.tmp 10) (by rfl) w2.heap.size (acells a) (by rfl) (by rfl) _ _ HBK.out (info25 a HA.out) HSZ.out (acells_one a) ?_; intro w3 hk3 hb3; have HB3 := Lib.hid ((HB2.out.alloc HB2.out.size (.cells (acells (List.replicate 25 0)) 46)).trans (hb3 w.heap.size HB2.out.size)); clear hk3 hb3)
        | (go_at_call 19; refine (implSpinValid_any _ _).mono ?_; rintro e w' ⟨rfl, rfl⟩))
      go_ret
      exact ⟨ret_int (HX.out.trans HZ.out).symm, HB3.out⟩
    · have hj2 := inB_iff.1 hj
      obtain ⟨jn, rfl⟩ := Int.eq_ofNat_of_zero_le hj2.1
      have hjn : jn < 25 := by omega
      go_enter Tryd.func9, Tryd.ntmps9
      go_wp2_with fail
      refine HCL.out.mono ?_
      rintro e w2 ⟨a, rfl, ha, hca, hb2⟩
      have HCA := Lib.hid (hca HALL.out); clear hca
      rw [HALL.out]
      have HB2 := Lib.hid hb2; clear hb2
      have HBK := Lib.hid (Blk.new w2 46 (acells (List.replicate 25 0)))
      have HSZ := Lib.hid (show (acells (List.replicate 25 0)).size = (acells a).size by rw [acells_size, acells_size, ha]; rfl)
      have HG := Lib.hid (show a.getD jn 0 = cntJ ts (jn : Int) by rw [HCA.out]; exact getD_count ts (jn : Int) hj2.1 hj2.2)
      have HA := Lib.hid ha; clear ha
      go_wp2_with (first
        | (refine wpList_store_rowB (by rfl) 46 (.tmp 5) (.tmp 10) (by rfl) w2.heap.size (acells a) (by rfl) (by rfl) _ _ HBK.out (info25 a HA.out) HSZ.out (acells_one a) ?_; intro w3 hk3 hb3; have HB3 := Lib.hid ((HB2.out.alloc HB2.out.size (.cells (acells (List.replicate 25 0)) 46)).trans (hb3 w.heap.size HB2.out.size)); have f1 := (hk3.cell jn).trans (acells_get a jn (by rw [HA.out]; omega)); clear hk3 hb3; rw [HG.out] at f1)
        | (go_at_call 19; refine (implSpinValid_any _ _).mono ?_; rintro e w' ⟨rfl, rfl⟩))
      go_ret
      exact ⟨ret_int HX.out.symm, HB3.out⟩

theorem sum_take_le (a : List Int) (B : Nat) (h : Bnd a B) (k : Nat) (hk : k ≤ 25) : 0 ≤ (a.take k).sum ∧ (a.take k).sum ≤ k * B := by
  induction k with
  | zero => simp
  | succ k ih =>
    have := ih (by omega)
    have hl : k < a.length := by have := h.1; omega
    rw [List.take_succ_eq_append_getElem hl, List.sum_append]
    have h2 := h.2 k
    rw [List.getD_eq_getElem?_getD, List.getElem?_eq_getElem hl] at h2
    simp only [Option.getD_some] at h2
    simp only [List.sum_cons, List.sum_nil]
    have e : ((k + 1 : Nat) : Int) * (B : Int) = k * B + B := by rw [Int.natCast_add, Int.add_mul]; simp
    omega

end Go.Proofs.YtjglgcgkmfbdpaaDoor
