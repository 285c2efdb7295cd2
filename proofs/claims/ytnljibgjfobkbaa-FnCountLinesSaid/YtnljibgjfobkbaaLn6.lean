/- The program's lines of a scheme. -/
import Derived.Test.YtnljibgjfobkbaaLn5
namespace Go.Proofs.Ytnljibgjfobkbaa
open Go.RowKit Go.Sort
attribute [local go_sem ↓] Go.wp_at_zero Go.wp_at_succ

theorem wpList_app1K {P : Program} (w : World) {ops : Array Oper} {rest : List Oper} {o : Oper} {a : Act} {Q : Exit → Act → World → Prop} (hgd : o.guard = none) (s x : Operand) (t : TypeId)
    (ho : o.op = .call { callee := .builtin .append, args := #[s, x], argTypes := #[t, t] })
    (base : Nat) (e : TypeId) (size bytes : Nat) (hE : ElemOk P t e size bytes)
    (A : Option Addr) (c n : Nat) (xs : List Value) (hs : a.eval s = .slice A n c) (hown : w.ownsRow base e size (.slice A n c) n xs)
    (L : Nat) (cs : Array Value) (hx : a.eval x = .slice (some ⟨L, 0, none⟩) 1 1) (hL : Blk w L e cs) (hcs : cs.size = size) (h1 : ∀ u ∈ cs.toList, u.oneCell' = true)
    (hn : n ≤ 1000000) (hby : bytes ≤ 1000000) (hbase : base ≤ w.heap.size)
    (h : ∀ A' c' w', w'.ownsRow base e size (.slice A' (n + 1) c') (n + 1) (xs ++ cs.toList) → n + 1 ≤ c' → Below base w w' → KeepT e w w' → wpList P ops Q rest (a.put o.dst (.slice A' (n + 1) c')) w') : wpList P ops Q (o :: rest) a w := by
  obtain ⟨ht, i, z, hi, hz, hsize, hbytes, hzs, hsz⟩ := hE
  refine wpList_append_own w hgd s x t ho base e i z size bytes ht hi hz hsize hbytes hzs hsz _ n xs hs hown ⟨L, 0, none⟩ 1 1 cs.toList hx (by simp [hcs]) ?_ h1 (by unfold maxLen; omega) ?_ hbase ?_
  · intro j u hj
    have : (⟨L, 0, none⟩ : Addr).add j = ⟨L, j, none⟩ := by unfold Addr.add; split <;> simp_all
    rw [this, hL.cell]
    simpa using hj
  · calc (n + 1) * bytes ≤ 1000001 * 1000000 := Nat.mul_le_mul (by omega) hby
      _ ≤ _ := by omega
  · intro v' w' hown' hg _
    obtain ⟨A', c', rfl, hc'⟩ := own_form hown'
    refine h A' c' w' hown' hc' ?_ (keepT_of hown hg)
    exact (Below.refl base w).grown hg hbase (fun k hk => (hown.lt k hk).1)

theorem own_blkL {w : World} {base : Nat} {e : TypeId} {size n c : Nat} {A : Option Addr} {xs : List Value} (h : w.ownsRow base e size (.slice A n c) n xs) (hn : 0 < n) :
    ∃ g cur, A = some ⟨g, 0, none⟩ ∧ base ≤ g ∧ Blk w g e cur ∧ Filled cur xs := by
  have hr := own_reads h
  rcases h.2 with ⟨hv, h0⟩ | ⟨g, cap, cur, hv, hb, hh, _⟩
  · omega
  · have hA : A = some ⟨g, 0, none⟩ := by injection hv
    subst hA
    obtain ⟨b, off, e1, _, hc⟩ := hr.2 hn
    cases e1
    refine ⟨g, cur, rfl, hb, hh, fun j u hu => ?_⟩
    have := hc j u hu
    rw [Nat.zero_add] at this
    rw [← this]
    exact (Blk.cell (t := e) hh j).symm

set_option maxHeartbeats 4000000 in
theorem implSchemeLines_any (A : Option Addr) (n c : Nat) (ns : List T3) (w : World) (hn : n ≤ 1048576) (hnc : n ≤ c) (hns : ns.length = n) (hv : svB ns = true) (hr : Reads w w.heap.size 3 A n (ncells ns)) :
    Calls Try.prog 16 #[.slice A n c] w fun e w' => (∃ (A' : Option Addr) (q c' : Nat) (ls : List L3), e = .returned (.slice A' q c') ∧ q = (allL ns n).length ∧ ls.length = q ∧ ls.Perm (allL ns n) ∧ Reads w' w'.heap.size 3 A' q (lcells ls) ∧ (0 < q → ∃ g, A' = some ⟨g, 0, none⟩)) ∧ Below w.heap.size w w' := by
  have hN := (svB_iff.1 hv).1
  rw [hns] at hN
  have HR := Lib.hid (fun W (hB : Below w.heap.size w W) => (hr.below hB).more hB.size)
  have HBA := Lib.hid (fun k (hk : k < n) => svB_at (k := k) hv (by rw [hns]; exact hk))
  have HV := Lib.hid (fun W (hB : Below w.heap.size w W) => implSchemeValid_any A n c ns W hn hns (HR.out W hB))
  rw [hv] at HV
  obtain ⟨b, off, rfl, hb, _, _, _⟩ := hr.node (show 0 < n by omega)
  clear hr hv hns
  have HB0 := Lib.hid (Below.refl w.heap.size w)
  go_enter Try.func16, Try.ntmps16
  go_wp2_with fail
  refine (HV.out _ HB0.out).mono ?_
  rintro e w1 ⟨rfl, hb1⟩
  have HB1 := Lib.hid hb1; clear hb1 HB0 HV
  go_wp2_with fail
  go_loopw [3, 13] (fun v i wr => ∃ (k q c' : Nat) (A' : Option Addr), k ≤ n ∧ i = .int .i64 k ∧ v = .slice A' q c' ∧ Hid (q = (allL ns k).length) ∧ Hid (wr.ownsRow w.heap.size 45 3 (.slice A' q c') q (lcells (allL ns k))) ∧ Hid (Below w.heap.size w wr)) (fun _ i _ => n - (intOf i).toNat)
  case atStart => exact ⟨0, 0, 0, none, Nat.zero_le _, rfl, rfl, rfl, World.ownsRow_nil _ _ _ _, HB1.out⟩
  case round =>
    clear HB1
    obtain ⟨i, q, c', A', hi, rfl, rfl, HQ, HW, HB⟩ := hrel
    by_cases hlt : i < n
    · obtain ⟨b', off', e', hb2, r1, r2, r3⟩ := (HR.out wr HB.out).node hlt
      cases e'
      have hbi := HBA.out i hlt
      obtain ⟨e1, he1⟩ : ∃ x, (gN ns i).1 = x := ⟨_, rfl⟩
      obtain ⟨j1, hj1⟩ : ∃ x, (gN ns i).2.1 = x := ⟨_, rfl⟩
      obtain ⟨o1, ho1⟩ : ∃ x, (gN ns i).2.2 = x := ⟨_, rfl⟩
      have HG1 : Hid (gN ns i = (e1, j1, o1)) := by unfold Hid; rw [← he1, ← hj1, ← ho1]
      rw [he1] at r1 hbi; rw [hj1] at r2 hbi; rw [ho1] at r3
      clear he1 hj1 ho1
      have i3 : (0 : Int) ≤ (i : Int) := by omega
      have i4 : (i : Int) < (n : Int) := by omega
      have i5 : (i : Int) ≤ (c : Int) := by omega
      have HB1 := Lib.hid (HB.out.alloc HB.out.size (.cells #[.int .i64 e1, .int .i64 j1, .bool o1] 37))
      have HX1 := Lib.hid (Blk.new wr 37 #[.int .i64 e1, .int .i64 j1, .bool o1])
      have HW1 := Lib.hid (HW.out.alloc (.cells #[.int .i64 e1, .int .i64 j1, .bool o1] 37))
      obtain ⟨BX, hBX⟩ : ∃ BX, wr.heap.size = BX := ⟨_, rfl⟩
      have hBX1 : w.heap.size ≤ BX := by have := HB.out.size; omega
      rw [hBX] at HX1
      have hX5 : Hid (BX = wr.heap.size) := hBX.symm
      clear HW HB
      go_wp2_with fail
      clear r1 r2 r3 hBX
      go_loopw [3, 22] (fun v j wr => ∃ (k q c' : Nat) (A' : Option Addr), k ≤ i ∧ j = .int .i64 k ∧ v = .slice A' q c' ∧ Hid (q = (allL ns i ++ rowL ns i k).length) ∧ Hid (wr.ownsRow w.heap.size 45 3 (.slice A' q c') q (lcells (allL ns i ++ rowL ns i k))) ∧ Hid (Blk wr BX 37 #[.int .i64 e1, .int .i64 j1, .bool o1]) ∧ Hid (Below w.heap.size w wr)) (fun _ j _ => i - (intOf j).toNat)
      case atStart => exact ⟨0, q, c', A', Nat.zero_le _, rfl, rfl, by unfold Hid; rw [HQ.out]; simp [rowL], by unfold Hid; simpa [rowL] using HW1.out, HX1.out, HB1.out⟩
      case round =>
        clear HB1 HX1 HW1 HQ hX5
        obtain ⟨k, q, c', A', hk, rfl, rfl, HQ, HW, HX, HB⟩ := hrel
        have hq0 : q ≤ 1000 := by
          have h1 := rowL_len ns i k
          have h2 := allL_len ns i (by omega)
          rw [HQ.out, List.length_append]; omega
        by_cases hki : k < i
        · obtain ⟨b', off', e', hb3, s1, s2, s3⟩ := (HR.out wr HB.out).node (show k < n by omega)
          cases e'
          have hbk := HBA.out k (by omega)
          have HRW : Hid (rowL ns i (k + 1) = rowL ns i k ++ (if alB (gN ns i) (gN ns k) = true then [((i : Int), (k : Int), (gN ns i).1 - (gN ns k).1)] else [])) := rfl
          obtain ⟨e2, he2⟩ : ∃ x, (gN ns k).1 = x := ⟨_, rfl⟩
          obtain ⟨j2, hj2⟩ : ∃ x, (gN ns k).2.1 = x := ⟨_, rfl⟩
          obtain ⟨o2, ho2⟩ : ∃ x, (gN ns k).2.2 = x := ⟨_, rfl⟩
          have hg2 : gN ns k = (e2, j2, o2) := by rw [← he2, ← hj2, ← ho2]
          rw [HG1.out, hg2] at HRW
          rw [he2] at s1 hbk; rw [hj2] at s2 hbk; rw [ho2] at s3
          clear he2 hj2 ho2 hg2
          have hBXl := HX.out.lt
          have HB2 := Lib.hid (HB.out.alloc HB.out.size (.cells #[.int .i64 e2, .int .i64 j2, .bool o2] 37))
          have HW2 := Lib.hid (HW.out.alloc (.cells #[.int .i64 e2, .int .i64 j2, .bool o2] 37))
          have HX2 := Lib.hid (HX.out.alloc (.cells #[.int .i64 e2, .int .i64 j2, .bool o2] 37))
          have HY2 := Lib.hid (Blk.new wr 37 #[.int .i64 e2, .int .i64 j2, .bool o2])
          obtain ⟨x1, x2, x3, _, _, _⟩ := blk3 HX2.out
          obtain ⟨y1, y2, y3, _, _, _⟩ := blk3 HY2.out
          have i5 : (0 : Int) ≤ (k : Int) := by omega
          have i6 : (k : Int) < (i : Int) := by omega
          have HN := Lib.hid (fun W => stepsBy_any j1 j2 W hbi.2 hbk.2)
          have u1 : IntKind.i64.wrap (e1 - e2) = e1 - e2 := IntWalk.i64_in _ (by omega)
          clear HX HW HB
          by_cases ho : o1 = o2
          · subst ho
            have ha : alB (e1, j1, o1) (e2, j2, o1) = false := by simp [alB]
            rw [ha] at HRW
            clear ha
            go_wp2_with fail
            go_roundw
            case rel => exact ⟨k + 1, q, c', A', by omega, by go_num, rfl, by unfold Hid; rw [HRW.out, HQ.out]; simp, by unfold Hid; rw [HRW.out]; simpa using HW2.out, HX2.out, HB2.out⟩
            case measure => simp [intOf]; omega
          obtain rfl : o2 = !o1 := by cases o1 <;> cases o2 <;> simp_all
          have ha : alB (e1, j1, o1) (e2, j2, !o1) = nrB j1 j2 := by simp [alB]
          rw [ha] at HRW
          clear ho ha
          cases hnr : nrB j1 j2
          · rw [hnr] at HN HRW; clear hnr
            go_wp2_with fail
            refine (HN.out _).mono ?_
            rintro e w4 ⟨rfl, rfl⟩
            go_wp2_with fail
            go_roundw
            case rel => exact ⟨k + 1, q, c', A', by omega, by go_num, rfl, by unfold Hid; rw [HRW.out, HQ.out]; simp, by unfold Hid; rw [HRW.out]; simpa using HW2.out, HX2.out, HB2.out⟩
            case measure => simp [intOf]; omega
          rw [hnr] at HN HRW; clear hnr
          go_wp2_with fail
          refine (HN.out _).mono ?_
          rintro e w4 ⟨rfl, rfl⟩
          have s4 := HB2.out.size
          have HLn := Lib.hid (Blk.new (wr.alloc (.cells #[.int .i64 e2, .int .i64 j2, .bool !o1] 37)) 45 #[.int .i64 i, .int .i64 k, .int .i64 (e1 - e2)])
          rw [World.size_alloc] at HLn
          go_wp2_with (at_builtin; go_loud (refine wpList_app1K _ rfl (.tmp 39) (.tmp 48) _ rfl w.heap.size 45 3 24 elLine A' c' q (lcells (allL ns i ++ rowL ns i k)) rfl (HW2.out.alloc _) (wr.heap.size + 1) #[.int .i64 i, .int .i64 k, .int .i64 (e1 - e2)] rfl HLn.out rfl ?h1 (by omega) (by omega) (by simp at s4 ⊢; omega) ?_))
          case h1 => simp [Value.oneCell']
          intro A3 c3 w5 hown5 hc5 hb5 hk5
          have HW5 := Lib.hid hown5; clear hown5
          have HB5 := Lib.hid ((HB2.out.alloc HB2.out.size (.cells #[.int .i64 i, .int .i64 k, .int .i64 (e1 - e2)] 45)).trans hb5)
          have HX5 := Lib.hid ((HX2.out.alloc (.cells #[.int .i64 i, .int .i64 k, .int .i64 (e1 - e2)] 45)).keepT hk5 (by decide))
          clear hb5 HB2 hk5
          go_wp2_with fail
          go_roundw
          case rel => exact ⟨k + 1, q + 1, c3, A3, by omega, by go_num, rfl, by unfold Hid; rw [HRW.out, HQ.out]; simp; omega, by unfold Hid; rw [HRW.out, if_pos trivial, ← List.append_assoc, lcells_append _ [_]]; exact HW5.out, HX5.out, HB5.out⟩
          case measure => simp [intOf]; omega
        · obtain rfl : k = i := by omega
          go_wp2_with fail
          go_roundw
          case rel => exact ⟨k + 1, q, c', A', by omega, by go_num, rfl, HQ.out, HW.out, HB.out⟩
          case measure => simp [intOf]; omega
    · obtain rfl : i = n := by omega
      by_cases h0 : q = 0
      · subst h0
        have HRd := Lib.hid (own_reads HW.out)
        go_wp2_with fail
        refine (sort_none _ _ _ _).mono ?_
        rintro e w4 ⟨rfl, rfl⟩
        go_wp2_with fail
        go_ret
        exact ⟨⟨A', 0, c', allL ns i, rfl, HQ.out, HQ.out.symm, List.Perm.refl _, HRd.out, fun h => absurd h (Nat.lt_irrefl 0)⟩, HB.out⟩
      · have hq0 : q ≤ 1000 := by have h2 := allL_len ns i (by omega); rw [HQ.out]; omega
        obtain ⟨g, cur, rfl, hg, hblk, hfl⟩ := own_blkL HW.out (by omega)
        have HS := Lib.hid (sortLines_any w.heap.size g q c' (allL ns i) wr HQ.out.symm hq0 hblk.lt hg (holdsL hblk hfl))
        clear hblk hfl
        go_wp2_with fail
        refine HS.out.mono ?_
        rintro e w4 ⟨rfl, ls', hp, hl, hr, hb4⟩
        have HB4 := Lib.hid (HB.out.trans hb4)
        have HR4 := Lib.hid hr
        have HP := Lib.hid hp
        have HL := Lib.hid hl
        clear hb4 hr hp hl
        go_wp2_with fail
        go_ret
        exact ⟨⟨_, q, c', ls', rfl, HQ.out, HL.out, HP.out, HR4.out, fun _ => ⟨g, rfl⟩⟩, HB4.out⟩
end Go.Proofs.Ytnljibgjfobkbaa
