/- The walks of laws over marks. -/
import Derived.Test.YtogbjneldipnpaaMkD2
import Derived.Test.YtogbjneldipnpaaMk4
import Derived.Test.YtogbjneldipnpaaLawKit
namespace Go.Proofs.Ytogbjneldipnpaa
open Go.RowKit
attribute [local go_sem ↓] Go.wp_at_zero Go.wp_at_succ

theorem wpList_appN {P : Program} (w : World) {ops : Array Oper} {rest : List Oper} {o : Oper} {a : Act} {Q : Exit → Act → World → Prop} (hgd : o.guard = none) (s x : Operand) (t : TypeId)
    (ho : o.op = .call { callee := .builtin .append, args := #[s, x], argTypes := #[t, t] })
    (base : Nat) (e : TypeId) (size bytes : Nat) (hE : ElemOk P t e size bytes)
    (A : Option Addr) (c n : Nat) (xs : List Value) (hs : a.eval s = .slice A n c) (hown : w.ownsRow base e size (.slice A n c) n xs)
    (b off m cx B : Nat) (ys : List Value) (hx : a.eval x = .slice (some ⟨b, off, none⟩) m cx) (hm : 0 < m) (hr : Reads w B size (some ⟨b, off, none⟩) m ys) (h1 : ∀ u ∈ ys, u.oneCell' = true)
    (hn : n + m ≤ 1000000) (hby : bytes ≤ 1000000) (hbase : base ≤ w.heap.size)
    (h : ∀ A' c' w', w'.ownsRow base e size (.slice A' (n + m) c') (n + m) (xs ++ ys) → n + m ≤ c' → Below base w w' → wpList P ops Q rest (a.put o.dst (.slice A' (n + m) c')) w') : wpList P ops Q (o :: rest) a w := by
  obtain ⟨ht, i, z, hi, hz, hsize, hbytes, hzs, hsz⟩ := hE
  refine wpList_append_own w hgd s x t ho base e i z size bytes ht hi hz hsize hbytes hzs hsz _ n xs hs hown ⟨b, off, none⟩ m cx ys hx hr.1 ?_ h1 (by unfold maxLen; omega) ?_ hbase ?_
  · intro j u hj
    have e2 : (⟨b, off, none⟩ : Addr).add j = ⟨b, off + j, none⟩ := by unfold Addr.add; split <;> simp_all
    obtain ⟨b', off', e', _, hc⟩ := hr.2 hm
    cases e'
    rw [e2]
    exact hc j u hj
  · calc (n + m) * bytes ≤ 1000000 * 1000000 := Nat.mul_le_mul (by omega) hby
      _ ≤ _ := by omega
  · intro v' w' hown' hg _
    obtain ⟨A', c', rfl, hc'⟩ := own_form hown'
    refine h A' c' w' hown' hc' ?_
    exact (Below.refl base w).grown hg hbase (fun k hk => (hown.lt k hk).1)
theorem tcells_one (ms : List T2) : ∀ u ∈ tcells ms, u.oneCell' = true := by
  intro u hu
  simp only [tcells, List.mem_flatMap] at hu
  obtain ⟨t, _, hu⟩ := hu
  simp at hu
  rcases hu with rfl | rfl <;> rfl
theorem pairs_ext {a b : List T2} (hl : a.length = b.length) (h : ∀ j, j < b.length → gp a j = gp b j ∧ gn a j = gn b j) : a = b := by
  apply List.ext_getElem hl
  intro i h1 h2
  have := h i h2
  simp only [gp, gn, List.getElem?_eq_getElem h1, List.getElem?_eq_getElem h2, Option.getD_some] at this
  exact Prod.ext this.1 this.2
theorem gp_set {ms : List T2} {k j : Nat} {t : T2} (hk : k < ms.length) : gp (ms.set k t) j = (if k = j then t.1 else gp ms j) ∧ gn (ms.set k t) j = (if k = j then t.2 else gn ms j) := by
  unfold gp gn
  rw [List.getElem?_set]
  by_cases h : k = j
  · subst h; simp [hk]
  · simp [h]

set_option maxHeartbeats 2000000 in
theorem fnMarkTwice_walk (A : Option Addr) (n c : Nat) (w : World) (hn : n ≤ maxLen) (hc : n ≤ c) (hb : Bytes w w.heap.size A n) :
    Calls Try.prog 8 #[.slice A n c] w fun e w' => e = .returned (.bool true) ∧ Below w.heap.size w w' := by
  unfold maxLen at hn
  have HB := Lib.hid hb; clear hb
  by_cases hbig : 1048576 < n
  · have hB0 := Below.refl w.heap.size w
    go_enter Try.func8, Try.ntmps8
    go_wp2_with fail
    go_ret
    exact ⟨rfl, hB0⟩
  go_enter Try.func8, Try.ntmps8
  go_wp2_with fail
  refine (DrawMarkNumber_any A n c w (by omega) hc HB.out).mono ?_
  rintro e w1 ⟨A1, c1, m, ms, x, rfl, hL, hxx, hb1⟩
  obtain ⟨b, off, rfl⟩ := hL.form
  have hm1 : 1 ≤ m ∧ m ≤ 5 := ⟨hL.2.2.1, hL.2.2.2.1⟩
  have hml := hL.2.1
  have hmc := hL.1
  have hRd := hL.2.2.2.2.2.1
  have HB1 := Lib.hid hb1; have HR1 := Lib.hid hRd; clear hb1 hRd hL hbig
  go_wp2_with fail
  refine (implMarkNumber_any _ m c1 ms x w1 (by omega) hml HR1.out).mono ?_
  rintro e w2 ⟨rfl, hb2⟩
  have HR2 := Lib.hid ((HR1.out.below hb2).more hb2.size)
  have HB2 := Lib.hid (HB1.out.trans (hb2.mono HB1.out.size)); clear hb2 HR1 HB1
  cases hok : mvB ms && inB x (gp ms 0) (gp ms (ms.length - 1))
  · have hV : mnV ms x = .tuple #[.int .i64 0, .bool false] := by simp only [mnV, hok]; rfl
    have HV := Lib.hid hV; clear hV hok
    rw [HV.out]
    go_wp2_with fail
    refine (specMarkNumber_any _ m c1 ms x w2 (by omega) hml HR2.out).mono ?_
    rintro e w3 ⟨rfl, hb3⟩
    rw [HV.out]
    have HB3 := Lib.hid (HB2.out.trans (hb3.mono HB2.out.size)); clear hb3 HR2 HB2
    go_wp2_with fail
    go_ret
    exact ⟨rfl, HB3.out⟩
  simp only [Bool.and_eq_true] at hok
  obtain ⟨hv, hx⟩ := hok
  have hx' := inB_iff.1 hx
  have HV := Lib.hid (mnV_yes hv hx)
  rw [hml] at hx'
  clear hx
  have hm := mvB_rises hv
  have hm2 := (mvB_iff.1 hv).1
  rw [hml] at hm2
  rw [HV.out]
  obtain ⟨N, hN⟩ : ∃ N, numF ms x = N := ⟨_, rfl⟩
  rw [hN] at HV ⊢
  have HM := Lib.hid hm; have HVV := Lib.hid hv; have HN := Lib.hid hN; have HML := Lib.hid hml
  clear hm hv hN hml
  go_wp2_with fail
  refine (specMarkNumber_any _ m c1 ms x w2 (by omega) HML.out HR2.out).mono ?_
  rintro e w3 ⟨rfl, hb3⟩
  rw [HV.out]
  have HR3 := Lib.hid ((HR2.out.below hb3).more hb3.size)
  have HB3 := Lib.hid (HB2.out.trans (hb3.mono HB2.out.size)); clear hb3 HR2 HB2
  have hlt3 : b < w3.heap.size := by
    obtain ⟨b', off', e', hb', _, _⟩ := HR3.out.mark (show 0 < m by omega)
    cases e'; exact hb'
  have hbn := fun k (hk : k < m) => (mvB_bd HVV.out (k := k) (by rw [HML.out]; exact hk)).2
  have HBN := Lib.hid hbn; clear hbn
  have HBD := Lib.hid (numF_bd HM.out (by rw [HML.out]; omega) hx'.1 (by rw [HML.out]; exact hx'.2))
  go_wp2_with (at_builtin; refine wpList_appN _ rfl (.tmp 53) (.tmp 54) _ rfl w3.heap.size 34 2 16 elMark _ 0 0 [] rfl (own_empty w3 _ _) b off m c1 w3.heap.size (tcells ms) rfl (by omega) (HR3.out.keep fun p hp => World.cell?_alloc_lt w3 _ p hp) (tcells_one ms) (by omega) (by omega) (by simp) ?_)
  intro A' c' w4 hown4 hc4 hb4
  obtain ⟨g, cur, rfl, hg, hblk, hfl⟩ := own_blk hown4 (by omega)
  have hb34 : Below w3.heap.size w3 w4 := ((Below.refl _ w3).alloc (Nat.le_refl _) (.cells #[] 34)).trans hb4
  clear hown4 hb4
  have HB34 := Lib.hid hb34; have HBLK := Lib.hid hblk; have HFL := Lib.hid hfl
  clear hb34 hblk hfl
  go_wp2_with fail
  go_loopw [10] (fun i wr => ∃ (k : Nat) (cur : Array Value) (zs : List T2), k ≤ m ∧ i = .int .i64 k ∧ Blk wr g 34 cur ∧ Filled cur (tcells zs) ∧ zs.length = m ∧ (∀ j, j < m → gp zs j = gp ms j ∧ gn zs j = if j < k then 2 * gn ms j else gn ms j) ∧ Below w3.heap.size w3 wr) (fun i _ => m - (intOf i).toNat)
  case atStart => exact ⟨0, cur, ms, Nat.zero_le _, rfl, HBLK.out, HFL.out, HML.out, fun j hj => ⟨rfl, by simp⟩, HB34.out⟩
  case round =>
    clear HB34 HBLK HFL cur
    obtain ⟨k, cur, zs, hk, rfl, hblk, hfl, hzl, hzs, hB⟩ := hrel
    have HB := Lib.hid hB; have HBLK := Lib.hid hblk; have HFL := Lib.hid hfl; have HZL := Lib.hid hzl; have HZS := Lib.hid hzs
    clear hB hblk hfl hzl hzs
    have hrz : Reads wr wr.heap.size 2 (some ⟨g, 0, none⟩) m (tcells zs) := HFL.out.reads HBLK.out (by rw [tcells_len, HZL.out])
    by_cases hlt : k < m
    · obtain ⟨b', off', e', hb', r1, r2⟩ := hrz.mark hlt
      cases e'
      have hgk := (HZS.out k hlt).2
      rw [if_neg (Nat.lt_irrefl k)] at hgk
      have hbk := HBN.out k hlt
      simp only [Nat.zero_add] at r1 r2
      have f2 := HBLK.out.frozen (k * 2 + 1)
      have HZ2 : Hid (Filled (cur.setIfInBounds (k * 2 + 1) (.int .i64 (2 * gn zs k))) (tcells (zs.set k (gp zs k, 2 * gn zs k)))) := by
        rw [tcells_set2]; exact HFL.out.set _ _
      have HZ3 : Hid (∀ j, j < m → gp (zs.set k (gp zs k, 2 * gn zs k)) j = gp ms j ∧ gn (zs.set k (gp zs k, 2 * gn zs k)) j = if j < k + 1 then 2 * gn ms j else gn ms j) := by
        intro j hj
        have h1 := gp_set (ms := zs) (k := k) (j := j) (t := (gp zs k, 2 * gn zs k)) (by rw [HZL.out]; exact hlt)
        rw [h1.1, h1.2]
        have h2 := HZS.out j hj
        by_cases hkj : k = j
        · subst hkj
          rw [if_pos rfl, if_pos rfl, if_pos (Nat.lt_succ_self k), hgk]
          exact ⟨h2.1, rfl⟩
        · rw [if_neg hkj, if_neg hkj]
          refine ⟨h2.1, h2.2.trans ?_⟩
          by_cases hjk : j < k
          · rw [if_pos hjk, if_pos (by omega)]
          · rw [if_neg hjk, if_neg (by omega)]
      have HZ4 : Hid ((zs.set k (gp zs k, 2 * gn zs k)).length = m) := by unfold Hid; rw [List.length_set]; exact HZL.out
      generalize zs.set k (gp zs k, 2 * gn zs k) = zz at *
      rw [← hgk] at hbk
      clear hgk
      generalize gn zs k = q at *
      generalize gp zs k = p at *
      go_wp2_with fail
      go_roundw
      case rel => exact ⟨k + 1, _, zz, by omega, by go_num, HBLK.out.set _ _, HZ2.out, HZ4.out, HZ3.out, HB.out.setCell hg _⟩
      case measure => simp [intOf]; omega
    · obtain rfl : k = m := by omega
      have hzd : zs = dbl ms := pairs_ext (by rw [HZL.out]; simp [dbl, HML.out]) fun j hj => by
        have hj' : j < k := by simpa [dbl, HML.out] using hj
        have := HZS.out j hj'
        rw [if_pos hj'] at this
        rw [gp_dbl.1, gp_dbl.2]; exact this
      subst hzd
      have hv2 := dbl_valid HVV.out
      rw [HML.out] at hv2
      have HC := Lib.hid (implMarkNumber_any _ k c' (dbl ms) x wr (by omega) HZL.out hrz)
      have HR4 := Lib.hid ((HR3.out.below HB.out).more HB.out.size)
      have HB4 := Lib.hid (HB3.out.trans (HB.out.mono HB3.out.size))
      obtain ⟨j, rfl⟩ : ∃ j, k = j + 1 := ⟨k - 1, by omega⟩
      simp only [Nat.add_sub_cancel] at hv2 hx'
      obtain ⟨b', off', e', hb', r1, r2⟩ := HR4.out.mark (show j < j + 1 by omega)
      cases e'
      have i1 : IntKind.i64.wrap (((j + 1 : Nat) : Int) - 1) = (j : Int) := (IntWalk.i64_in _ (by omega)).trans (by omega)
      have hbj := HBN.out j (by omega)
      have hbd := HBD.out
      rw [HN.out, HML.out] at hbd
      simp only [Nat.add_sub_cancel] at hbd
      clear hrz r1
      by_cases h2 : 2 * gn ms j ≤ 200000
      · rw [decide_eq_true h2] at hv2
        have hl2 : (dbl ms).length - 1 = j := by rw [HZL.out]; rfl
        have hV2 := mnV_yes (x := x) hv2 (inB_iff.2 (by rw [hl2, gp_dbl.1, gp_dbl.1]; exact hx'))
        have hd := numF_dbl HVV.out hv2 hx'.1
        rw [HN.out] at hd
        rw [hV2] at HC
        have hn0 := HBN.out 0 (by omega)
        have d0 : decide (200000 < 2 * gn ms j) = false := by simpa using h2
        clear hv2 hV2 hl2
        generalize numF (dbl ms) x = N2 at *
        generalize gn ms j = q at *
        go_wp2_with fail
        refine HC.out.mono ?_
        rintro e w5 ⟨rfl, hb5⟩
        have HB5 := Lib.hid (HB4.out.trans (hb5.mono HB4.out.size))
        replace r2 := (hb5.cell (p := ⟨b, off + j * 2 + 1, none⟩) hb').trans r2
        clear hb5 HC
        rcases hd with hd | hd
        · have d1 : (N2 == 2 * N) = true := by simpa using hd
          clear hd
          go_wp2_with fail
          go_ret
          exact ⟨rfl, HB5.out⟩
        · have d1 : (N2 == 2 * N) = false := by simp; omega
          have d2 : (N2 == 2 * N + 1) = true := by simpa using hd
          clear hd
          go_wp2_with fail
          go_ret
          exact ⟨rfl, HB5.out⟩
      · rw [decide_eq_false h2] at hv2
        have hV2 := mnV_no1 (x := x) hv2
        rw [hV2] at HC
        have d0 : decide (200000 < 2 * gn ms j) = true := by simpa using h2
        clear hv2 hV2
        generalize gn ms j = q at *
        go_wp2_with fail
        refine HC.out.mono ?_
        rintro e w5 ⟨rfl, hb5⟩
        have HB5 := Lib.hid (HB4.out.trans (hb5.mono HB4.out.size))
        replace r2 := (hb5.cell (p := ⟨b, off + j * 2 + 1, none⟩) hb').trans r2
        clear hb5 HC
        go_wp2_with fail
        go_ret
        exact ⟨rfl, HB5.out⟩
end Go.Proofs.Ytogbjneldipnpaa
