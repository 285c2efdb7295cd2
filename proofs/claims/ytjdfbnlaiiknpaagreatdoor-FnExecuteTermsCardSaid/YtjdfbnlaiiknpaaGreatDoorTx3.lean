/- Texts of terms and of lists of terms. -/
import Derived.Test.YtjdfbnlaiiknpaaGreatDoorTm1
import Derived.Test.YtjdfbnlaiiknpaaGreatDoorWords2
namespace Go.Proofs.YtjdfbnlaiiknpaaGreatDoor
open Go.RowKit Go.Sort
attribute [local go_sem ↓] Go.wp_at_zero Go.wp_at_succ

def lts : List UInt8 := [83, 80, 68, 70, 71, 72, 73, 75, 76]
/-- The text of a term. -/
def tmT (t : T2) : List UInt8 := if tvB t = true then Lib.decDigits (t.1.toNat + 1) ++ [lts.getD t.2.toNat 0] else []
theorem tmT_len {t : T2} (h : tvB t = true) : (tmT t).length = 2 := by
  have hb := tvB_iff.1 h
  unfold tmT
  rw [if_pos h, Lib.decDigits_one (by omega)]; rfl
theorem lts_cut (l : Nat) (h : l ≤ 8) : (⟨#[83, 80, 68, 70, 71, 72, 73, 75, 76]⟩ : ByteArray).extract l (l + 1) = bs [lts.getD l 0] := by
  have hl : l = 0 ∨ l = 1 ∨ l = 2 ∨ l = 3 ∨ l = 4 ∨ l = 5 ∨ l = 6 ∨ l = 7 ∨ l = 8 := by omega
  rcases hl with rfl | rfl | rfl | rfl | rfl | rfl | rfl | rfl | rfl <;> rfl
theorem slice_lts (l : Nat) (h : l ≤ 8) (W : World) :
    (Instr.slice 9 (.string ⟨#[83, 80, 68, 70, 71, 72, 73, 75, 76]⟩) (some (.int .i64 (l : Int))) (some (.int .i64 ((l : Int) + 1))) none).run Tryz.prog W = .ok (.string (bs [lts.getD l 0])) W := by
  rw [run_slice_string_if (h := Tryz.underlying9), if_pos ⟨by omega, by show (l : Int) + 1 ≤ 9; omega⟩, if_pos ⟨by omega, by omega⟩, Int.toNat_natCast, show ((l : Int) + 1).toNat = l + 1 by omega, lts_cut l h]

set_option maxHeartbeats 2000000 in
theorem implTermText_any (t : T2) (w : World) :
    Calls Tryz.prog 31 #[.agg #[.int .i64 t.1, .int .i64 t.2]] w fun e w' => e = .returned (.string (bs (tmT t))) ∧ Below w.heap.size w w' := by
  have HB0 := Lib.hid ((Below.refl w.heap.size w).alloc (Nat.le_refl _) (.cells #[.int .i64 t.1, .int .i64 t.2] 39))
  have HX0 := Lib.hid (Blk.new w 39 #[.int .i64 t.1, .int .i64 t.2])
  have HV := Lib.hid (fun W => implTermValid_any t W)
  cases hv : tvB t
  · have he : tmT t = [] := by unfold tmT; rw [hv]; simp
    rw [he, bs_nil]; rw [hv] at HV; clear hv he
    go_enter Tryz.func31, Tryz.ntmps31
    go_wp2_with fail
    refine (HV.out _).mono ?_
    rintro e w1 ⟨rfl, hb1⟩
    have HB := Lib.hid (HB0.out.trans (hb1.mono HB0.out.size)); clear hb1
    go_wp2_with fail
    go_ret
    exact ⟨rfl, HB.out⟩
  have hb := tvB_iff.1 hv
  have he : bs (tmT t) = bs (Lib.decDigits (t.1.toNat + 1)) ++ bs [lts.getD t.2.toNat 0] := by unfold tmT; rw [if_pos hv, bs_append]
  rw [he]; rw [hv] at HV; clear hv he
  obtain ⟨a, b⟩ := t
  simp only at *
  obtain ⟨s, rfl⟩ := Int.eq_ofNat_of_zero_le hb.1.1
  obtain ⟨l, rfl⟩ := Int.eq_ofNat_of_zero_le hb.2.1
  simp only [Int.toNat_natCast]
  have hi := fun W => itoaSmall_any (s + 1) (by omega) W
  rw [show (((s + 1 : Nat) : Int)) = (s : Int) + 1 by omega] at hi
  have HI := Lib.hid hi; clear hi
  have hz1 : (bs (Lib.decDigits (s + 1))).size ≤ 7 := by rw [bs_size]; exact dig_len7 (by omega)
  have hz2 : (bs [lts.getD l 0]).size ≤ 1 := Nat.le_of_eq (bs_size _)
  have HSL := Lib.hid (fun W => slice_lts l (by omega) W)
  generalize bs (Lib.decDigits (s + 1)) = D at *
  generalize bs [lts.getD l 0] = V at *
  have u1 : IntKind.i64.wrap ((s : Int) + 1) = (s : Int) + 1 := IntWalk.i64_in _ (by omega)
  have u2 : IntKind.i64.wrap ((l : Int) + 1) = (l : Int) + 1 := IntWalk.i64_in _ (by omega)
  have HU := Lib.hid (And.intro u1 u2); clear u1 u2
  go_enter Tryz.func31, Tryz.ntmps31
  go_wp2_with fail
  refine (HV.out _).mono ?_
  rintro e w1 ⟨rfl, hb1⟩
  have HB := Lib.hid (HB0.out.trans (hb1.mono HB0.out.size))
  obtain ⟨x1, x2, _, _⟩ := blk2 (HX0.out.sub hb1)
  clear hb1
  have k1 := After.cell x1
  have k2 := After.cell x2
  have k3 := HSL.out
  obtain ⟨u1, u2⟩ := HU.out
  go_wp2_with fail
  refine wp_region_after (by kernel_rfl) (by kernel_rfl) ?_
  repeat (go_big_quiet_step ((go_at_call 27; exact after_same _ (HI.out _))))
  refine wpQuiet_nil ?_
  intro w9 hw'
  obtain ⟨⟨w9', hb9⟩, hw''⟩ := hw'
  subst hw''
  have HB9 := Lib.hid (HB.out.trans (hb9.mono HB.out.size)); clear hb9 k3 u1 u2
  go_wp2_with fail
  go_ret
  exact ⟨rfl, HB9.out⟩

/-- The texts of the first k terms, joined. -/
def jn (ts : List T2) : Nat → List UInt8
  | 0 => []
  | k + 1 => (if k = 0 then [] else jn ts k ++ [32]) ++ tmT (ts.getD k (0, 0))
def tsT (ts : List T2) : List UInt8 := if ts.length = 0 then [45] else if ts.all tvB = true then jn ts ts.length else []
theorem jn_len (ts : List T2) (h : ∀ i, i < ts.length → tvB (ts.getD i (0, 0)) = true) (k : Nat) (hk : k + 1 ≤ ts.length) : (jn ts (k + 1)).length = 3 * k + 2 := by
  induction k with
  | zero =>
    show (([] : List UInt8) ++ tmT (ts.getD 0 (0, 0))).length = _
    rw [List.nil_append, tmT_len (h 0 (by omega))]
  | succ k ih =>
    have h1 := ih (by omega)
    have h2 := tmT_len (h (k + 1) (by omega))
    show ((if k + 1 = 0 then [] else jn ts (k + 1) ++ [32]) ++ tmT (ts.getD (k + 1) (0, 0))).length = _
    rw [if_neg (by omega), List.length_append, List.length_append, h1, h2]; simp; omega
theorem jn_le (ts : List T2) (k : Nat) (h : ∀ i, i < k → tvB (ts.getD i (0, 0)) = true) (hk : k ≤ ts.length) : (jn ts k).length ≤ 3 * k := by
  induction k with
  | zero => simp [jn]
  | succ k ih =>
    have h1 := ih (fun i hi => h i (by omega)) (by omega)
    have h2 := tmT_len (h k (by omega))
    show ((if k = 0 then [] else jn ts k ++ [32]) ++ tmT (ts.getD k (0, 0))).length ≤ _
    split
    · rw [List.nil_append, h2]; omega
    · rw [List.length_append, List.length_append, h2]; simp; omega
theorem join_snoc (xs : List (List UInt8)) (y sep : List UInt8) : Lib.join (xs ++ [y]) sep = (if xs = [] then [] else Lib.join xs sep ++ sep) ++ y := by
  cases xs with
  | nil => simp [Lib.join_one]
  | cons x xs =>
    rw [if_neg (by simp), List.cons_append, Lib.join_cons, Lib.join_cons]
    simp [Lib.joinTail, List.append_assoc]
theorem jn_join (ts : List T2) (k : Nat) (hk : k ≤ ts.length) : Lib.join ((ts.take k).map tmT) [32] = jn ts k := by
  induction k with
  | zero => rfl
  | succ k ih =>
    have hlt : k < ts.length := by omega
    rw [List.take_succ_eq_append_getElem hlt, List.map_append, List.map_cons, List.map_nil, join_snoc, ih (by omega)]
    show _ = (if k = 0 then [] else jn ts k ++ [32]) ++ tmT (ts.getD k (0, 0))
    rw [show ts.getD k (0, 0) = ts[k] by simp [List.getD, List.getElem?_eq_getElem hlt]]
    congr 1
    by_cases h0 : k = 0
    · subst h0; simp
    · rw [if_neg h0, if_neg (by simp [h0]; intro h; rw [h] at hlt; simp at hlt)]
theorem tsT_none {ts : List T2} (h : ts.length = 0) : tsT ts = [45] := by unfold tsT; rw [if_pos h]
theorem tsT_all {ts : List T2} (h0 : ts.length ≠ 0) (h : ∀ i, i < ts.length → tvB (ts.getD i (0, 0)) = true) : tsT ts = jn ts ts.length := by
  unfold tsT
  rw [if_neg h0, if_pos]
  rw [List.all_eq_true]
  intro t ht
  obtain ⟨i, hi, rfl⟩ := List.getElem_of_mem ht
  have := h i hi
  rwa [show ts.getD i (0, 0) = ts[i] by simp [List.getD, List.getElem?_eq_getElem hi]] at this
theorem tsT_bad {ts : List T2} {i : Nat} (hi : i < ts.length) (h : tvB (ts.getD i (0, 0)) = false) : tsT ts = [] := by
  unfold tsT
  rw [if_neg (by omega), if_neg]
  rw [List.all_eq_true]
  intro hall
  have := hall ts[i] (List.getElem_mem hi)
  rw [show ts.getD i (0, 0) = ts[i] by simp [List.getD, List.getElem?_eq_getElem hi], this] at h
  cases h
theorem Reads.trm {w : World} {B : Nat} {A : Option Addr} {n : Nat} {ts : List T2} (h : Reads w B 2 A n (tcells ts)) {k : Nat} (hk : k < n) :
    ∃ b off, A = some ⟨b, off, none⟩ ∧ b < B ∧ w.cell? ⟨b, off + k * 2, none⟩ = some (.int .i64 (ts.getD k (0, 0)).1) ∧ w.cell? ⟨b, off + k * 2 + 1, none⟩ = some (.int .i64 (ts.getD k (0, 0)).2) := by
  obtain ⟨b, off, x, y, e, hb, h1, h2, H3, _⟩ := h.term hk
  have h3 := H3.out
  exact ⟨b, off, e, hb, by simp [List.getD, h3, h1], by simp [List.getD, h3, h2]⟩

theorem wpList_app1b {P : Program} (w : World) {ops : Array Oper} {rest : List Oper} {o : Oper} {a : Act} {Q : Exit → Act → World → Prop} (hgd : o.guard = none) (s x : Operand) (t : TypeId)
    (ho : o.op = .call { callee := .builtin .append, args := #[s, x], argTypes := #[t, t] })
    (base : Nat) (e : TypeId) (size bytes : Nat) (hE : ElemOk P t e size bytes)
    (A : Option Addr) (c n : Nat) (xs : List Value) (hs : a.eval s = .slice A n c) (hown : w.ownsRow base e size (.slice A n c) n xs)
    (L : Nat) (cs : Array Value) (hx : a.eval x = .slice (some ⟨L, 0, none⟩) 1 1) (hL : Blk w L e cs) (hcs : cs.size = size) (h1 : ∀ u ∈ cs.toList, u.oneCell' = true)
    (hn : n ≤ 2000000) (hby : bytes ≤ 1000) (hbase : base ≤ w.heap.size)
    (h : ∀ A' c' w', w'.ownsRow base e size (.slice A' (n + 1) c') (n + 1) (xs ++ cs.toList) → n + 1 ≤ c' → Below base w w' → wpList P ops Q rest (a.put o.dst (.slice A' (n + 1) c')) w') : wpList P ops Q (o :: rest) a w := by
  obtain ⟨ht, i, z, hi, hz, hsize, hbytes, hzs, hsz⟩ := hE
  refine wpList_append_own w hgd s x t ho base e i z size bytes ht hi hz hsize hbytes hzs hsz _ n xs hs hown ⟨L, 0, none⟩ 1 1 cs.toList hx (by simp [hcs]) ?_ h1 (by unfold maxLen; omega) ?_ hbase ?_
  · intro j u hj
    have : (⟨L, 0, none⟩ : Addr).add j = ⟨L, j, none⟩ := by unfold Addr.add; split <;> simp_all
    rw [this, hL.cell]
    simpa using hj
  · calc (n + 1) * bytes ≤ 2000001 * 1000 := Nat.mul_le_mul (by omega) hby
      _ ≤ _ := by omega
  · intro v' w' hown' hg _
    obtain ⟨A', c', rfl, hc'⟩ := own_form hown'
    refine h A' c' w' hown' hc' ?_
    exact (Below.refl base w).grown hg hbase (fun k hk => (hown.lt k hk).1)
theorem run_mk0 {P : Program} {t e : TypeId} {size bytes : Nat} (hE : ElemOk P t e size bytes) (n : Nat) (hb : bytes * n ≤ 281474976710656) (hn : n ≤ 9223372036854775807) :
    ∃ cs : Array Value, cs.size = n * size ∧ ∀ w : World, (Instr.makeSlice t (.int .i64 0) (.int .i64 (n : Int))).run P w = .ok (.slice (some ⟨w.heap.size, 0, none⟩) 0 n) (w.alloc (.cells cs e)) := by
  obtain ⟨ht, i, z, hi, hz, hsize, hbytes, hzs, hsz⟩ := hE
  refine ⟨madeCells z.cells (n * i.size), by rw [size_madeCells, hsize], fun w => ?_⟩
  have hb' : (i.bytes : Int) * (n : Int) ≤ 281474976710656 := by
    have h : ((i.bytes * n : Nat) : Int) ≤ 281474976710656 := by rw [hbytes]; omega
    rwa [Int.natCast_mul] at h
  have hr := run_make (P := P) w t e i z ht hi hz .i64 .i64 0 n (by omega) (by omega) hb' (by omega)
  simpa using hr
theorem elStr : ElemOk Tryz.prog 45 9 1 16 := elemOk Tryz.underlying45 (z := .string ⟨#[]⟩) (by kernel_rfl) rfl (by omega)
theorem own_blk2 {w : World} {base : Nat} {e : TypeId} {size n c : Nat} {A : Option Addr} {xs : List Value} (h : w.ownsRow base e size (.slice A n c) n xs) (hn : 0 < n) :
    ∃ g cur, A = some ⟨g, 0, none⟩ ∧ base ≤ g ∧ Blk w g e cur ∧ Filled cur xs := by
  have hr := own_reads h
  rcases h.2 with ⟨hv, h0⟩ | ⟨g, cap, cur, hv, hb, hh, _⟩
  · omega
  · have hA : A = some ⟨g, 0, none⟩ := by injection hv
    subst hA
    obtain ⟨b, off, e1, _, hc⟩ := hr.2 hn
    cases e1
    refine ⟨g, cur, rfl, hb, hh, fun j u hu => ?_⟩
    have := hc j u hu
    rw [Nat.zero_add] at this
    rw [← this]
    exact (Blk.cell (t := e) hh j).symm
def scells (ls : List (List UInt8)) : List Value := ls.map fun l => .string (bs l)

set_option maxHeartbeats 2000000 in
theorem implTermsText_any (A : Option Addr) (n c : Nat) (ts : List T2) (w : World) (hn : n ≤ 1048576) (hts : ts.length = n) (hr : Reads w w.heap.size 2 A n (tcells ts)) :
    Calls Tryz.prog 11 #[.slice A n c] w fun e w' => e = .returned (.string (bs (tsT ts))) ∧ Below w.heap.size w w' := by
  have HR := Lib.hid (fun W (hB : Below w.heap.size w W) => (hr.below hB).more hB.size); clear hr
  have HT := Lib.hid hts; clear hts
  have hB0 := Below.refl w.heap.size w
  by_cases h00 : n = 0
  · have HE := Lib.hid (tsT_none (HT.out.trans h00))
    subst h00
    go_enter Tryz.func11, Tryz.ntmps11
    go_wp2_with fail
    go_ret
    exact ⟨ret_str (by rw [HE.out]; rfl), hB0⟩
  have e00 : ((n : Int) == 0) = false := by simp; omega
  have H00 := Lib.hid h00; clear h00
  obtain ⟨cs, hcs, hmk⟩ := run_mk0 elStr n (by omega) (by omega)
  have HO := Lib.hid (World.ownsRow_made (base := w.heap.size) (e := 9) (size := 1) w cs n (Nat.le_refl _) (by unfold maxLen; omega) hcs)
  have HB1 := Lib.hid (hB0.alloc hB0.size (.cells cs 9)); clear hB0 hcs
  go_enter Tryz.func11, Tryz.ntmps11
  go_wp2_with fail
  clear hmk
  go_loopw [3, 14] (fun v i wr => ∃ (k : Nat) (A' : Option Addr) (c' : Nat), k ≤ n ∧ i = .int .i64 k ∧ v = .slice A' k c' ∧ k ≤ c' ∧ Hid (wr.ownsRow w.heap.size 9 1 (.slice A' k c') k (scells ((ts.take k).map tmT))) ∧ Hid (∀ i, i < k → tvB (ts.getD i (0, 0)) = true) ∧ Hid (Below w.heap.size w wr)) (fun _ i _ => n - (intOf i).toNat)
  case atStart => exact ⟨0, _, _, Nat.zero_le _, rfl, rfl, Nat.zero_le _, HO.out, fun i hi => absurd hi (Nat.not_lt_zero _), HB1.out⟩
  case round =>
    clear HO HB1
    obtain ⟨k, A', c', hk, rfl, rfl, hkc, HW, HOK, HB⟩ := hrel
    by_cases hlt : k < n
    · obtain ⟨b, off, rfl, hb, h1, h2⟩ := (HR.out wr HB.out).trm hlt
      have HV := Lib.hid (fun W => implTermValid_any (ts.getD k (0, 0)) W)
      have HX := Lib.hid (fun W => implTermText_any (ts.getD k (0, 0)) W)
      cases hv : tvB (ts.getD k (0, 0))
      · have HE := Lib.hid (tsT_bad (by rw [HT.out]; exact hlt) hv)
        rw [hv] at HV
        clear hv HX
        generalize (ts.getD k (0, 0)).1 = x at *
        generalize (ts.getD k (0, 0)).2 = y at *
        have HB1 := Lib.hid (HB.out.alloc HB.out.size (.cells #[.int .i64 x, .int .i64 y] 39))
        go_wp2_with fail
        refine (HV.out _).mono ?_
        rintro e w1 ⟨rfl, hb1⟩
        have HB2 := Lib.hid (HB1.out.trans (hb1.mono HB1.out.size)); clear hb1
        go_wp2_with fail
        go_ret
        exact ⟨ret_str (by rw [HE.out, bs_nil]), HB2.out⟩
      have HOK2 : Hid (∀ i, i < k + 1 → tvB (ts.getD i (0, 0)) = true) := fun i hi => by
        rcases Nat.lt_or_ge i k with h | h
        · exact HOK.out i h
        · obtain rfl : i = k := by omega
          exact hv
      have HJ : Hid (scells ((ts.take (k + 1)).map tmT) = scells ((ts.take k).map tmT) ++ [.string (bs (tmT (ts.getD k (0, 0))))]) := by
        have hl : k < ts.length := by rw [HT.out]; exact hlt
        unfold Hid scells
        rw [List.take_succ_eq_append_getElem hl, List.map_append, List.map_append, show ts.getD k (0, 0) = ts[k] by simp [List.getD, List.getElem?_eq_getElem hl]]
        rfl
      rw [hv] at HV
      clear hv
      generalize bs (tmT (ts.getD k (0, 0))) = T at *
      generalize (ts.getD k (0, 0)).1 = x at *
      generalize (ts.getD k (0, 0)).2 = y at *
      have HB1 := Lib.hid (HB.out.alloc HB.out.size (.cells #[.int .i64 x, .int .i64 y] 39))
      have HX1 := Lib.hid (Blk.new wr 39 #[.int .i64 x, .int .i64 y])
      have HW1 := Lib.hid (own_below HW.out ((Below.refl _ _).alloc (Nat.le_refl _) (.cells #[.int .i64 x, .int .i64 y] 39)))
      go_wp2_with fail
      refine (HV.out _).mono ?_
      rintro e w1 ⟨rfl, hb1⟩
      have HB2 := Lib.hid (HB1.out.trans (hb1.mono HB1.out.size))
      have HW2 := Lib.hid (own_below HW1.out hb1)
      obtain ⟨x1, x2, _, _⟩ := blk2 (HX1.out.sub hb1)
      clear hb1 HB1 HW1
      go_wp2_with fail
      refine (HX.out _).mono ?_
      rintro e w2 ⟨rfl, hb2⟩
      have HB3 := Lib.hid (HB2.out.trans (hb2.mono HB2.out.size))
      have HW3 := Lib.hid (own_below HW2.out hb2)
      have hs3 := HB3.out.size
      clear hb2 x1 x2
      go_wp2_with (at_builtin; refine wpList_app1b _ rfl (.tmp 21) (.tmp 24) _ rfl w.heap.size 9 1 16 elStr A' c' k (scells ((ts.take k).map tmT)) rfl (HW3.out.alloc _) w2.heap.size #[.string T] rfl (Blk.new w2 _ _) rfl ?h1 (by omega) (by omega) (by simp; omega) ?_)
      case h1 => simp [Value.oneCell']
      intro A2 c2 w4 hown4 hc4 hb4
      have HW4 := Lib.hid hown4
      have HB4 := Lib.hid ((HB3.out.alloc HB3.out.size (.cells #[.string T] 9)).trans hb4); clear hown4 hb4
      go_wp2_with fail
      go_roundw
      case rel =>
        refine ⟨k + 1, A2, c2, by omega, by go_num, rfl, hc4, ?_, HOK2, HB4⟩
        unfold Hid
        rw [HJ.out]; simpa only [List.map_take] using HW4.out
      case measure => simp [intOf]; omega
    · obtain rfl : k = n := by omega
      have he := tsT_all (ts := ts) (by rw [HT.out]; exact H00.out) (fun i hi => HOK.out i (by rw [HT.out] at hi; exact hi))
      have hjl := jn_le ts k HOK.out (by rw [HT.out]; exact Nat.le_refl _)
      rw [HT.out] at he
      have hjj := jn_join ts k (by rw [HT.out]; exact Nat.le_refl _)
      obtain ⟨g, cur, rfl, hg, hblk, hfl⟩ := own_blk2 HW.out (by have := H00.out; omega)
      have hmm : (((ts.take k).map fun t => bs (tmT t)).map fun x : ByteArray => x.data.toList) = (ts.take k).map tmT := by
        rw [List.map_map]
        congr 1
      have hln : ((ts.take k).map fun t => bs (tmT t)).length = k := by rw [List.length_map, List.length_take, HT.out, Nat.min_self]
      have hj := Tryz.strings_Join g 0 c' ((ts.take k).map fun t => bs (tmT t)) ⟨#[32]⟩ wr (fun j x hx => by
        rw [Nat.zero_add, hblk.cell]
        refine hfl j _ ?_
        unfold scells
        rw [List.map_map]
        rw [List.getElem?_map] at hx ⊢
        cases hq : (ts.take k)[j]? with
        | none => rw [hq] at hx; cases hx
        | some l => rw [hq] at hx; cases hx; rfl) hblk.lt (by rw [hln]; omega) (by rw [hln]; exact hkc) (by rw [hmm]; show (Lib.join _ [32]).length ≤ _; rw [hjj]; omega)
      rw [hmm, show (⟨#[32]⟩ : ByteArray).data.toList = [32] from rfl, hjj, hln] at hj
      have HJ := Lib.hid hj
      have HE := Lib.hid he
      clear hj he hjl hjj hblk hfl
      go_wp2_with fail
      refine HJ.out.mono ?_
      rintro e w1 ⟨rfl, hb1⟩
      have HB1 := Lib.hid (HB.out.trans (hb1.mono HB.out.size)); clear hb1
      go_wp2_with fail
      go_ret
      exact ⟨ret_str (by rw [HE.out]; rfl), HB1.out⟩
end Go.Proofs.YtjdfbnlaiiknpaaGreatDoor
