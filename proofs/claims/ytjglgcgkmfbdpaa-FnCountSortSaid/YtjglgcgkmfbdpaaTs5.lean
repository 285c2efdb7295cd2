/- TermsSort: a permutation of its list. -/
import Derived.Test.YtjglgcgkmfbdpaaTs4
import Derived.Test.YtjglgcgkmfbdpaaCnt5
import Derived.Test.YtjglgcgkmfbdpaaDraw2
import Derived.Test.YtjglgcgkmfbdpaaApp
namespace Go.Proofs.Ytjglgcgkmfbdpaa
open Go.RowKit Go.Sort
attribute [local go_sem ↓] Go.wp_at_zero Go.wp_at_succ

theorem run_mk0 {P : Program} {t e : TypeId} {size bytes : Nat} (hE : ElemOk P t e size bytes) (n : Nat) (hb : bytes * n ≤ 281474976710656) (hn : n ≤ 9223372036854775807) :
    ∃ cs : Array Value, cs.size = n * size ∧ ∀ w : World, (Instr.makeSlice t (.int .i64 0) (.int .i64 (n : Int))).run P w = .ok (.slice (some ⟨w.heap.size, 0, none⟩) 0 n) (w.alloc (.cells cs e)) := by
  obtain ⟨ht, i, z, hi, hz, hsize, hbytes, hzs, hsz⟩ := hE
  refine ⟨madeCells z.cells (n * i.size), by rw [size_madeCells, hsize], fun w => ?_⟩
  have hb' : (i.bytes : Int) * (n : Int) ≤ 281474976710656 := by
    have h : ((i.bytes * n : Nat) : Int) ≤ 281474976710656 := by rw [hbytes]; omega
    rwa [Int.natCast_mul] at h
  have hr := run_make (P := P) w t e i z ht hi hz .i64 .i64 0 n (by omega) (by omega) hb' (by omega)
  simpa using hr
def gT (ts : List T2) (k : Nat) : T2 := ts[k]?.getD (0, 0)
theorem tcells_one (ts : List T2) : ∀ u ∈ tcells ts, u.oneCell' = true := by
  intro u hu
  simp only [tcells, List.mem_flatMap] at hu
  obtain ⟨t, _, h⟩ := hu
  simp at h
  rcases h with rfl | rfl <;> rfl
theorem filled_own {w : World} {base : Nat} {e : TypeId} {size n c g : Nat} {xs : List Value} (h : w.ownsRow base e size (.slice (some ⟨g, 0, none⟩) n c) n xs) : ∃ cur, Blk w g e cur ∧ Filled cur xs ∧ base ≤ g := by
  rcases h.2 with ⟨hv, _⟩ | ⟨g', cap, cur, hv, hb, hh, _, _, _, ht⟩
  · cases hv
  · injection hv with h1
    injection h1 with h1
    injection h1 with h1
    subst h1
    refine ⟨cur, hh, fun j u hu => ?_, hb⟩
    rw [← ht] at hu
    rw [List.getElem?_take] at hu
    split at hu
    · simpa using hu
    · cases hu
theorem holdsT {w : World} {g : Nat} {e : TypeId} {cur : Array Value} {ts : List T2} (hb : Blk w g e cur) (hf : Filled cur (tcells ts)) : HoldsK encT 2 w g 0 ts.toArray := by
  intro j hj
  rw [size_flatK] at hj
  simp only [List.size_toArray] at hj
  rw [get_flatK _ _ _ _ (by simpa using hj), Nat.zero_add]
  refine ⟨?_, hb.frozen j⟩
  rw [hb.cell]
  have hjn : j / 2 < ts.length := by omega
  obtain ⟨c1, c2⟩ := tcells_at ts (j / 2) hjn
  have hg : ts.toArray[j / 2]! = ts[j / 2] := by simp [hjn]
  rw [hg]
  have h3 : j % 2 = 0 ∨ j % 2 = 1 := by omega
  rcases h3 with h | h
  · have e : j = j / 2 * 2 := by omega
    rw [← e] at c1
    rw [hf _ _ c1, h]; rfl
  · have e : j = j / 2 * 2 + 1 := by omega
    rw [← e] at c2
    rw [hf _ _ c2, h]; rfl
theorem readsT {w : World} {g : Nat} {d : Array T2} (h : HoldsK encT 2 w g 0 d) (hg : g < w.heap.size) : Reads w w.heap.size 2 (some ⟨g, 0, none⟩) d.size (tcells d.toList) := by
  refine ⟨by rw [tcells_len]; simp, fun _ => ⟨g, 0, rfl, hg, fun j u hu => ?_⟩⟩
  have hj : j < d.size * 2 := by
    rcases Nat.lt_or_ge j (d.size * 2) with h | h
    · exact h
    · rw [List.getElem?_eq_none (by rw [tcells_len]; simpa using h)] at hu; cases hu
  have hjn : j / 2 < d.toList.length := by simp; omega
  obtain ⟨c1, c2⟩ := tcells_at d.toList (j / 2) hjn
  have hgl : d[j / 2]! = d.toList[j / 2] := by
    have : j / 2 < d.size := by simpa using hjn
    simp [this]
  have h3 : j % 2 = 0 ∨ j % 2 = 1 := by omega
  rcases h3 with h' | h'
  · have e : j = j / 2 * 2 := by omega
    have k := (h.cell (i := j / 2) (c := 0) (by omega) (by omega)).1
    rw [hgl] at k
    rw [← e, hu] at c1
    rw [show 0 + j = 0 + j / 2 * 2 + 0 by omega, k, c1]; rfl
  · have e : j = j / 2 * 2 + 1 := by omega
    have k := (h.cell (i := j / 2) (c := 1) (by omega) (by omega)).1
    rw [hgl] at k
    rw [← e, hu] at c2
    rw [show 0 + j = 0 + j / 2 * 2 + 1 by omega, k, c2]; rfl
theorem permT {d d' : Array T2} (h : PermIn 0 d.size d d') : d'.size = d.size ∧ d'.toList.Perm d.toList := by
  obtain ⟨h1, _, h2⟩ := h
  refine ⟨h1, ?_⟩
  have e1 : d'.extract 0 d.size = d' := by rw [← h1]; simp
  have e2 : d.extract 0 d.size = d := by simp
  rwa [e1, e2] at h2
theorem below_growT (w : World) (os : Array Obj) : Below w.heap.size w (grow w os) :=
  ⟨rfl, rfl, rfl, by show w.heap.size ≤ (w.heap ++ os).size; simp, fun i hi => by
    show (w.heap ++ os)[i]? = _
    rw [Array.getElem?_append_left hi]⟩

set_option maxHeartbeats 2000000 in
theorem ordered_any (A : Option Addr) (n c : Nat) (ts : List T2) (w : World) (hn : n < 20) (hts : ts.length = n) (hr : Reads w w.heap.size 2 A n (tcells ts)) :
    Calls Try.prog 43 #[.slice A n c, .func (.func 44) #[] #[]] w fun e w' =>
      ∃ (g c' : Nat) (ts' : List T2), e = .returned (.slice (some ⟨g, 0, none⟩) n c') ∧ ts'.Perm ts ∧ n ≤ c' ∧ Reads w' w'.heap.size 2 (some ⟨g, 0, none⟩) n (tcells ts') ∧ Below w.heap.size w w' := by
  obtain ⟨cs, hcs, hmk⟩ := run_mk0 elTerm n (by omega) (by omega)
  have HO := Lib.hid (World.ownsRow_made (base := w.heap.size) (e := 38) (size := 2) w cs n (Nat.le_refl _) (by unfold maxLen; omega) hcs)
  have HB1 := Lib.hid ((Below.refl w.heap.size w).alloc (Nat.le_refl _) (.cells cs 38)); clear hcs
  have HR := Lib.hid (hr.keep (w' := w.alloc (.cells cs 38)) fun p hp => World.cell?_alloc_lt w _ p hp); clear hr
  have HT := Lib.hid hts; clear hts
  go_enter Try.func43, Try.ntmps43
  go_wp2_with (at_builtin; refine wpList_appR2 _ rfl (.tmp 8) (.tmp 9) _ rfl w.heap.size 38 2 16 elTerm _ n 0 [] rfl HO.out w.heap.size A n c (tcells ts) rfl HR.out (tcells_one ts) n (Nat.zero_add n).symm (by omega) (by omega) (by simp) ?_)
  clear hmk
  intro A' c' w1 hown hc hb _ g hA
  subst hA
  obtain ⟨cur, hblk, hfil, hg⟩ := filled_own hown
  have HS := Lib.hid (sortStableT_any g n c' ts w1 HT.out hn hblk.lt (holdsT hblk hfil))
  have HH := Lib.hid (holdsT hblk hfil)
  have hglt := hblk.lt
  have HB2 := Lib.hid (HB1.out.trans hb)
  clear hown hblk hfil hb
  go_wp2_with fail
  refine HS.out.mono ?_
  rintro e w2 ⟨rfl, m, os, hw2⟩
  have HW2 := Lib.hid hw2; clear hw2
  go_wp2_with fail
  go_ret
  have hsz : ts.toArray.size = n := by simpa using HT.out
  have hp := (insertionSort_holds swoT ts.toArray 0 n (Nat.zero_le _) (by omega)).1
  rw [← hsz] at hp
  obtain ⟨h1, h2⟩ := permT hp
  rw [hsz] at h1 h2
  have hw2 := HW2.out
  generalize Sort.insertionSort (ltOf cfT) ts.toArray 0 n = d' at *
  have hH' := holdsK_sortWorldK_c encT 2 w1 g 0 ts.toArray d' m os HH.out hglt (h1.trans hsz.symm)
  have hlt := Nat.lt_of_lt_of_le hglt (size_sortWorldK_c encT 2 w1 g 0 m d' os)
  have hr := readsT hH' hlt
  rw [h1] at hr
  have hbb : Below w.heap.size w w2 := by
    rw [hw2]
    unfold sortWorldK
    have hp1 : Below w.heap.size w1 (putRowK encT 2 (Sort.ahead w1 m) g 0 d') := Lib.below_putRow (Below.refl _ _) hg
    exact HB2.out.trans (hp1.trans ((below_growT _ os).mono (Nat.le_trans HB2.out.size hp1.size)))
  refine ⟨g, c', d'.toList, rfl, by simpa using h2, hc, ?_, hbb⟩
  rw [hw2]; exact hr

theorem termListValid_any (A : Option Addr) (n c : Nat) (ts : List T2) (w : World) (hn : n ≤ 400) (hts : ts.length = n) (hr : Reads w w.heap.size 2 A n (tcells ts)) (hall : ts.all tvB = true) :
    Calls Try.prog 42 #[.slice A n c] w fun e w' => e = .returned (.bool true) ∧ Below w.heap.size w w' := by
  have HW := Lib.hid (implTermsWeight_any A n c ts w (by omega) hts hr)
  have hws : wtS ts = wtSum ts := by unfold wtS; rw [hall]; rfl
  have hb := (wtSum_bd ts hall).1
  rw [hws] at HW
  clear hr hts hall hws
  generalize wtSum ts = q at *
  have i1 : (n : Int) ≤ 400 := by omega
  go_enter Try.func42, Try.ntmps42
  go_wp2_with fail
  refine HW.out.mono ?_
  rintro e w1 ⟨rfl, hb1⟩
  have HB := Lib.hid hb1; clear hb1
  go_wp2_with fail
  go_ret
  exact ⟨rfl, HB.out⟩

set_option maxHeartbeats 1000000 in
theorem termsSort_any (A : Option Addr) (n c : Nat) (ts : List T2) (w : World) (hn : n < 20) (hts : ts.length = n) (hr : Reads w w.heap.size 2 A n (tcells ts)) (hall : ts.all tvB = true) :
    Calls Try.prog 26 #[.slice A n c] w fun e w' =>
      ∃ (g c' : Nat) (ts' : List T2), e = .returned (.tuple #[.slice (some ⟨g, 0, none⟩) n c', .bool true]) ∧ ts'.Perm ts ∧ n ≤ c' ∧ Reads w' w'.heap.size 2 (some ⟨g, 0, none⟩) n (tcells ts') ∧ Below w.heap.size w w' := by
  have HV := Lib.hid (termListValid_any A n c ts w (by omega) hts hr hall)
  have HO := Lib.hid (fun W (hW : Below w.heap.size w W) => ordered_any A n c ts W hn hts ((hr.below hW).more hW.size))
  clear hr hts hall
  go_enter Try.func26, Try.ntmps26
  go_wp2_with fail
  refine HV.out.mono ?_
  rintro e w1 ⟨rfl, hb1⟩
  have HB := Lib.hid hb1
  have HO1 := Lib.hid (HO.out w1 hb1)
  clear hb1
  go_wp2_with fail
  refine HO1.out.mono ?_
  rintro e w2 ⟨g, c', ts', rfl, hp, hc, hr2, hb2⟩
  have HP := Lib.hid hp; have HR := Lib.hid hr2; have HB2 := Lib.hid (HB.out.trans (hb2.mono HB.out.size))
  clear hp hr2 hb2
  go_wp2_with fail
  go_ret2
  exact ⟨g, c', ts', rfl, HP.out, hc, HR.out, HB2.out⟩
theorem ctL_perm {ts ts' : List T2} (h : ts'.Perm ts) : ctL ts' = ctL ts := by
  have h1 : ts'.all tvB = ts.all tvB := by
    rw [Bool.eq_iff_iff]; simp only [List.all_eq_true]
    exact ⟨fun k x hx => k x (h.mem_iff.2 hx), fun k x hx => k x (h.mem_iff.1 hx)⟩
  unfold ctL cntLev
  rw [h1, (h.map _).sum_nat]
theorem ctJ_perm {ts ts' : List T2} (h : ts'.Perm ts) (j : Int) : ctJ ts' j = ctJ ts j := by
  have h1 : ts'.all tvB = ts.all tvB := by
    rw [Bool.eq_iff_iff]; simp only [List.all_eq_true]
    exact ⟨fun k x hx => k x (h.mem_iff.2 hx), fun k x hx => k x (h.mem_iff.1 hx)⟩
  unfold ctJ cntJ
  rw [h1, h.countP_eq]
end Go.Proofs.Ytjglgcgkmfbdpaa
