/- Lines are sorted. -/
import Derived.Test.YtnljibgjfobkbaaLn3
import Derived.Test.YtnljibgjfobkbaaShelf
import Derived.Lib.OwnBridge
namespace Go.Proofs.Ytnljibgjfobkbaa
open Go.RowKit Go.Sort
attribute [local go_sem ↓] Go.wp_at_zero Go.wp_at_succ

theorem isNaN_any (x : Int) (w : World) : Calls Try.prog 37 #[.int .i64 x] w fun e w' => e = .returned (.bool false) ∧ w' = w := by
  go_enter Try.func37, Try.ntmps37
  go_wp2_with fail
  go_ret
  exact ⟨by simp, rfl⟩
theorem compare_any (x y : Int) (w : World) : Calls Try.prog 29 #[.int .i64 x, .int .i64 y] w fun e w' => e = .returned (.int .i64 (Lib.compareInt x y)) ∧ w' = w := by
  go_enter Try.func29, Try.ntmps29
  go_wp2_with (go_at_call 37; refine (isNaN_any _ _).mono ?_; rintro e w' ⟨rfl, rfl⟩)
  all_goals (go_ret; refine ⟨?_, rfl⟩; unfold Lib.compareInt; (repeat' split) <;> first | rfl | (exfalso; omega))
def or3 (a b c : Int) : Int := if a ≠ 0 then a else if b ≠ 0 then b else c
set_option maxHeartbeats 1000000 in
theorem or_any (L : Nat) (a b c : Int) (w : World) (hL : Blk w L 3 #[.int .i64 a, .int .i64 b, .int .i64 c]) :
    Calls Try.prog 28 #[.slice (some ⟨L, 0, none⟩) 3 3] w fun e w' => e = .returned (.int .i64 (or3 a b c)) ∧ w' = w := by
  obtain ⟨y1, y2, y3, _, _, _⟩ := blk3 hL
  clear hL
  go_enter Try.func28, Try.ntmps28
  go_wp2_with fail
  go_loopw [8] (fun i wr => ∃ k : Nat, k ≤ 3 ∧ i = .int .i64 k ∧ wr = w ∧ (0 < k → a = 0) ∧ (1 < k → b = 0) ∧ (2 < k → c = 0)) (fun i _ => 3 - (intOf i).toNat)
  case atStart => exact ⟨0, by omega, rfl, rfl, fun h => absurd h (by omega), fun h => absurd h (by omega), fun h => absurd h (by omega)⟩
  case round =>
    obtain ⟨k, hk, rfl, rfl, ha, hb, hc⟩ := hrel
    have hk4 : k = 0 ∨ k = 1 ∨ k = 2 ∨ k = 3 := by omega
    rcases hk4 with rfl | rfl | rfl | rfl
    · clear ha hb hc
      by_cases h : a = 0
      · subst h
        go_wp2_with fail
        go_roundw
        case rel => exact ⟨1, by omega, rfl, by simp, by simp, fun h => absurd h (by omega), fun h => absurd h (by omega)⟩
        case measure => simp [intOf]
      · have e1 : (a != 0) = true := by simpa using h
        have he : or3 a b c = a := by unfold or3; rw [if_pos h]
        have HE := Lib.hid he; clear he h
        go_wp2_with fail
        go_ret
        exact ⟨ret_int HE.out.symm, rfl⟩
    · have ha0 := ha (by omega)
      subst ha0
      clear ha hb hc
      by_cases h : b = 0
      · subst h
        go_wp2_with fail
        go_roundw
        case rel => exact ⟨2, by omega, rfl, by simp, by simp, by simp, fun h => absurd h (by omega)⟩
        case measure => simp [intOf]
      · have e1 : (b != 0) = true := by simpa using h
        have he : or3 0 b c = b := by unfold or3; rw [if_neg (by simp), if_pos h]
        have HE := Lib.hid he; clear he h
        go_wp2_with fail
        go_ret
        exact ⟨ret_int HE.out.symm, rfl⟩
    · have ha0 := ha (by omega)
      have hb0 := hb (by omega)
      subst ha0 hb0
      clear ha hb hc
      have he : or3 0 0 c = c := by simp [or3]
      by_cases h : c = 0
      · subst h
        go_wp2_with fail
        go_roundw
        case rel => exact ⟨3, by omega, rfl, by simp, by simp, by simp, by simp⟩
        case measure => simp [intOf]
      · have e1 : (c != 0) = true := by simpa using h
        have HE := Lib.hid he; clear he h
        go_wp2_with fail
        go_ret
        exact ⟨ret_int HE.out.symm, rfl⟩
    · have ha0 := ha (by omega)
      have hb0 := hb (by omega)
      have hc0 := hc (by omega)
      subst ha0 hb0 hc0
      clear ha hb hc
      go_wp2_with fail
      go_ret
      exact ⟨by simp [or3], rfl⟩

def encL (x : L3) : List Value := [.int .i64 x.1, .int .i64 x.2.1, .int .i64 x.2.2]
def cfL (x y : L3) : Int := or3 (Lib.compareInt x.2.2 y.2.2) (Lib.compareInt x.1 y.1) (Lib.compareInt x.2.1 y.2.1)
theorem ltL (x y : L3) : ltOf cfL x y = decide (x.2.2 < y.2.2 ∨ (x.2.2 = y.2.2 ∧ (x.1 < y.1 ∨ (x.1 = y.1 ∧ x.2.1 < y.2.1)))) := by
  unfold ltOf cfL or3 Lib.compareInt
  rw [decide_eq_decide]
  (repeat' split) <;> omega
theorem swoL : SWO (ltOf cfL) where
  irrefl x := by rw [ltL]; simp
  trans x y z h1 h2 := by rw [ltL] at *; simp only [decide_eq_true_eq] at *; omega
  ntrans x y z h1 h2 := by rw [ltL] at *; simp only [decide_eq_false_iff_not] at *; omega

set_option maxHeartbeats 2000000 in
theorem closure_any (x y : L3) (W : World) : Calls Try.prog 27 #[.agg #[.int .i64 x.1, .int .i64 x.2.1, .int .i64 x.2.2], .agg #[.int .i64 y.1, .int .i64 y.2.1, .int .i64 y.2.2]] W fun e w' => e = .returned (.int .i64 (cfL x y)) ∧ ∃ q os', w' = grow (W.drewN q) os' := by
  obtain ⟨x1, x2, x3⟩ := x
  obtain ⟨y1, y2, y3⟩ := y
  unfold cfL
  have HC1 := Lib.hid (fun W => compare_any x1 y1 W)
  have HC2 := Lib.hid (fun W => compare_any x2 y2 W)
  have HC3 := Lib.hid (fun W => compare_any x3 y3 W)
  generalize Lib.compareInt x1 y1 = c1 at *
  generalize Lib.compareInt x2 y2 = c2 at *
  generalize Lib.compareInt x3 y3 = c3 at *
  obtain ⟨W2, hW2⟩ : ∃ W2, (W.alloc (.cells #[.int .i64 x1, .int .i64 x2, .int .i64 x3] 45)).alloc (.cells #[.int .i64 y1, .int .i64 y2, .int .i64 y3] 45) = W2 := ⟨_, rfl⟩
  have HE : Hid (∀ o, ∃ q os', W2.drew.alloc o = grow (W.drewN q) os') := fun o => by
    refine ⟨1, (#[.cells #[.int .i64 x1, .int .i64 x2, .int .i64 x3] 45] ++ #[.cells #[.int .i64 y1, .int .i64 y2, .int .i64 y3] 45]) ++ #[o], ?_⟩
    rw [← hW2, alloc_eq_grow, alloc_eq_grow W, alloc_eq_grow (grow _ _), grow_grow]
    show grow (grow (W.drewN 1) _) _ = _
    rw [grow_grow]
  have HX := Lib.hid ((Blk.new W 45 #[.int .i64 x1, .int .i64 x2, .int .i64 x3]).alloc (.cells #[.int .i64 y1, .int .i64 y2, .int .i64 y3] 45))
  have HY := Lib.hid (Blk.new (W.alloc (.cells #[.int .i64 x1, .int .i64 x2, .int .i64 x3] 45)) 45 #[.int .i64 y1, .int .i64 y2, .int .i64 y3])
  go_enter Try.func27, Try.ntmps27
  go_wp2_with fail
  rw [hW2] at HX HY
  obtain ⟨p1, p2, p3, _, _, _⟩ := blk3 HX.out
  obtain ⟨q1, q2, q3, _, _, _⟩ := blk3 HY.out
  clear hW2 HX HY
  simp only [World.size_alloc] at q1 q2 q3
  go_still_tail 15, (by kernel_rfl)
  still_call (HC3.out _)
  repeat still_step
  still_call (HC1.out _)
  repeat still_step
  still_call (HC2.out _)
  refine wpStill_nil ?_
  change wpList _ _ _ _ _ W2.drew
  clear p1 p2 p3 q1 q2 q3 HC1 HC2 HC3
  generalize W2.drew = W3 at *
  go_wp2_with fail
  refine (or_any W3.heap.size c3 c1 c2 _ (Blk.new _ _ _)).mono ?_
  rintro e w4 ⟨rfl, rfl⟩
  go_wp2_with fail
  go_ret
  exact ⟨rfl, HE.out _⟩

theorem cmpLaysL (blk off size : Nat) (w : World) : CmpLays Try.prog 27 #[] encL 3 cfL blk off size w :=
  fun _ _ _ _ x y => closure_any x y _

theorem holdsL {w : World} {g : Nat} {e : TypeId} {cur : Array Value} {ls : List L3} (hb : Blk w g e cur) (hf : Filled cur (lcells ls)) : HoldsK encL 3 w g 0 ls.toArray := by
  intro j hj
  rw [size_flatK] at hj
  simp only [List.size_toArray] at hj
  rw [get_flatK _ _ _ _ (by simpa using hj), Nat.zero_add]
  refine ⟨?_, hb.frozen j⟩
  rw [hb.cell]
  have hjn : j / 3 < ls.length := by omega
  obtain ⟨c1, c2, c3⟩ := lcells_at ls (j / 3) hjn
  have hg : ls.toArray[j / 3]! = gL ls (j / 3) := by simp [gL, hjn]
  rw [hg]
  have h3 : j % 3 = 0 ∨ j % 3 = 1 ∨ j % 3 = 2 := by omega
  rcases h3 with h | h | h
  · have e : j = j / 3 * 3 := by omega
    rw [← e] at c1
    rw [hf _ _ c1, h]; rfl
  · have e : j = j / 3 * 3 + 1 := by omega
    rw [← e] at c2
    rw [hf _ _ c2, h]; rfl
  · have e : j = j / 3 * 3 + 2 := by omega
    rw [← e] at c3
    rw [hf _ _ c3, h]; rfl
theorem readsL {w : World} {g : Nat} {d : Array L3} (h : HoldsK encL 3 w g 0 d) (hg : g < w.heap.size) : Reads w w.heap.size 3 (some ⟨g, 0, none⟩) d.size (lcells d.toList) := by
  refine ⟨by rw [lcells_len]; simp, fun _ => ⟨g, 0, rfl, hg, fun j u hu => ?_⟩⟩
  have hj : j < d.size * 3 := by
    rcases Nat.lt_or_ge j (d.size * 3) with h | h
    · exact h
    · rw [List.getElem?_eq_none (by rw [lcells_len]; simpa using h)] at hu; cases hu
  have hjn : j / 3 < d.toList.length := by simp; omega
  obtain ⟨c1, c2, c3⟩ := lcells_at d.toList (j / 3) hjn
  have hgl : d[j / 3]! = gL d.toList (j / 3) := by
    have : j / 3 < d.size := by simpa using hjn
    simp [gL, this]
  have h3 : j % 3 = 0 ∨ j % 3 = 1 ∨ j % 3 = 2 := by omega
  rcases h3 with h' | h' | h'
  · have e : j = j / 3 * 3 := by omega
    have k := (h.cell (i := j / 3) (c := 0) (by omega) (by omega)).1
    rw [hgl] at k
    rw [← e, hu] at c1
    rw [show 0 + j = 0 + j / 3 * 3 + 0 by omega, k, c1]; rfl
  · have e : j = j / 3 * 3 + 1 := by omega
    have k := (h.cell (i := j / 3) (c := 1) (by omega) (by omega)).1
    rw [hgl] at k
    rw [← e, hu] at c2
    rw [show 0 + j = 0 + j / 3 * 3 + 1 by omega, k, c2]; rfl
  · have e : j = j / 3 * 3 + 2 := by omega
    have k := (h.cell (i := j / 3) (c := 2) (by omega) (by omega)).1
    rw [hgl] at k
    rw [← e, hu] at c3
    rw [show 0 + j = 0 + j / 3 * 3 + 2 by omega, k, c3]; rfl
theorem permL {d d' : Array L3} (h : PermIn 0 d.size d d') : d'.size = d.size ∧ d'.toList.Perm d.toList := by
  obtain ⟨h1, _, h2⟩ := h
  refine ⟨h1, ?_⟩
  have e1 : d'.extract 0 d.size = d' := by rw [← h1]; simp
  have e2 : d.extract 0 d.size = d := by simp
  rwa [e1, e2] at h2

theorem below_growL (w : World) (k : Nat) (os : Array Obj) : Below w.heap.size w (grow (w.drewN k) os) :=
  ⟨rfl, rfl, rfl, by show w.heap.size ≤ (w.heap ++ os).size; simp, fun i hi => by
    show (w.heap ++ os)[i]? = _
    rw [Array.getElem?_append_left hi]⟩

/-- The sort: a permutation of what the row held. -/
theorem sortLines_any (B g n c : Nat) (ls : List L3) (w : World) (hl : ls.length = n) (hn : n ≤ 1000) (hg : g < w.heap.size) (hB : B ≤ g) (hH : HoldsK encL 3 w g 0 ls.toArray) :
    Calls Try.prog 26 #[.slice (some ⟨g, 0, none⟩) n c, .func (.func 27) #[] #[]] w fun e w' => e = .returned (.tuple #[]) ∧ ∃ ls' : List L3, ls'.Perm ls ∧ ls'.length = n ∧ Reads w' w'.heap.size 3 (some ⟨g, 0, none⟩) n (lcells ls') ∧ Below B w w' := by
  have eg : ∀ args w, (callFunc 27 args).run Try.prog w = .ok (.enter 27 args) w := enters_of Try.func27 (by kernel_rfl) rfl
  have hsz : ls.toArray.size = n := by simpa using hl
  have hcon := AnyQ.slices_SortFunc Try.sortLines 3 Try.isAgg45 Try.sizeOf45 encL (fun _ => rfl) (fun x v hv => by simp [encL] at hv; rcases hv with rfl | rfl | rfl <;> rfl) cfL swoL 27 #[] g 0 c ls.toArray w eg (cmpLaysL g 0 _ w) hH hg (by omega)
  rw [hsz] at hcon
  refine hcon.mono ?_
  rintro e w' ⟨rfl, d', m, os, hp, _, rfl⟩
  rw [← hsz] at hp
  obtain ⟨h1, h2⟩ := permL hp
  have hd : d'.size = n := h1.trans hsz
  have hH' := holdsK_sortWorldK encL 3 w g 0 m ls.toArray d' os hg hH h1
  have hlt := lt_sortWorldK encL 3 w g 0 m d' os hg
  have hr := readsL hH' hlt
  rw [hd] at hr
  refine ⟨rfl, d'.toList, by simpa using h2, by simpa using hd, hr, ?_⟩
  unfold sortWorldK
  have hp1 : Below B w (putRowK encL 3 (Sort.ahead w m) g 0 d') := Lib.below_putRow (Below.refl B w) hB
  exact hp1.trans ((below_growL _ 0 os).mono (Nat.le_trans (Nat.le_trans hB (Nat.le_of_lt hg)) hp1.size))
end Go.Proofs.Ytnljibgjfobkbaa
