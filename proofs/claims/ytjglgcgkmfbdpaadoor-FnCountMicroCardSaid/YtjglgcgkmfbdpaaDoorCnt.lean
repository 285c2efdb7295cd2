/- Levels are counted in an array. -/
import Derived.Test.YtjglgcgkmfbdpaaDoorCntP
import Derived.Laws.Rows
import Derived.Laws.Tables
namespace Go.Proofs.YtjglgcgkmfbdpaaDoor
open Go.RowKit

theorem results_cell_tmp {P : Program} {fn : Func} {p t1 : Tmp} {ty : TypeId} (h : fn.results = #[.cell p ty, .tmp t1]) (tmps : Array Value) (w : World) (g : Nat) (t : TypeId) (cs : Array Value) (fr : Nat × Nat) (d : TypeDesc)
    (hp : tmps.getD p undef = .pointer (some ⟨g, 0, none⟩)) (hg : w.heap[g]? = some (.cells cs t fr))
    (hu : P.underlying ty = some d) (hd : (match d with | .struct _ | .array _ _ => true | _ => false) = true) (hi : (P.info? ty).map (·.size) = some cs.size) :
    (results fn tmps).run P w = .ok (.tuple #[.agg cs, tmps.getD t1 undef]) w := by
  have hp' : tmps[p]?.getD undef = .pointer (some ⟨g, 0, none⟩) := by simpa using hp
  simp [results, h, hp', asAddr, run_loadVar_row w g t ty cs fr d hg hu hd hi]

def acells (a : List Int) : Array Value := (a.map (Value.int .i64)).toArray
theorem acells_size (a : List Int) : (acells a).size = a.length := by simp [acells]
theorem acells_one (a : List Int) : (acells a).all (·.oneCell') = true := by simp [acells, Value.oneCell']
theorem acells_get (a : List Int) (i : Nat) (h : i < a.length) : (acells a)[i]? = some (.int .i64 (a.getD i 0)) := by
  simp [acells, h]
theorem acells_set (a : List Int) (i : Nat) (v : Int) : (acells a).setIfInBounds i (.int .i64 v) = acells (a.set i v) := by
  simp [acells]
theorem Blk.setRow {w : World} {g : Nat} {t : TypeId} {cs cs' : Array Value} (h : Blk w g t cs) : Blk (w.setRow g cs') g t cs' := setRow_heap w g cs cs' t (0, 0) h
theorem Blk.rowFar {w : World} {g g' : Nat} {t : TypeId} {cs cs' : Array Value} (h : Blk w g t cs) (hne : g ≠ g') : Blk (w.setRow g' cs') g t cs := (setRow_other w g' g cs' hne).trans h
theorem below_setRow {B : Nat} {a w : World} (h : Below B a w) {g : Nat} (hg : B ≤ g) (cs : Array Value) : Below B a (w.setRow g cs) :=
  h.trans ⟨rfl, rfl, rfl, by simp [World.setRow], fun k hk => setRow_other w g k cs (by omega)⟩
/-- A level's three cells. -/
theorem lcells_len (t : T2) (js : List Int) : (lcells t js).length = js.length * 3 := by
  unfold lcells; induction js with
  | nil => rfl
  | cons j js ih => simp only [List.flatMap_cons, List.length_append, ih, List.length_cons, List.length_nil]; omega
theorem lcells_at (t : T2) (js : List Int) (i : Nat) (h : i < js.length) : (lcells t js)[i * 3]? = some (.int .i64 t.1) ∧ (lcells t js)[i * 3 + 1]? = some (.int .i64 t.2) ∧ (lcells t js)[i * 3 + 2]? = some (.int .i64 js[i]) := by
  induction js generalizing i with
  | nil => simp at h
  | cons j js ih =>
    cases i with
    | zero => exact ⟨rfl, rfl, rfl⟩
    | succ i =>
      have := ih i (by simpa using h)
      rw [show (i + 1) * 3 = i * 3 + 3 by omega]
      exact this
theorem Reads.level {w : World} {B : Nat} {A : Option Addr} {n : Nat} {t : T2} {js : List Int} (h : Reads w B 3 A n (lcells t js)) {k : Nat} (hk : k < n) :
    ∃ b off x, A = some ⟨b, off, none⟩ ∧ b < B ∧ w.cell? ⟨b, off + k * 3, none⟩ = some (.int .i64 t.1) ∧ w.cell? ⟨b, off + k * 3 + 1, none⟩ = some (.int .i64 t.2) ∧ w.cell? ⟨b, off + k * 3 + 2, none⟩ = some (.int .i64 x) ∧
      Hid (js[k]? = some x) ∧ Hid (js.take (k + 1) = js.take k ++ [x]) := by
  obtain ⟨b, off, e, hb, hc⟩ := h.2 (by omega)
  have hl := h.1; rw [lcells_len] at hl
  have hkl : k < js.length := by omega
  obtain ⟨c1, c2, c3⟩ := lcells_at t js k hkl
  exact ⟨b, off, _, e, hb, hc _ _ c1, hc _ _ c2, hc _ _ c3, by unfold Hid; rw [List.getElem?_eq_getElem hkl], by unfold Hid; rw [List.take_succ_eq_append_getElem hkl]⟩

theorem info25 (a : List Int) (h : a.length = 25) : (Tryd.prog.info? 46).map (·.size) = some (acells a).size := by
  rw [acells_size, h]; kernel_rfl
def CountPost (w : World) (ts : List T2) (e : Ending) (w' : World) : Prop :=
  ∃ a : List Int, e = .returned (.tuple #[.agg (acells a), .bool (ts.all tvB)]) ∧ a.length = 25 ∧ (ts.all tvB = true → a = countArr ts) ∧ Below w.heap.size w w'

def Inv1 (w wr : World) (D : Nat) (a : List Int) : Prop := Blk wr D 46 (acells (List.replicate 25 0)) ∧ Blk wr (D + 1) 46 (acells a) ∧ Below D w wr

set_option maxHeartbeats 4000000 in
set_option maxRecDepth 100000 in
theorem countLevels_any (A : Option Addr) (n c : Nat) (ts : List T2) (w : World) (hn : n ≤ 1048576) (hts : ts.length = n) (hr : Reads w w.heap.size 2 A n (tcells ts)) :
    Calls Tryd.prog 18 #[.slice A n c] w (CountPost w ts) := by
  have HR := Lib.hid hr; clear hr
  have HT := Lib.hid hts; clear hts
  have hi1 : Inv1 w ((w.alloc (.cells (acells (List.replicate 25 0)) 46)).alloc (.cells (acells (List.replicate 25 0)) 46)) w.heap.size (List.replicate 25 0) :=
    ⟨(Blk.new w _ _).alloc _, by have := Blk.new (w.alloc (.cells (acells (List.replicate 25 0)) 46)) 46 (acells (List.replicate 25 0)); simpa using this, ((Below.refl _ _).alloc (Nat.le_refl _) _).alloc (by simp) _⟩
  have HI1 := Lib.hid hi1; clear hi1
  go_enter Tryd.func18, Tryd.ntmps18
  go_wp2_with fail
  go_loopw [11] (fun i wr => ∃ (k : Nat), k ≤ n ∧ i = .int .i64 k ∧ (ts.take k).all tvB = true ∧ Inv1 w wr w.heap.size (countArr (ts.take k))) (fun i _ => n - (intOf i).toNat)
  case atStart => exact ⟨0, Nat.zero_le _, rfl, rfl, HI1.out⟩
  case round =>
    clear HI1
    obtain ⟨k, hk, rfl, hall, hinv⟩ := hrel
    have HA := Lib.hid hall; clear hall
    have HI := Lib.hid hinv; clear hinv
    have hbnd := bnd_count (ts.take k)
    have HN := Lib.hid hbnd; clear hbnd
    have hlk : (ts.take k).length ≤ k := List.length_take_le _ _
    by_cases hlt : k < n
    · obtain ⟨b, off, x, y, rfl, hb, h1, h2, H3, H4⟩ := (HR.out.below HI.out.2.2).term hlt
      have HC := Lib.hid (countArr_snoc (ts.take k) (x, y))
      generalize countArr (ts.take k) = a at *
      have hi2 : Hid (Inv1 w (wr.alloc (.cells #[.int .i64 x, .int .i64 y] 41)) w.heap.size a) := ⟨HI.out.1.alloc _, HI.out.2.1.alloc _, HI.out.2.2.alloc HI.out.2.2.size _⟩
      have hsz := HI.out.2.1.lt
      go_wp2_with fail
      refine (implTermValid_any (x, y) _).mono ?_
      rintro e w2 ⟨rfl, hb2⟩
      have HB2 := Lib.hid hb2
      have hT := Lib.hid ((Blk.new wr 41 #[.int .i64 x, .int .i64 y]).sub hb2)
      replace hi2 : Hid (Inv1 w w2 w.heap.size a) := ⟨hi2.out.1.sub hb2, hi2.out.2.1.sub hb2, hi2.out.2.2.trans (hb2.mono hi2.out.2.2.size)⟩
      clear hb2 HI h1 h2
      cases hv : tvB (x, y)
      · have HV := Lib.hid hv; clear hv
        have hD2 := hi2.out.2.1
        have hD1 := hi2.out.1
        have HD1 := Lib.hid hD1
        have HD2 := Lib.hid hD2
        clear hD1 hD2
        have HS : Hid (ts.all tvB = false) := by
          unfold Hid
          rw [List.all_eq_false]
          exact ⟨(x, y), List.mem_of_getElem? H3.out, by rw [HV.out]; simp⟩
        go_wp2_with (first
          | (refine wpList_load_row (by rfl) 46 (.tmp 4) (by rfl) (w.heap.size + 1) (by rfl) _ _ _ _ HD2.out Tryd.underlying46 (by rfl) (info25 a HN.out.1) ?_)
          | (refine wpList_store_row (by rfl) 46 (.tmp 2) (.tmp 18) (by rfl) w.heap.size (acells a) (by rfl) (by rfl) _ _ HD1.out (info25 a HN.out.1) (by rw [acells_size, acells_size, HN.out.1]; rfl) (acells_one a) ?_))
        refine bodyPost_ret (results_cell_tmp rfl _ _ w.heap.size _ _ _ _ rfl HD1.out.setRow Tryd.underlying46 rfl (info25 a HN.out.1)) rfl ?_
        exact ⟨a, by rw [HS.out]; rfl, HN.out.1, by rw [HS.out]; simp, below_setRow hi2.out.2.2 (Nat.le_refl _) _⟩
      · have hsz2 := hi2.out.2.1.lt
        obtain ⟨x1, x2, _, _⟩ := blk2 hT.out
        have HV := Lib.hid hv; clear hv
        go_wp2_with fail
        refine (implLevelsOf_any (x, y) _).mono ?_
        rintro e w3 ⟨⟨A3, c3, rfl, hr3⟩, hb3⟩
        have hl9 := lvJs_len (x, y)
        have HM := Lib.hid (fun j (hj : j ∈ lvJs (x, y)) => mem_lvJs hj)
        have HO := Lib.hid hr3
        have hi3 : Hid (Inv1 w w3 w.heap.size a) := ⟨hi2.out.1.sub hb3, hi2.out.2.1.sub hb3, hi2.out.2.2.trans (hb3.mono hi2.out.2.2.size)⟩
        clear hb3 hi2 hT x1 x2 hr3
        generalize hjs : lvJs (x, y) = js at *
        have HJ := Lib.hid hjs; clear hjs
        generalize hnl : js.length = nl at *
        have HNL := Lib.hid hnl; clear hnl
        go_wp2_with fail
        go_loopw [22] (fun i wr => ∃ (m : Nat), m ≤ nl ∧ i = .int .i64 m ∧ Inv1 w wr w.heap.size (addJs a (js.take m)) ∧ wr.ownsRow w2.heap.size 65 3 (.slice A3 nl c3) nl (lcells (x, y) js)) (fun i _ => nl - (intOf i).toNat)
        case atStart => exact ⟨0, Nat.zero_le _, rfl, hi3.out, HO.out⟩
        case round =>
          clear hi3 HO
          obtain ⟨m, hm, rfl, hin, hor⟩ := hrel
          have HIN := Lib.hid hin; clear hin
          have HOR := Lib.hid hor; clear hor
          by_cases hlm : m < nl
          · obtain ⟨b4, off4, z, rfl, hb4, g1, g2, g3, G3, G4⟩ := (own_reads HOR.out).level hlm
            have hz := HM.out z (List.mem_of_getElem? G3.out)
            obtain ⟨zn, rfl⟩ := Int.eq_ofNat_of_zero_le hz.1
            have hz25 : zn < 25 := by omega
            have hbd := HN.out.adds (js.take m)
            have hlen := hbd.1
            have hbz := hbd.2 zn
            have hjl : (js.take m).length ≤ m := List.length_take_le _ _
            have hb1 : 0 ≤ (addJs a (js.take m)).getD zn 0 := hbz.1
            have hb2 : (addJs a (js.take m)).getD zn 0 ≤ 100000000 := by have := hbz.2; omega
            have HA2 := Lib.hid (show addJ (addJs a (js.take m)) (zn : Int) = (addJs a (js.take m)).set zn ((addJs a (js.take m)).getD zn 0 + 1) by simp [addJ])
            have HA3 := Lib.hid (addJs_snoc a (js.take m) (zn : Int))
            rw [← G4.out] at HA3
            generalize addJs a (js.take m) = ar at *
            have HLEN := Lib.hid hlen
            have hD := HIN.out.2.1.alloc (.cells #[.int .i64 x, .int .i64 y, .int .i64 (zn : Int)] 65)
            have f1 : (wr.alloc (.cells #[.int .i64 x, .int .i64 y, .int .i64 (zn : Int)] 65)).cell? ⟨w.heap.size + 1, zn, none⟩ = some (.int .i64 (ar.getD zn 0)) := by
              rw [hD.cell, acells_get _ _ (by omega)]
            have f2 := hD.frozen zn
            have f3 := hD.lt
            have HDD := Lib.hid hD
            have HHH : Hid ((wr.alloc (.cells #[.int .i64 x, .int .i64 y, .int .i64 (zn : Int)] 65)).ownsRow w2.heap.size 65 3 (.slice (some ⟨b4, off4, none⟩) nl c3) nl (lcells (x, y) js)) := HOR.out.alloc _
            simp at f3
            clear hD hbd hbz hlen
            generalize ar.getD zn 0 = old at *
            go_wp2_with fail
            go_roundw
            case rel =>
              refine ⟨m + 1, by omega, by go_num, ⟨(HIN.out.1.alloc _).far (by show w.heap.size ≠ w.heap.size + 1; omega) _, ?_, (HIN.out.2.2.alloc HIN.out.2.2.size _).setCell (by show w.heap.size ≤ w.heap.size + 1; omega) _⟩, own_set HHH.out (by show w.heap.size + 1 < w2.heap.size; omega) _⟩
              have := HDD.out.set zn (.int .i64 (old + 1))
              rw [acells_set] at this
              rw [HA3.out, HA2.out]
              exact this
            case measure => simp [intOf]; omega
          · go_wp2_with fail
            go_roundw
            case rel =>
              refine ⟨k + 1, by omega, by go_num, ?_, ?_⟩
              · rw [H4.out, List.all_append, HA.out]; simp [HV.out]
              · rw [H4.out, HC.out]
                have hmn : m = nl := by omega
                have := HIN.out
                rw [List.take_of_length_le (by rw [HNL.out]; omega)] at this
                exact this
            case measure => simp [intOf]; omega
    · have HD1 := Lib.hid HI.out.1
      have HD2 := Lib.hid HI.out.2.1
      have hkn : k = n := by omega
      subst hkn
      have HX := Lib.hid (show ts.take k = ts from List.take_of_length_le (by rw [HT.out]; exact Nat.le_refl _))
      rw [HX.out] at HA HD2 HN
      go_wp2_with (first
        | (refine wpList_load_row (by rfl) 46 (.tmp 4) (by rfl) (w.heap.size + 1) (by rfl) _ _ _ _ HD2.out Tryd.underlying46 (by rfl) (info25 _ HN.out.1) ?_)
        | (refine wpList_store_row (by rfl) 46 (.tmp 2) (.tmp 34) (by rfl) w.heap.size (acells (countArr ts)) (by rfl) (by rfl) _ _ HD1.out (info25 _ HN.out.1) (by rw [acells_size, acells_size, HN.out.1]; rfl) (acells_one _) ?_))
      refine bodyPost_ret (results_cell_tmp rfl _ _ w.heap.size _ _ _ _ rfl HD1.out.setRow Tryd.underlying46 rfl (info25 _ HN.out.1)) rfl ?_
      exact ⟨countArr ts, by rw [HA.out]; rfl, HN.out.1, fun _ => rfl, below_setRow HI.out.2.2 (Nat.le_refl _) _⟩
end Go.Proofs.YtjglgcgkmfbdpaaDoor
