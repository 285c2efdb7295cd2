/- The reference's list of all terms of a shell. -/
import Derived.Test.YtjglgcgkmfbdpaaDoorMiS
import Derived.Test.YtjglgcgkmfbdpaaDoorMicW
import Derived.Test.YtjglgcgkmfbdpaaDoorApB
namespace Go.Proofs.YtjglgcgkmfbdpaaDoor
open Go.RowKit

/-- The list when the place (spin s, orbit o) has been dealt with. -/
def nxt (l n s o : Nat) : List T2 := ahd l n s o ++ List.replicate (rep l n s o) ((s : Int), (o : Int))
theorem capL_le {l n : Nat} (hl : l ≤ 2) (hn : n ≤ capL l) : n < 11 := by unfold capL at hn; omega
theorem nxt_o {l n s o : Nat} (hl : l ≤ 2) (hn : n ≤ capL l) (hs : s < 9) (ho : o < 8) : ahd l n s o = nxt l n s (o + 1) := ahd_next ⟨l, by omega⟩ ⟨n, capL_le hl hn⟩ hn ⟨s, hs⟩ ⟨o, ho⟩
theorem nxt_s {l n s : Nat} (hl : l ≤ 2) (hn : n ≤ capL l) (hs : s < 8) : ahd l n s 8 = nxt l n (s + 1) 0 := ahd_row ⟨l, by omega⟩ ⟨n, capL_le hl hn⟩ hn ⟨s, hs⟩
theorem nxt_s6 {l n s : Nat} (hl : l ≤ 2) (hn : n ≤ capL l) (hs : s < 6) : ahd l n s 6 = nxt l n (s + 1) 0 := (ahd_row6 ⟨l, by omega⟩ ⟨n, capL_le hl hn⟩ hn ⟨s, hs⟩).symm.trans (nxt_s hl hn (by omega))
theorem nxt_end {l n : Nat} (hl : l ≤ 2) (hn : n ≤ capL l) : nxt l n 0 0 = trms l n := (ahd_last ⟨l, by omega⟩ ⟨n, capL_le hl hn⟩ hn).symm
theorem nxt_at (l n s o : Nat) : nxt l n s o = ahd l n s o ++ List.replicate (rep l n s o) ((s : Int), (o : Int)) := rfl
theorem rep_bd {l n : Nat} (hl : l ≤ 2) (hn : n ≤ capL l) (s o : Nat) : rep l n s o ≤ 40 := by
  have h1 := (trms_pos ⟨l, by omega⟩ ⟨n, capL_le hl hn⟩ hn).2.1
  unfold rep
  have := List.countP_le_length (l := trms l n) (p := fun t => t == ((s : Int), (o : Int)))
  simp only at h1; omega
theorem ahd_len {l n : Nat} (hl : l ≤ 2) (hn : n ≤ capL l) (s o : Nat) : (ahd l n s o).length ≤ 40 := by
  have h1 := (trms_pos ⟨l, by omega⟩ ⟨n, capL_le hl hn⟩ hn).2.1
  unfold ahd
  have := List.length_filter_le (fun t : T2 => decide ((s : Int) < t.1 ∨ ((s : Int) = t.1 ∧ (o : Int) < t.2))) (trms l n)
  simp only at h1; omega
theorem rep_snoc (ts : List T2) (t : T2) (q : Nat) : ts ++ List.replicate (q + 1) t = (ts ++ List.replicate q t) ++ [t] := by rw [List.replicate_succ', List.append_assoc]

def TlPost (l n : Nat) (w : World) (e : Ending) (w' : World) : Prop :=
  ∃ (A : Option Addr) (c m : Nat), e = .returned (.slice A m c) ∧ m ≤ c ∧ (trms l n).length = m ∧ Reads w' w'.heap.size 2 A m (tcells (trms l n)) ∧ Below w.heap.size w w'
/-- A list of the call's own. -/
def Own (w0 w : World) (A : Option Addr) (c : Nat) (ts : List T2) : Prop := w.ownsRow w0.heap.size 41 2 (.slice A ts.length c) ts.length (tcells ts) ∧ Below w0.heap.size w0 w ∧ ts.length ≤ c

set_option maxHeartbeats 4000000 in
set_option maxRecDepth 100000 in
theorem specTermsOf_any (l n : Nat) (hl : l ≤ 2) (hn : n ≤ capL l) (w : World) :
    Calls Tryd.prog 6 #[.int .i64 (l : Int), .int .i64 (n : Int)] w (TlPost l n w) := by
  have HOK := Lib.hid (fun W => l12Ok_any (l : Int) (n : Int) (by omega) W)
  rw [okLN hl hn] at HOK
  have HTC := Lib.hid (fun (o s : Nat) (ho : o ≤ 6) (hs : s ≤ 5) W => specTermCount_any l n hl hn (o : Int) (s : Int) (by omega) (by omega) W)
  have HRP := Lib.hid (fun (o s : Nat) (ho : o ≤ 6) (hs : s ≤ 5) => tc_rep hl hn ⟨s, by omega⟩ ⟨o, by omega⟩)
  simp only at HRP
  have HRB := Lib.hid (fun s o => rep_bd hl hn s o)
  have HAL := Lib.hid (fun s o => ahd_len hl hn s o)
  have HF : Hid (ahd l n 5 6 = []) := ahd_first6 ⟨l, by omega⟩ ⟨n, capL_le hl hn⟩ hn
  have HNO := Lib.hid (fun (s o : Nat) (hs : s ≤ 5) (ho : o ≤ 5) => nxt_o hl hn (s := s) (o := o) (by omega) (by omega))
  have HNS := Lib.hid (fun (s : Nat) (hs : s ≤ 4) => nxt_s6 hl hn (s := s) (by omega))
  have HNE := Lib.hid (nxt_end hl hn)
  have hn' : n ≤ 10 := by unfold capL at hn; omega
  clear hn
  have HO0 : Hid (Own w (w.alloc (.cells #[] 41)) (some ⟨w.heap.size, 0, none⟩) 0 []) := ⟨own_empty w 41 2, (Below.refl _ _).alloc (Nat.le_refl _) _, Nat.le_refl _⟩
  have HI1 : Hid (∀ s : Nat, (s : Int) = 5 → ([] : List T2) = ahd l n s 6) := fun s hs => by
    obtain rfl : s = 5 := by omega
    exact HF.out.symm
  have HI2 : Hid ((5 : Int) = -1 → ([] : List T2) = trms l n) := fun h => by omega
  go_enter Tryd.func6, Tryd.ntmps6
  go_wp2_with fail
  refine (HOK.out _).mono ?_
  rintro e w1 ⟨rfl, rfl⟩
  go_wp2_with fail
  go_loopw [5, 6] (fun v i wr => ∃ (sp : Int) (ts : List T2) (m : Nat) (A : Option Addr) (c : Nat), -1 ≤ sp ∧ sp ≤ 5 ∧ i = .int .i64 sp ∧ v = .slice A m c ∧ Hid (ts.length = m) ∧ Hid (Own w wr A c ts) ∧ Hid (∀ s : Nat, (s : Int) = sp → ts = ahd l n s 6) ∧ Hid (sp = -1 → ts = trms l n)) (fun _ i _ => (RowKit.intOf i + 1).toNat)
  case atStart => exact ⟨5, [], 0, _, _, by omega, by omega, rfl, rfl, rfl, HO0.out, HI1.out, HI2.out⟩
  case round =>
    clear HO0 HI1 HI2
    obtain ⟨sp, ts, m, A, c, hs0, hs1, rfl, rfl, HL, HW, HA, HE⟩ := hrel
    by_cases hsp : 0 ≤ sp
    · obtain ⟨s, rfl⟩ := Int.eq_ofNat_of_zero_le hsp
      have hs5 : s ≤ 5 := by omega
      have HA2 := Lib.hid (HA.out s rfl); clear HA HE
      have HO1 : Hid (∀ o : Nat, (o : Int) = 6 → ts = ahd l n s o) := fun o ho => by
        obtain rfl : o = 6 := by omega
        exact HA2.out
      have HO2 : Hid ((6 : Int) = -1 → ts = nxt l n s 0) := fun h => by omega
      have i1 : (0 : Int) ≤ (s : Int) := by omega
      obtain ⟨wm, rfl⟩ : ∃ wm : World, wm = wr := ⟨_, rfl⟩
      go_wp2_with fail
      go_loopw [5, 7] (fun v i wr => ∃ (op : Int) (ts : List T2) (m : Nat) (A : Option Addr) (c : Nat), -1 ≤ op ∧ op ≤ 6 ∧ i = .int .i64 op ∧ v = .slice A m c ∧ Hid (ts.length = m) ∧ Hid (Own w wr A c ts) ∧ Hid (∀ o : Nat, (o : Int) = op → ts = ahd l n s o) ∧ Hid (op = -1 → ts = nxt l n s 0)) (fun _ i _ => (RowKit.intOf i + 1).toNat)
      case atStart => exact ⟨6, ts, m, A, c, by omega, by omega, rfl, rfl, HL.out, HW.out, HO1.out, HO2.out⟩
      case round =>
        clear HA2 HO1 HO2 HL HW
        obtain ⟨op, ts, m, A, c, ho0, ho1, rfl, rfl, HL, HW, HA, HE⟩ := hrel
        by_cases hop : 0 ≤ op
        · obtain ⟨o, rfl⟩ := Int.eq_ofNat_of_zero_le hop
          have ho6 : o ≤ 6 := by omega
          have HA2 := HA.out o rfl
          subst HA2
          clear HA HE
          have HC := Lib.hid (fun W => HTC.out o s ho6 hs5 W)
          have HB := Lib.hid HW.out.2.1
          have HRQ := Lib.hid (HRP.out o s ho6 hs5)
          rw [HRQ.out] at HC
          have hR := HRB.out s o
          have hm := HAL.out s o
          have HNX := Lib.hid (nxt_at l n s o)
          rw [HL.out] at hm
          generalize rep l n s o = R at *
          have HBK := Lib.hid (Blk.new wr 41 #[.int .i64 (s : Int), .int .i64 (o : Int)])
          have HAP := Lib.hid (apart_new HW.out.1 (Nat.le_refl _))
          have HW1 := Lib.hid (HW.out.1.alloc (.cells #[.int .i64 (s : Int), .int .i64 (o : Int)] 41))
          rw [HL.out] at HW1 HAP
          have HB1 := Lib.hid (HB.out.alloc HB.out.size (.cells #[.int .i64 (s : Int), .int .i64 (o : Int)] 41))
          have HC0 : Hid (m ≤ c) := by rw [← HL.out]; exact HW.out.2.2
          obtain ⟨T, hT⟩ : ∃ T, wr.heap.size = T := ⟨_, rfl⟩
          have i2 : (0 : Int) ≤ (o : Int) := by omega
          go_wp2_with fail
          refine (HC.out _).mono ?_
          rintro e w2 ⟨rfl, hb2⟩
          rw [hT] at HBK HAP
          have HBK2 := Lib.hid (HBK.out.sub hb2)
          have HW2 := Lib.hid (own_below HW1.out hb2)
          have HB2 := Lib.hid (HB1.out.trans (hb2.mono HB1.out.size))
          have HTs := Lib.hid hT
          clear hb2 HBK HW1 HB1 HC hT
          have HW20 : Hid (w2.ownsRow w.heap.size 41 2 (.slice A (m + 0) c) (m + 0) (tcells (ahd l n s o ++ List.replicate 0 ((s : Int), (o : Int))))) := by unfold Hid; simpa using HW2.out
          have HN1 : Hid (∀ o' : Nat, (o' : Int) = (o : Int) - 1 → nxt l n s o = ahd l n s o') := fun o' h => by
            obtain rfl : o = o' + 1 := by omega
            exact (HNO.out s o' hs5 (by omega)).symm
          have HN2 : Hid ((o : Int) - 1 = -1 → nxt l n s o = nxt l n s 0) := fun h => by
            obtain rfl : o = 0 := by omega
            rfl
          have HLA := Lib.hid HL.out
          generalize ahd l n s o = ts at *
          generalize nxt l n s o = tn at *
          clear HW2 HL HW
          go_wp2_with fail
          go_loopw [5, 9] (fun v i wr => ∃ (q : Nat) (A : Option Addr) (c : Nat), q ≤ R ∧ i = .int .i64 ((R : Int) - (q : Int)) ∧ v = .slice A (m + q) c ∧ m + q ≤ c ∧ Hid (Blk wr T 41 #[.int .i64 (s : Int), .int .i64 (o : Int)]) ∧ Hid (Apart (.slice A (m + q) c) T) ∧ Hid (wr.ownsRow w.heap.size 41 2 (.slice A (m + q) c) (m + q) (tcells (ts ++ List.replicate q ((s : Int), (o : Int))))) ∧ Hid (Below w.heap.size w wr)) (fun _ i _ => (RowKit.intOf i).toNat)
          case atStart => exact ⟨0, A, c, Nat.zero_le _, by go_num, rfl, HC0.out, HBK2.out, HAP.out, HW20.out, HB2.out⟩
          case round =>
            clear HBK2 HAP HW20 HB2 HC0
            obtain ⟨q, A, c, hq, rfl, rfl, hmc, HBK, HAP, HW, HB⟩ := hrel
            by_cases hqR : q < R
            · have i3 : (0 : Int) < (R : Int) - (q : Int) := by omega
              obtain ⟨c0, c1, _, _⟩ := blk2 HBK.out
              have hsw := HB.out.size
              have HBA := Lib.hid (HBK.out.alloc (.cells #[.int .i64 (s : Int), .int .i64 (o : Int)] 41))
              go_wp2_with (at_builtin; refine wpList_app1B _ rfl (.tmp 35) (.tmp 37) _ rfl w.heap.size 41 2 16 elTerm A c (m + q) _ rfl (HW.out.alloc _) wr.heap.size #[.int .i64 (s : Int), .int .i64 (o : Int)] rfl (Blk.new wr _ _) rfl ?h1 (by omega) (by omega) (by simp; omega) ?_)
              case h1 => exact ⟨rfl, rfl⟩
              intro A' c' w5 hown5 hc5 hb5 hot5
              have HW5 : Hid (w5.ownsRow w.heap.size 41 2 (.slice A' (m + (q + 1)) c') (m + (q + 1)) (tcells (ts ++ List.replicate (q + 1) ((s : Int), (o : Int))))) := by unfold Hid; rw [rep_snoc, tcells_snoc]; exact hown5
              have HB5 := Lib.hid ((HB.out.alloc hsw (.cells #[.int .i64 (s : Int), .int .i64 (o : Int)] 41)).trans hb5)
              have h5 := hot5.blk HBA.out HAP.out
              have HAP5 : Hid (Apart (.slice A' (m + (q + 1)) c') T) := h5.1
              have HBK5 := Lib.hid h5.2
              clear hown5 hb5 hot5 h5
              have hc5' : m + (q + 1) ≤ c' := by omega
              go_wp2_with fail
              go_roundw
              case rel => exact ⟨q + 1, A', c', by omega, by go_num, by go_num, hc5', HBK5.out, HAP5.out, HW5.out, HB5.out⟩
              case measure => (simp [RowKit.intOf] <;> omega)
            · obtain rfl : q = R := by omega
              rw [← HNX.out] at HW
              have HLN : Hid (tn.length = m + q) := by unfold Hid; rw [HNX.out, List.length_append, HLA.out, List.length_replicate]
              have HWN : Hid (Own w wr A c tn) := by unfold Hid Own; rw [HLN.out]; exact ⟨HW.out, HB.out, hmc⟩
              have i4 : ((q : Int) - (q : Int)) = 0 := by omega
              go_wp2_with fail
              go_roundw
              case rel => exact ⟨(o : Int) - 1, tn, m + q, A, c, by omega, by omega, by go_num, rfl, HLN.out, HWN.out, HN1.out, HN2.out⟩
              case measure => (simp [RowKit.intOf] <;> omega)
        · obtain rfl : op = -1 := by omega
          have hTS := HE.out rfl
          subst hTS
          have HN1 : Hid (∀ s' : Nat, (s' : Int) = (s : Int) - 1 → nxt l n s 0 = ahd l n s' 6) := fun s' h => by
            obtain rfl : s = s' + 1 := by omega
            exact (HNS.out s' (by omega)).symm
          have HN2 : Hid ((s : Int) - 1 = -1 → nxt l n s 0 = trms l n) := fun h => by
            obtain rfl : s = 0 := by omega
            exact HNE.out
          clear HA HE
          generalize nxt l n s 0 = tn at *
          go_wp2_with fail
          go_roundw
          case rel => exact ⟨(s : Int) - 1, tn, m, A, c, by omega, by omega, by go_num, rfl, HL.out, HW.out, HN1.out, HN2.out⟩
          case measure => (simp [RowKit.intOf] <;> omega)
    · obtain rfl : sp = -1 := by omega
      have hTS := HE.out rfl
      subst hTS
      have HR : Hid (Reads wr wr.heap.size 2 A m (tcells (trms l n))) := by
        have := own_reads HW.out.1
        rwa [HL.out] at this
      have HC : Hid (m ≤ c) := by rw [← HL.out]; exact HW.out.2.2
      go_wp2_with fail
      go_ret
      exact ⟨A, c, m, rfl, HC.out, HL.out, HR.out, HW.out.2.1⟩
end Go.Proofs.YtjglgcgkmfbdpaaDoor
