/- The program's list of all terms of a shell. -/
import Derived.Test.YtjglgcgkmfbdpaaDoorMi8
import Derived.Test.YtjglgcgkmfbdpaaDoorMi3
namespace Go.Proofs.YtjglgcgkmfbdpaaDoor
open Go.RowKit

theorem countP_rep (p : T2 → Bool) (t : T2) (q : Nat) (ts : List T2) : ((ts ++ List.replicate q t).countP p : Int) = (ts.countP p : Int) + if p t = true then (q : Int) else 0 := by
  rw [List.countP_append, List.countP_replicate]
  split <;> simp
theorem rct_self (s o : Nat) : rct ((s : Int), (o : Int)) (o : Int) (s : Int) = true := by unfold rct; rw [decide_eq_true_eq]; simp only; omega
theorem lft_snoc (l n : Nat) (ts : List T2) (t : T2) (a d : Int) : lft l n (ts ++ [t]) a d = lft l n ts a d - if rct t a d = true then 1 else 0 := by
  unfold lft
  have := countP_rep (fun t => rct t a d) t 1 ts
  rw [List.replicate_one] at this
  rw [this]
  split <;> omega
theorem lft_q {l n : Nat} (hl : l ≤ 2) (hn : n ≤ capL l) {s o : Nat} (hs : s < 9) (ho : o < 9) (q : Nat) : lft l n (ahd l n s o ++ List.replicate q ((s : Int), (o : Int))) (o : Int) (s : Int) = (rep l n s o : Int) - (q : Int) := by
  have h := lft_at ⟨l, by omega⟩ ⟨n, capL_le hl hn⟩ hn ⟨s, hs⟩ ⟨o, ho⟩
  simp only at h
  unfold lft at h ⊢
  rw [countP_rep, rct_self, if_pos rfl]
  omega
theorem lft_bd {l n : Nat} (hl : l ≤ 2) (hn : n ≤ capL l) (ts : List T2) (hts : ts.length ≤ 1000) (a d : Int) : -1000000 ≤ lft l n ts a d ∧ lft l n ts a d ≤ 1000000 := by
  have h1 := cnt_bd (lit l n) a d
  have h2 := (lit_len ⟨l, by omega⟩ ⟨n, capL_le hl hn⟩ hn).1
  have h3 := List.countP_le_length (l := ts) (p := fun t => rct t a d)
  simp only at h2
  unfold lft
  omega
/-- The list and the table between two steps. -/
def OwnT (w2 wr : World) (b : Nat) (l n : Nat) (A : Option Addr) (c : Nat) (ts : List T2) : Prop :=
  wr.ownsRow w2.heap.size 41 2 (.slice A ts.length c) ts.length (tcells ts) ∧ w2.grownBy wr (some b) ∧ ts.length ≤ c ∧ Tbl wr b (252 + 200 * ts.length) (lft l n ts)
def sliceLen : Value → Nat
  | .slice _ n _ => n
  | _ => 0

set_option maxHeartbeats 4000000 in
set_option maxRecDepth 100000 in
theorem implTermsOf_any (l n : Nat) (hl : l ≤ 2) (hn : n ≤ capL l) (w : World) (ht : Dbt w) :
    Calls Tryd.prog 5 #[.int .i64 (l : Int), .int .i64 (n : Int)] w (TlPost l n w) := by
  have HEV := Lib.hid (fun W => electronsValid_any (l : Int) (n : Int) W)
  rw [show evB (l : Int) (n : Int) = true from decide_eq_true (by unfold capL at hn; omega)] at HEV
  have HNT := Lib.hid (newMicroTable_any l n hl hn w ht)
  have HRB := Lib.hid (fun s o => rep_bd hl hn s o)
  have HAL := Lib.hid (fun s o => ahd_len hl hn s o)
  have HF : Hid (ahd l n 8 8 = []) := ahd_first ⟨l, by omega⟩ ⟨n, capL_le hl hn⟩ hn
  have HNO := Lib.hid (fun (s o : Nat) (hs : s ≤ 8) (ho : o ≤ 7) => nxt_o hl hn (s := s) (o := o) (by omega) (by omega))
  have HNS := Lib.hid (fun (s : Nat) (hs : s ≤ 7) => nxt_s hl hn (s := s) (by omega))
  have HNE := Lib.hid (nxt_end hl hn)
  have HLQ := Lib.hid (fun (s o : Nat) (hs : s ≤ 8) (ho : o ≤ 8) (q : Nat) => lft_q hl hn (s := s) (o := o) (by omega) (by omega) q)
  have HLB := Lib.hid (fun ts h a d => lft_bd hl hn ts h a d)
  have hn' : n ≤ 10 := by unfold capL at hn; omega
  clear hn ht
  go_enter Tryd.func5, Tryd.ntmps5
  go_wp2_with fail
  refine (HEV.out _).mono ?_
  rintro e w1 ⟨rfl, rfl⟩
  go_wp2_with fail
  refine HNT.out.mono ?_
  rintro e w2 ⟨b, rfl, hbw, htb, hb2⟩
  have HB2 := Lib.hid hb2
  have hb2lt : b < w2.heap.size := htb.lt
  have HI0 : Hid (OwnT w2 w2 b l n none 0 []) := ⟨World.ownsRow_nil _ _ _ _, gb_refl _ _, Nat.le_refl _, htb.eq fun o s _ _ => by simp [lft]⟩
  have HI1 : Hid (∀ s : Nat, (s : Int) = 8 → ([] : List T2) = ahd l n s 8) := fun s hs => by
    obtain rfl : s = 8 := by omega
    exact HF.out.symm
  have HI2 : Hid ((8 : Int) = -1 → ([] : List T2) = trms l n) := fun h => by omega
  clear htb hb2 HNT
  go_wp2_with fail
  go_loopw [6, 7] (fun v i wr => ∃ (sp : Int) (ts : List T2) (m : Nat) (A : Option Addr) (c : Nat), -1 ≤ sp ∧ sp ≤ 8 ∧ i = .int .i64 sp ∧ v = .slice A m c ∧ Hid (ts.length = m) ∧ Hid (OwnT w2 wr b l n A c ts) ∧ Hid (∀ s : Nat, (s : Int) = sp → ts = ahd l n s 8) ∧ Hid (sp = -1 → ts = trms l n)) (fun _ i _ => (RowKit.intOf i + 1).toNat)
  case atStart => exact ⟨8, [], 0, _, _, by omega, by omega, rfl, rfl, rfl, HI0.out, HI1.out, HI2.out⟩
  case round =>
    clear HI0 HI1 HI2
    obtain ⟨sp, ts, m, A, c, hs0, hs1, rfl, rfl, HL, HW, HA, HE⟩ := hrel
    by_cases hsp : 0 ≤ sp
    · obtain ⟨s, rfl⟩ := Int.eq_ofNat_of_zero_le hsp
      have hs5 : s ≤ 8 := by omega
      have HA2 := Lib.hid (HA.out s rfl); clear HA HE
      have HO1 : Hid (∀ o : Nat, (o : Int) = 8 → ts = ahd l n s o) := fun o ho => by
        obtain rfl : o = 8 := by omega
        exact HA2.out
      have HO2 : Hid ((8 : Int) = -1 → ts = nxt l n s 0) := fun h => by omega
      have i1 : (0 : Int) ≤ (s : Int) := by omega
      obtain ⟨wm, rfl⟩ : ∃ wm : World, wm = wr := ⟨_, rfl⟩
      go_wp2_with fail
      go_loopw [6, 8] (fun v i wr => ∃ (op : Int) (ts : List T2) (m : Nat) (A : Option Addr) (c : Nat), -1 ≤ op ∧ op ≤ 8 ∧ i = .int .i64 op ∧ v = .slice A m c ∧ Hid (ts.length = m) ∧ Hid (OwnT w2 wr b l n A c ts) ∧ Hid (∀ o : Nat, (o : Int) = op → ts = ahd l n s o) ∧ Hid (op = -1 → ts = nxt l n s 0)) (fun _ i _ => (RowKit.intOf i + 1).toNat)
      case atStart => exact ⟨8, ts, m, A, c, by omega, by omega, rfl, rfl, HL.out, HW.out, HO1.out, HO2.out⟩
      case round =>
        clear HA2 HO1 HO2 HL HW
        obtain ⟨wn, rfl⟩ : ∃ wn : World, wn = wr := ⟨_, rfl⟩
        obtain ⟨op, ts, m, A, c, ho0, ho1, rfl, rfl, HL, HW, HA, HE⟩ := hrel
        by_cases hop : 0 ≤ op
        · obtain ⟨o, rfl⟩ := Int.eq_ofNat_of_zero_le hop
          have ho6 : o ≤ 8 := by omega
          have HA2 := HA.out o rfl
          subst HA2
          clear HA HE
          have hR := HRB.out s o
          have hm := HAL.out s o
          have HNX := Lib.hid (nxt_at l n s o)
          have HLF := Lib.hid (HLQ.out s o hs5 ho6)
          rw [HL.out] at hm
          generalize rep l n s o = R at *
          have HN1 : Hid (∀ o' : Nat, (o' : Int) = (o : Int) - 1 → nxt l n s o = ahd l n s o') := fun o' h => by
            obtain rfl : o = o' + 1 := by omega
            exact (HNO.out s o' hs5 (by omega)).symm
          have HN2 : Hid ((o : Int) - 1 = -1 → nxt l n s o = nxt l n s 0) := fun h => by
            obtain rfl : o = 0 := by omega
            rfl
          have HLA := Lib.hid HL.out
          have HW0 : Hid (OwnT w2 wn b l n A c (ahd l n s o ++ List.replicate 0 ((s : Int), (o : Int)))) := by unfold Hid; simpa using HW.out
          generalize ahd l n s o = ts at *
          generalize nxt l n s o = tn at *
          have i2 : (0 : Int) ≤ (o : Int) := by omega
          clear HL HW
          go_wp2_with fail
          go_loopw [6] (fun v wr => ∃ (q : Nat) (A : Option Addr) (c : Nat), q ≤ R ∧ v = .slice A (m + q) c ∧ Hid (OwnT w2 wr b l n A c (ts ++ List.replicate q ((s : Int), (o : Int))))) (fun v _ => 1000 - sliceLen v)
          case atStart => exact ⟨0, A, c, Nat.zero_le _, rfl, HW0.out⟩
          case round =>
            clear HW0
            obtain ⟨q, A, c, hq, rfl, HW⟩ := hrel
            have HLN : Hid ((ts ++ List.replicate q ((s : Int), (o : Int))).length = m + q) := by unfold Hid; rw [List.length_append, HLA.out, List.length_replicate]
            have hlk := HW.out.2.2.2.look (o := (o : Int)) (s := (s : Int)) (by unfold In10; omega) (by unfold In10; omega)
            rw [HLF.out q] at hlk
            unfold keyV at hlk
            by_cases hqR : q < R
            · have i3 : (0 : Int) < (R : Int) - (q : Int) := by omega
              have hsw := HW.out.2.1.size
              have HOW := Lib.hid HW.out.1
              rw [HLN.out] at HOW
              have HTB := Lib.hid HW.out.2.2.2
              have HGW := Lib.hid HW.out.2.1
              rw [HLN.out] at HTB
              generalize (R : Int) - (q : Int) = C at *
              obtain ⟨pt, hpt⟩ : ∃ pt, wr.heap.size = pt := ⟨_, rfl⟩
              have HBT := Lib.hid (Blk.new wr 41 #[.int .i64 (s : Int), .int .i64 (o : Int)])
              have HBL := Lib.hid (Blk.new (wr.alloc (.cells #[.int .i64 (s : Int), .int .i64 (o : Int)] 41)) 41 #[.int .i64 (s : Int), .int .i64 (o : Int)])
              rw [World.size_alloc] at HBL
              rw [hpt] at HBT HBL
              have HAPT := Lib.hid (apart_new HOW.out (T := pt) (by rw [hpt]; exact Nat.le_refl _))
              have HPT := Lib.hid hpt
              have HBTA := Lib.hid (HBT.out.alloc (.cells #[.int .i64 (s : Int), .int .i64 (o : Int)] 41))
              have HGA := Lib.hid (gb_alloc (gb_alloc HGW.out (.cells #[.int .i64 (s : Int), .int .i64 (o : Int)] 41)) (.cells #[.int .i64 (s : Int), .int .i64 (o : Int)] 41))
              have HOWA := Lib.hid ((HOW.out.alloc (.cells #[.int .i64 (s : Int), .int .i64 (o : Int)] 41)).alloc (.cells #[.int .i64 (s : Int), .int .i64 (o : Int)] 41))
              have HTBA := Lib.hid (HTB.out.below (((Below.refl wr.heap.size wr).alloc (Nat.le_refl _) (.cells #[.int .i64 (s : Int), .int .i64 (o : Int)] 41)).alloc (by simp) (.cells #[.int .i64 (s : Int), .int .i64 (o : Int)] 41)))
              go_wp2_with (at_builtin; refine wpList_app1B _ rfl (.tmp 34) (.tmp 36) _ rfl w2.heap.size 41 2 16 elTerm A c (m + q) _ rfl HOWA.out (pt + 1) #[.int .i64 (s : Int), .int .i64 (o : Int)] rfl HBL.out rfl ?h1 (by omega) (by omega) (by simp; omega) ?_)
              case h1 => exact ⟨rfl, rfl⟩
              intro A' c' w5 hown5 hc5 hb5 hot5
              have h5 := hot5.blk HBTA.out HAPT.out
              have HBT5 := Lib.hid h5.2
              have HG5 := Lib.hid (gb_base HGA.out hb5)
              have HT5 := Lib.hid (HTBA.out.kept (hb5.block b hb2lt))
              have HO5 : Hid (w5.ownsRow w2.heap.size 41 2 (.slice A' (m + (q + 1)) c') (m + (q + 1)) (tcells (ts ++ List.replicate (q + 1) ((s : Int), (o : Int))))) := by unfold Hid; rw [rep_snoc, tcells_snoc]; exact hown5
              clear hown5 hb5 hot5 h5 HBT HBL HOW HTB HGW HBTA HGA HOWA HTBA hlk
              obtain ⟨e0, e1, _, _⟩ := blk2 HBT5.out
              have HSK := Lib.hid (strike_any b (252 + 200 * (m + q)) s o (lft l n (ts ++ List.replicate q ((s : Int), (o : Int)))) w5 hs5 ho6 (by omega) HT5.out (HLB.out _ (by rw [HLN.out]; omega)))
              clear hpt
              go_wp2_with fail
              refine HSK.out.mono ?_
              rintro e w6 ⟨rfl, ht6, hg6⟩
              have HLN2 : Hid ((ts ++ List.replicate (q + 1) ((s : Int), (o : Int))).length = m + (q + 1)) := by unfold Hid; rw [List.length_append, HLA.out, List.length_replicate]
              have HW6 : Hid (OwnT w2 w6 b l n A' c' (ts ++ List.replicate (q + 1) ((s : Int), (o : Int)))) := by
                unfold Hid OwnT
                rw [HLN2.out]
                refine ⟨own_gb HO5.out hg6 hb2lt, gb_trans HG5.out hg6, by omega, (ht6.eq fun a d _ _ => ?_).more (by omega)⟩
                rw [stk_all, rep_snoc, lft_snoc]
              clear ht6 hg6 HSK
              go_wp2_with fail
              go_roundw
              case rel => exact ⟨q + 1, A', c', by omega, by go_num, HW6.out⟩
              case measure => (simp [sliceLen] <;> omega)
            · obtain rfl : q = R := by omega
              have i4 : ((q : Int) - (q : Int)) = 0 := by omega
              rw [i4] at hlk
              rw [← HNX.out] at HW HLN
              go_wp2_with fail
              go_roundw
              case rel => exact ⟨(o : Int) - 1, tn, m + q, A, c, by omega, by omega, by go_num, rfl, HLN.out, HW.out, HN1.out, HN2.out⟩
              case measure => (simp [RowKit.intOf] <;> omega)
        · obtain rfl : op = -1 := by omega
          have hTS := HE.out rfl
          subst hTS
          have HN1 : Hid (∀ s' : Nat, (s' : Int) = (s : Int) - 1 → nxt l n s 0 = ahd l n s' 8) := fun s' h => by
            obtain rfl : s = s' + 1 := by omega
            exact (HNS.out s' (by omega)).symm
          have HN2 : Hid ((s : Int) - 1 = -1 → nxt l n s 0 = trms l n) := fun h => by
            obtain rfl : s = 0 := by omega
            exact HNE.out
          clear HA HE
          generalize nxt l n s 0 = tn at *
          go_wp2_with fail
          go_roundw
          case rel => exact ⟨(s : Int) - 1, tn, m, A, c, by omega, by omega, by go_num, rfl, HL.out, HW.out, HN1.out, HN2.out⟩
          case measure => (simp [RowKit.intOf] <;> omega)
    · obtain rfl : sp = -1 := by omega
      have hTS := HE.out rfl
      subst hTS
      have HR : Hid (Reads wr wr.heap.size 2 A m (tcells (trms l n))) := by
        have := own_reads HW.out.1
        rwa [HL.out] at this
      have HC : Hid (m ≤ c) := by rw [← HL.out]; exact HW.out.2.2.1
      have HBF := Lib.hid (below_tbl HB2.out HW.out.2.1 HB2.out.size hbw)
      go_wp2_with fail
      go_ret
      exact ⟨A, c, m, rfl, HC.out, HL.out, HR.out, HBF.out⟩
end Go.Proofs.YtjglgcgkmfbdpaaDoor
