/- The implementation's MarkShift. -/
import Derived.Test.YtogbjneldipnpaaLMkTwice
import Derived.Test.YtogbjneldipnpaaAfter
namespace Go.Proofs.Ytogbjneldipnpaa
open Go.RowKit
attribute [local go_sem ↓] Go.wp_at_zero Go.wp_at_succ

/-- What MarkShift gives. -/
def msR (ms : List T2) (b : Int) : List T2 × Bool := if (mvB ms && inB b (-100000) 100000 && mvB (shf ms b)) = true then (shf ms b, true) else ([], false)
def ShiftPost (w : World) (r : List T2 × Bool) (e : Ending) (w' : World) : Prop :=
  (∃ A c, e = .returned (.tuple #[.slice A r.1.length c, .bool r.2]) ∧ Reads w' w'.heap.size 2 A r.1.length (tcells r.1)) ∧ Below w.heap.size w w'
theorem msR_no {ms : List T2} {b : Int} (h : (mvB ms && inB b (-100000) 100000 && mvB (shf ms b)) = false) : msR ms b = ([], false) := by unfold msR; rw [h]; rfl
theorem shf_ext {ms zs : List T2} {b : Int} (hl : zs.length = ms.length) (h : ∀ j, j < ms.length → gp zs j = gp ms j + b ∧ gn zs j = gn ms j) : zs = shf ms b := by
  refine pairs_ext (by simp [shf, hl]) fun j hj => ?_
  have hj' : j < ms.length := by simpa [shf] using hj
  rw [(gp_shf hj').1, (gp_shf hj').2]; exact h j hj'

set_option maxHeartbeats 2000000 in
theorem implMarkShift_any (A : Option Addr) (n c : Nat) (ms : List T2) (y : Int) (w : World) (hn : n ≤ 1048576) (hts : ms.length = n) (hr : Reads w w.heap.size 2 A n (tcells ms)) :
    Calls Try.prog 25 #[.slice A n c, .int .i64 y] w (ShiftPost w (msR ms y)) := by
  have HMV := Lib.hid (implMarksValid_any A n c ms w hn hts hr)
  have HT := Lib.hid hts
  obtain ⟨r, hR⟩ : ∃ r, msR ms y = r := ⟨_, rfl⟩
  rw [hR]
  have HRR := Lib.hid hR; clear hR
  cases hv : mvB ms
  · have he : r = ([], false) := by rw [← HRR.out]; exact msR_no (by rw [hv]; rfl)
    have HE := Lib.hid he; clear he HRR
    rw [hv] at HMV; clear hv hr hts
    go_enter Try.func25, Try.ntmps25
    go_wp2_with fail
    refine HMV.out.mono ?_
    rintro e w1 ⟨rfl, hb1⟩
    have HB1 := Lib.hid hb1; clear hb1
    go_wp2_with fail
    go_ret2
    rw [HE.out]
    exact ⟨⟨none, 0, rfl, Reads.none_⟩, HB1.out⟩
  cases hx : inB y (-100000) 100000
  · have he : r = ([], false) := by rw [← HRR.out]; exact msR_no (by rw [hv, hx]; rfl)
    have HE := Lib.hid he; clear he HRR
    have hxx := inB_not.1 hx
    rw [hv] at HMV; clear hv hr hts hx
    go_enter Try.func25, Try.ntmps25
    go_wp2_with fail
    refine HMV.out.mono ?_
    rintro e w1 ⟨rfl, hb1⟩
    have HB1 := Lib.hid hb1; clear hb1
    rcases hxx with h | h
    all_goals
      go_wp2_with fail
      go_ret2
      rw [HE.out]
      exact ⟨⟨none, 0, rfl, Reads.none_⟩, HB1.out⟩
  have hyy := inB_iff.1 hx
  have hm2 := (mvB_iff.1 hv).1
  rw [hts] at hm2
  have hrr : r = if mvB (shf ms y) = true then (shf ms y, true) else ([], false) := by rw [← HRR.out]; unfold msR; rw [hv, hx]; rfl
  have HE := Lib.hid hrr; clear hrr HRR
  have HBN := Lib.hid (fun k (hk : k < n) => (mvB_bd hv (k := k) (by rw [hts]; exact hk)).1)
  obtain ⟨b, off, rfl, hb, _⟩ := hr.2 (by omega)
  rw [hv] at HMV; clear hv hx
  have HRD := Lib.hid hr; clear hr hts
  go_enter Try.func25, Try.ntmps25
  go_wp2_with fail
  refine HMV.out.mono ?_
  rintro e w3 ⟨rfl, hb3⟩
  have HR3 := Lib.hid ((HRD.out.below hb3).more hb3.size)
  have HB3 := Lib.hid hb3; clear hb3 HRD HMV
  go_wp2_with (at_builtin; refine wpList_appN _ rfl (.const (.slice none 0 0)) (.tmp 19) _ rfl w3.heap.size 34 2 16 elMark none 0 0 [] rfl (⟨by simp, .inl ⟨rfl, rfl⟩⟩) b off n c w3.heap.size (tcells ms) rfl (by omega) HR3.out (tcells_one ms) (by omega) (by omega) (by simp) ?_)
  intro A' c' w4 hown4 hc4 hb4
  obtain ⟨g, cur, rfl, hg, hblk, hfl⟩ := own_blk hown4 (by omega)
  clear hown4
  have HB34 := Lib.hid hb4; have HBLK := Lib.hid hblk; have HFL := Lib.hid hfl
  clear hb4 hblk hfl
  go_wp2_with fail
  go_loopw [23] (fun i wr => ∃ (k : Nat) (cur : Array Value) (zs : List T2), k ≤ n ∧ i = .int .i64 k ∧ Blk wr g 34 cur ∧ Filled cur (tcells zs) ∧ zs.length = n ∧ (∀ j, j < n → gp zs j = (if j < k then gp ms j + y else gp ms j) ∧ gn zs j = gn ms j) ∧ Below w3.heap.size w3 wr) (fun i _ => n - (intOf i).toNat)
  case atStart => exact ⟨0, cur, ms, Nat.zero_le _, rfl, HBLK.out, HFL.out, HT.out, fun j hj => ⟨by simp, rfl⟩, HB34.out⟩
  case round =>
    clear HB34 HBLK HFL cur
    obtain ⟨k, cur, zs, hk, rfl, hblk, hfl, hzl, hzs, hB⟩ := hrel
    have HB := Lib.hid hB; have HBLK := Lib.hid hblk; have HFL := Lib.hid hfl; have HZL := Lib.hid hzl; have HZS := Lib.hid hzs
    clear hB hblk hfl hzl hzs
    have hrz : Reads wr wr.heap.size 2 (some ⟨g, 0, none⟩) n (tcells zs) := HFL.out.reads HBLK.out (by rw [tcells_len, HZL.out])
    by_cases hlt : k < n
    · obtain ⟨b', off', e', hb', r1, r2⟩ := hrz.mark hlt
      cases e'
      have hgk := (HZS.out k hlt).1
      rw [if_neg (Nat.lt_irrefl k)] at hgk
      have hbk := HBN.out k hlt
      simp only [Nat.zero_add] at r1 r2
      have f2 := HBLK.out.frozen (k * 2)
      have HZ2 : Hid (Filled (cur.setIfInBounds (k * 2) (.int .i64 (gp zs k + y))) (tcells (zs.set k (gp zs k + y, gn zs k)))) := by
        rw [tcells_set1]; exact HFL.out.set _ _
      have HZ3 : Hid (∀ j, j < n → gp (zs.set k (gp zs k + y, gn zs k)) j = (if j < k + 1 then gp ms j + y else gp ms j) ∧ gn (zs.set k (gp zs k + y, gn zs k)) j = gn ms j) := by
        intro j hj
        have h1 := gp_set (ms := zs) (k := k) (j := j) (t := (gp zs k + y, gn zs k)) (by rw [HZL.out]; exact hlt)
        rw [h1.1, h1.2]
        have h2 := HZS.out j hj
        by_cases hkj : k = j
        · subst hkj
          rw [if_pos rfl, if_pos rfl, if_pos (Nat.lt_succ_self k), hgk]
          exact ⟨rfl, h2.2⟩
        · rw [if_neg hkj, if_neg hkj]
          refine ⟨h2.1.trans ?_, h2.2⟩
          by_cases hjk : j < k
          · rw [if_pos hjk, if_pos (by omega)]
          · rw [if_neg hjk, if_neg (by omega)]
      have HZ4 : Hid ((zs.set k (gp zs k + y, gn zs k)).length = n) := by unfold Hid; rw [List.length_set]; exact HZL.out
      generalize zs.set k (gp zs k + y, gn zs k) = zz at *
      rw [← hgk] at hbk
      clear hgk
      generalize gn zs k = q at *
      generalize gp zs k = p at *
      go_wp2_with fail
      go_roundw
      case rel => exact ⟨k + 1, _, zz, by omega, by go_num, HBLK.out.set _ _, HZ2.out, HZ4.out, HZ3.out, HB.out.setCell hg _⟩
      case measure => simp [intOf]; omega
    · obtain rfl : k = n := by omega
      have hzd : zs = shf ms y := shf_ext (by rw [HZL.out, HT.out]) fun j hj => by
        have hj' : j < k := by rw [HT.out] at hj; exact hj
        have := HZS.out j hj'
        rw [if_pos hj'] at this; exact this
      subst hzd
      have HC := Lib.hid (implMarksValid_any _ k c' (shf ms y) wr (by omega) HZL.out hrz)
      have HB4 := Lib.hid (HB3.out.trans (HB.out.mono HB3.out.size))
      have HRZ := Lib.hid hrz; clear hrz
      cases hv2 : mvB (shf ms y)
      · rw [hv2] at HC HE
        clear hv2
        go_wp2_with fail
        refine HC.out.mono ?_
        rintro e w5 ⟨rfl, hb5⟩
        have HB5 := Lib.hid (HB4.out.trans (hb5.mono HB4.out.size)); clear hb5
        go_wp2_with fail
        go_ret2
        rw [HE.out]
        exact ⟨⟨none, 0, rfl, Reads.none_⟩, HB5.out⟩
      · rw [hv2] at HC HE
        clear hv2
        go_wp2_with fail
        refine HC.out.mono ?_
        rintro e w5 ⟨rfl, hb5⟩
        have HB5 := Lib.hid (HB4.out.trans (hb5.mono HB4.out.size))
        have HRZ5 := Lib.hid ((HRZ.out.below hb5).more hb5.size); clear hb5
        go_wp2_with fail
        go_ret2
        rw [HE.out]
        refine ⟨⟨some ⟨g, 0, none⟩, c', ?_, ?_⟩, HB5.out⟩
        · show Ending.returned (.tuple #[.slice (some ⟨g, 0, none⟩) k c', .bool true]) = .returned (.tuple #[.slice (some ⟨g, 0, none⟩) (shf ms y).length c', .bool true])
          rw [HZL.out]
        · show Reads _ _ 2 _ (shf ms y).length (tcells (shf ms y))
          rw [HZL.out]; exact HRZ5.out
end Go.Proofs.Ytogbjneldipnpaa
