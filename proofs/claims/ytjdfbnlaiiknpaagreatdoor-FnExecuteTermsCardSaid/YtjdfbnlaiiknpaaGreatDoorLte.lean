/- Joined: Tq LTer. -/
import Derived.Test.YtjdfbnlaiiknpaaGreatDoorTcb
import Derived.Test.YtjdfbnlaiiknpaaGreatDoorFad
import Derived.Test.YtjdfbnlaiiknpaaGreatDoorLawKit
namespace Go.Proofs.YtjdfbnlaiiknpaaGreatDoor
/- The request of terms, and its line. -/
section
open Go.RowKit
attribute [local go_sem ↓] Go.wp_at_zero Go.wp_at_succ

def rqTe (s : List UInt8) : List UInt8 × Bool := (tsT (tcF (cfF s).1).1, (cfF s).2 && (tcF (cfF s).1).2)
set_option maxHeartbeats 4000000 in
set_option maxRecDepth 100000 in
theorem reqTerms_any (g n : Nat) (L : List (List UInt8)) (w : World) (hl : L.length = n) (h1 : 1 ≤ n) (hn : n ≤ 1000) (hj : (Lib.join L [32]).length ≤ 900) (ha : ∀ c ∈ Lib.join L [32], c.toNat < 128) (hg : g < w.heap.size)
    (hc : ∀ i, i < n → w.cell? ⟨g, 1 + i, none⟩ = some (.string (bs (L.getD i [])))) (he : Er w) (hm : Mx w) (hd : Mi.Dbt w) :
    Calls Tryz.prog 86 #[.agg #[.slice (some ⟨g, 1, none⟩) n n]] w fun e w' => e = .returned (.tuple #[.string (bs (rqTe (Lib.join L [32])).1), .bool (rqTe (Lib.join L [32])).2]) ∧ Below w.heap.size w w' := by
  have HB0 := Lib.hid (bel_alloc (Below.refl w.heap.size w) (.cells #[.slice (some ⟨g, 1, none⟩) n n] 91))
  have HQ0 := Lib.hid (Blk.new w 91 #[.slice (some ⟨g, 1, none⟩) n n])
  have c0 : (w.alloc (.cells #[.slice (some ⟨g, 1, none⟩) n n] 91)).cell? ⟨w.heap.size, 0, none⟩ = some (.slice (some ⟨g, 1, none⟩) n n) := HQ0.out.cell 0
  have HCF := Lib.hid (reqConfig_any g n L (w.alloc (.cells #[.slice (some ⟨g, 1, none⟩) n n] 91)) hl h1 hn hj ha (Nat.lt_of_lt_of_le hg HB0.out.size) (fun i hi => cell_sub (bel_alloc (Below.refl w.heap.size w) _) (hc i hi)) (he.on HB0.out) (hm.on HB0.out))
  have HDB := Lib.hid (fun W (hB : Below w.heap.size w W) => hd.on hB)
  have hcl := cfF_len (Lib.join L [32])
  unfold rqTe
  generalize Lib.join L [32] = J at *
  obtain ⟨⟨ss, ok⟩, hr⟩ : ∃ r, cfF J = r := ⟨_, rfl⟩
  rw [hr] at HCF hcl ⊢
  unfold CFPost at HCF
  simp only at HCF hcl ⊢
  obtain ⟨m, hm2⟩ : ∃ m, ss.length = m := ⟨_, rfl⟩
  rw [hm2] at HCF hcl
  have HM := Lib.hid hm2
  have HTF := Lib.hid (fun A c W hn hr hd => implTermsConfig_any A m c ss W hn HM.out hr hd)
  unfold TCPost at HTF
  have hlen := tcF_len ss
  obtain ⟨⟨ts, fine⟩, hq⟩ : ∃ q, tcF ss = q := ⟨_, rfl⟩
  rw [hq] at HTF hlen ⊢
  simp only at HTF hlen ⊢
  obtain ⟨k, hk⟩ : ∃ k, ts.length = k := ⟨_, rfl⟩
  rw [hk] at HTF hlen
  have HK := Lib.hid hk
  clear hr hl ha hg hc he hm hm2 hq hd hk
  go_enter Tryz.func86, Tryz.ntmps86
  go_wp2_with fail
  refine HCF.out.mono ?_
  rintro e w2 ⟨⟨A, c, rfl, hr2⟩, hb2⟩
  have HR2 := Lib.hid hr2
  have HB2 := Lib.hid (bel_sub HB0.out hb2)
  clear hb2 hr2 HB0 HQ0 HCF
  go_wp2_with fail
  refine (HTF.out A c w2 (by omega) HR2.out (HDB.out _ HB2.out)).mono ?_
  rintro e w3 ⟨⟨A3, c3, rfl, hr3⟩, hb3⟩
  have HR3 := Lib.hid hr3
  have HB3 := Lib.hid (bel_sub HB2.out hb3)
  clear hb3 hr3 HB2 HR2 HTF
  go_wp2_with fail
  refine (implTermsText_any A3 k c3 ts w3 (by omega) HK.out HR3.out).mono ?_
  rintro e w4 ⟨rfl, hb4⟩
  have HB4 := Lib.hid (bel_sub HB3.out hb4)
  clear hb4 HB3 HR3 HK
  obtain ⟨Y, hY⟩ : ∃ Y, bs (tsT ts) = Y := ⟨_, rfl⟩
  rw [hY]
  have HY := Lib.hid hY
  clear hY
  cases ok
  · go_wp2_with fail
    go_ret2
    exact ⟨by rw [HY.out]; rfl, HB4.out⟩
  · go_wp2_with fail
    go_ret2
    exact ⟨by rw [HY.out]; rfl, HB4.out⟩
def terW : List UInt8 := [116, 101, 114, 109, 115]
theorem ter_cmd : cmdOf terW = some 86 := by decide +kernel
theorem terLine (ss : List S3) (h : cvB ss = true) (hn : ss.length ≤ 19) (hok : (tcF ss).2 = true) (w : World) (he : Er w) (hm : Mx w) (hd : Mi.Dbt w) :
    LineOk w (terW ++ 32 :: cfgT ss) (tsT (tcF ss).1) := by
  obtain ⟨f1, f2, f3, f4, f5, f6⟩ := cfg_facts h hn
  obtain ⟨_, hne⟩ := cv_all h
  have hs : spl 32 (terW ++ 32 :: cfgT ss) = terW :: ss.map shT := by rw [spl_app (by decide), f1]
  intro W b hW hbl
  rw [hs] at hbl ⊢
  have hl1 : (terW :: ss.map shT).length = ss.length + 1 := by simp
  have hpos : 1 ≤ ss.length := List.length_pos_iff.2 hne
  rw [hl1]
  have hr : rqTe (cfgT ss) = (tsT (tcF ss).1, true) := by unfold rqTe; rw [f2, hok]; rfl
  have := answer_any b (ss.length + 1) (terW :: ss.map shT) terW 86 (bs (tsT (tcF ss).1)) true W hl1 rfl (by decide) (by omega) hbl ter_cmd
    (enters_of Tryz.func86 (by kernel_rfl) rfl)
    (fun W' hW' => by
      have hB := hbl.sub hW'
      have := reqTerms_any b ss.length (ss.map shT) W' (by simp) hpos (by omega) (by rw [← f6]; omega) (by rw [← f6]; exact f4) (Nat.lt_of_lt_of_le hbl.lt hW'.size) (fun i hi => by
        rw [hB.cell, wcs, List.map_cons, List.getElem?_toArray, show 1 + i = i + 1 by omega, List.getElem?_cons_succ, List.getElem?_map, List.getD_eq_getElem?_getD]
        rw [List.getElem?_eq_getElem (by simpa using hi)]; rfl) ((he.on hW).on hW') ((hm.on hW).on hW') ((hd.on hW).on hW')
      rw [← f6, hr] at this
      rw [if_neg (by omega), show ss.length + 1 - 1 = ss.length by omega]
      exact this)
  exact this
end

/- The walk of the law FnExecuteTerms. -/
section
open Go.RowKit
attribute [local go_sem ↓] Go.wp_at_zero Go.wp_at_succ

theorem tsT_len {ts : List T2} (h : ts.length ≤ 400) (hv : ∀ t ∈ ts, tvB t = true) : (tsT ts).length ≤ 1200 := by
  by_cases h0 : ts.length = 0
  · rw [tsT_none h0]; simp
  · have hg : ∀ i, i < ts.length → tvB (ts.getD i (0, 0)) = true := fun i hi => by
      rw [List.getD_eq_getElem?_getD, List.getElem?_eq_getElem hi]
      exact hv _ (List.getElem_mem hi)
    rw [tsT_all h0 hg]
    have := jn_le ts ts.length hg (Nat.le_refl _)
    omega
theorem tcF_cv {cs : List S3} (h : (tcF cs).2 = true) : cvB cs = true := by
  unfold tcF at h
  split at h
  · assumption
  · cases h
set_option maxHeartbeats 4000000 in
set_option maxRecDepth 100000 in
theorem fnExecuteTerms_walk (A : Option Addr) (n0 c0 : Nat) (w : World) (hn : n0 ≤ maxLen) (hc : n0 ≤ c0) (hb : Bytes w w.heap.size A n0) (ht : Tab w) (hm : Mx w) (he : Er w) (hd : Mi.Dbt w) :
    Calls Tryz.prog 3 #[.slice A n0 c0] w fun e w' => e = .returned (.bool true) ∧ Below w.heap.size w w' := by
  unfold maxLen at hn
  have HE := Lib.hid (fun W (hB : Below w.heap.size w W) => And.intro (ht.on hB) (And.intro (hm.on hB) (And.intro (he.on hB) (hd.on hB)))); clear ht hm he hd
  have HB := Lib.hid hb; clear hb
  have hB0 := Below.refl w.heap.size w
  by_cases hbig : 1048576 < n0
  · go_enter Tryz.func3, Tryz.ntmps3
    go_wp2_with fail
    go_ret
    exact ⟨rfl, hB0⟩
  clear hB0
  go_enter Tryz.func3, Tryz.ntmps3
  go_wp2_with fail
  refine (DrawTermsConfig_any A n0 c0 w (by omega) hc HB.out).mono ?_
  rintro e w1 ⟨A1, c1, ss, rfl, hs4, hsm, hr1, hb1⟩
  have HB1 := Lib.hid hb1
  have HR1 := Lib.hid hr1
  have HSM := Lib.hid hsm
  clear hb1 hr1 hsm HB
  obtain ⟨m, hmm⟩ : ∃ m, ss.length = m := ⟨_, rfl⟩
  rw [hmm] at hs4 HR1 ⊢
  have HM := Lib.hid hmm; clear hmm
  have HI := Lib.hid (fun W hr hd => implTermsConfig_any A1 m c1 ss W (by omega) HM.out hr hd)
  have HS := Lib.hid (fun W hr => specTermsConfig_any A1 m c1 ss W (by omega) HM.out HSM.out hr)
  have HV := Lib.hid (tcF_valid ss)
  have HL := Lib.hid (tcF_len ss)
  have HNO := Lib.hid (tcF_no (cs := ss))
  have HCV := Lib.hid (tcF_cv (cs := ss))
  have HLN := Lib.hid (fun W hcv hok he hm hd => terLine ss hcv (by rw [HM.out]; omega) hok W he hm hd)
  unfold TCPost at HI HS
  obtain ⟨⟨ts, fine⟩, hq⟩ : ∃ q, tcF ss = q := ⟨_, rfl⟩
  rw [hq] at HI HS HV HL HNO HCV HLN
  simp only at HI HS HV HL HNO HCV HLN
  clear hq
  obtain ⟨k, hk⟩ : ∃ k, ts.length = k := ⟨_, rfl⟩
  rw [hk] at HI HS HL
  have HK := Lib.hid hk; clear hk
  have hk4 : k ≤ 400 := HL.out
  go_wp2_with fail
  refine (HI.out _ HR1.out (HE.out _ HB1.out).2.2.2).mono ?_
  rintro e w2 ⟨⟨A2, c2, rfl, hr2⟩, hb2⟩
  have HB2 := Lib.hid (bel_sub HB1.out hb2)
  replace HR1 := Lib.hid ((HR1.out.below hb2).more hb2.size)
  have HR2 := Lib.hid hr2
  clear hb2 hr2 HI HB1
  go_wp2_with fail
  refine (HS.out _ HR1.out).mono ?_
  rintro e w3 ⟨⟨A3, c3, rfl, hr3⟩, hb3⟩
  have HB3 := Lib.hid (bel_sub HB2.out hb3)
  replace HR1 := Lib.hid ((HR1.out.below hb3).more hb3.size)
  replace HR2 := Lib.hid ((HR2.out.below hb3).more hb3.size)
  have HR3 := Lib.hid hr3
  clear hb3 hr3 HS HB2
  cases fine
  · go_wp2_with fail
    refine (sameTerms_any A2 A3 k c2 c3 ts w3 (by omega) HR2.out HR3.out).mono ?_
    rintro e w4 ⟨rfl, hb4⟩
    have HB4 := Lib.hid (bel_sub HB3.out hb4)
    replace HR2 := Lib.hid ((HR2.out.below hb4).more hb4.size)
    replace HR3 := Lib.hid ((HR3.out.below hb4).more hb4.size)
    clear hb4 HB3
    go_wp2_with fail
    refine (sameTerms_any A2 A3 k c2 c3 ts w4 (by omega) HR2.out HR3.out).mono ?_
    rintro e w5 ⟨rfl, hb5⟩
    have HB5 := Lib.hid (bel_sub HB4.out hb5)
    clear hb5 HB4
    go_wp2_with fail
    go_ret
    exact ⟨ret_bool (by simp), HB5.out⟩
  go_wp2_with fail
  refine (sameTerms_any A2 A3 k c2 c3 ts w3 (by omega) HR2.out HR3.out).mono ?_
  rintro e w4 ⟨rfl, hb4⟩
  have HB4 := Lib.hid (bel_sub HB3.out hb4)
  replace HR1 := Lib.hid ((HR1.out.below hb4).more hb4.size)
  replace HR2 := Lib.hid ((HR2.out.below hb4).more hb4.size)
  clear hb4 HB3 HR3
  go_wp2_with fail
  refine (ConfigText_any A1 m c1 ss w4 (by omega) HM.out HR1.out).mono ?_
  rintro e w5 ⟨rfl, hb5⟩
  have HB5 := Lib.hid (bel_sub HB4.out hb5)
  replace HR2 := Lib.hid ((HR2.out.below hb5).more hb5.size)
  clear hb5 HB4 HR1
  have hcv := HCV.out (by trivial)
  obtain ⟨f1, f2, f3, f4, f5, f6⟩ := cfg_facts hcv (by rw [HM.out]; omega)
  have HX := Lib.hid (fun W (h : Tab W ∧ Mx W ∧ Er W ∧ Mi.Dbt W) => exec1 (terW ++ 32 :: cfgT ss) (tsT ts) W h.1 h.2.1 (by unfold terW; simp; omega) (by unfold terW; simp; exact f5) (by have := tsT_len (by rw [HK.out]; exact hk4) HV.out; omega) (HLN.out W hcv (by trivial) h.2.2.1 h.2.1 h.2.2.2))
  have hz1 : (bs (cfgT ss)).size ≤ 95 := by rw [bs_size]; exact f3
  have hz2 : (bs (tsT ts)).size ≤ 1200 := by rw [bs_size]; exact tsT_len (by rw [HK.out]; exact hk4) HV.out
  have hs1 : bs (terW ++ 32 :: cfgT ss ++ [10]) = (⟨#[116, 101, 114, 109, 115, 32]⟩ : ByteArray) ++ bs (cfgT ss) ++ ⟨#[10]⟩ := by
    rw [show terW ++ 32 :: cfgT ss ++ [10] = [116, 101, 114, 109, 115, 32] ++ cfgT ss ++ [10] by unfold terW; simp, ← bs_append, ← bs_append]; rfl
  have hs2 : bs (tsT ts ++ [10, 108, 105, 110, 101, 115, 32, 49, 10]) = bs (tsT ts) ++ (⟨#[10, 108, 105, 110, 101, 115, 32, 49, 10]⟩ : ByteArray) := by
    rw [← bs_append]; rfl
  rw [hs1, hs2] at HX
  have HTT := Lib.hid (fun W hr => implTermsText_any A2 k c2 ts W (by omega) HK.out hr)
  clear hs1 hs2 f1 f2 f3 f4 f5 f6 hcv HLN HNO HCV HV
  generalize bs (cfgT ss) = X at *
  generalize bs (tsT ts) = Y at *
  go_wp2_with fail
  refine (HX.out _ (HE.out _ HB5.out)).mono ?_
  rintro e w6 ⟨rfl, hb6⟩
  have HB6 := Lib.hid (bel_sub HB5.out hb6)
  replace HR2 := Lib.hid ((HR2.out.below hb6).more hb6.size)
  clear hb6 HB5
  go_wp2_with fail
  refine (HTT.out _ HR2.out).mono ?_
  rintro e w7 ⟨rfl, hb7⟩
  have HB7 := Lib.hid (bel_sub HB6.out hb7)
  clear hb7 HB6
  go_wp2_with fail
  go_ret
  exact ⟨ret_bool (by simp), HB7.out⟩
end

end Go.Proofs.YtjdfbnlaiiknpaaGreatDoor
