/- The walk of the law FnNodeWords. -/
import Derived.Test.YtnljibgjfobkbaaDoorLSc
import Derived.Test.YtnljibgjfobkbaaDoorDrawNode
namespace Go.Proofs.YtnljibgjfobkbaaDoor
open Go.RowKit
attribute [local go_sem ↓] Go.wp_at_zero Go.wp_at_succ

theorem sv1 {e j : Int} {o : Bool} (h : ndB e j = true) : svB [(0, j, o)] = true := by
  have hb := ndB_iff.1 h
  refine svB_iff.2 ⟨⟨by simp, by simp⟩, rfl, fun k hk => ?_⟩
  obtain rfl : k = 0 := by simp at hk; omega
  exact okN_iff.2 ⟨ndB_iff.2 ⟨by simp [gN], hb.2⟩, rfl, .inl rfl⟩
theorem sc1 {e j : Int} {o : Bool} (h : ndB e j = true) : bs (ndT 0 j o) ++ ⟨#[10]⟩ = bs (scT [(0, j, o)]) := by
  unfold scT
  rw [if_pos (sv1 h)]
  exact bs_append _ [10]
theorem nd_ne {e j : Int} {o : Bool} (h : ndB e j = true) : (bs (ndT e j o)).toList.isEmpty = false := by
  rw [show (bs (ndT e j o)).toList = ndT e j o from ByteArray.toList_mk _, ndT_ok h]
  simp

set_option maxHeartbeats 4000000 in
set_option maxRecDepth 100000 in
theorem fnNodeWords_walk (A : Option Addr) (n0 c0 : Nat) (w : World) (hn : n0 ≤ maxLen) (hc : n0 ≤ c0) (hb : Bytes w w.heap.size A n0) (ht : Tab w) (hm : Mx w) :
    Calls Tryd.prog 9 #[.slice A n0 c0] w fun e w' => e = .returned (.bool true) ∧ Below w.heap.size w w' := by
  unfold maxLen at hn
  have HT := Lib.hid ht; clear ht
  have HMx := Lib.hid hm; clear hm
  have HB := Lib.hid hb; clear hb
  have hB0 := Below.refl w.heap.size w
  by_cases hbig : 1048576 < n0
  · go_enter Tryd.func9, Tryd.ntmps9
    go_wp2_with fail
    go_ret
    exact ⟨rfl, hB0⟩
  clear hB0
  go_enter Tryd.func9, Tryd.ntmps9
  go_wp2_with fail
  refine (DrawNodeText_any A n0 c0 w (by omega) hc HB.out).mono ?_
  rintro e w1 ⟨en, j, o, rfl, hbd, hb1⟩
  have HB1 := Lib.hid hb1; clear hb1 HB
  have HG2 := Lib.hid (HB1.out.alloc HB1.out.size (.cells #[.int .i64 en, .int .i64 j, .bool o] 25))
  have HX2_n := Lib.hid (Blk.new w1 25 #[.int .i64 en, .int .i64 j, .bool o])
  clear HB1
  have HI := Lib.hid (fun W ht => implNodeText_any en j o W ht)
  have HS := Lib.hid (fun W => specNodeText_any en j o W)
  have HI2 := Lib.hid (fun W ht => implNodeText_any 0 j o W ht)
  cases hv : ndB en j
  · have he : ndT en j o = [] := by unfold ndT; rw [hv]; simp
    rw [he, bs_nil] at HI HS; clear he hv
    go_wp2_with fail
    refine (HI.out _ (HT.out.on HG2.out)).mono ?_
    rintro e w3 ⟨rfl, hg3⟩
    have HX3_0 := Lib.hid (HX2_n.out.sub hg3)
    have HG3 := Lib.hid (HG2.out.trans (hg3.mono HG2.out.size)); clear hg3
    clear HX2_n HG2
    have le3 := HG3.out.size
    obtain ⟨y0a, y0b, y0e, y0c, y0d, y0f⟩ := blk3 HX3_0.out
    have q0 := HX3_0.out.lt
    go_wp2_with fail
    refine (HS.out _).mono ?_
    rintro e w4 ⟨rfl, hg4⟩
    clear y0a y0b y0c y0d y0e y0f q0
    have HX4_0 := Lib.hid (HX3_0.out.sub hg4)
    have HG4 := Lib.hid (HG3.out.trans (hg4.mono HG3.out.size)); clear hg4
    clear HX3_0 HG3
    have le4 := HG4.out.size
    obtain ⟨y0a, y0b, y0e, y0c, y0d, y0f⟩ := blk3 HX4_0.out
    have q0 := HX4_0.out.lt
    go_wp2_with fail
    go_ret
    exact ⟨rfl, HG4.out⟩
  have HF := Lib.hid (fun W (hB : Below w.heap.size w W) => SchemeFrom_any [(0, j, o)] W (HT.out.on hB) (HMx.out.on hB) (sv1 hv))
  have hcat := sc1 (o := o) hv
  have h9 := nd_ne (o := o) hv
  have HN : Hid ((ndT en j o).count 32 = 2) := by
    have h1 := spl_len 32 (ndT en j o)
    rw [spl_nd hv] at h1
    unfold Hid
    simp at h1
    omega
  have HIX := Lib.hid (idx_strk (ndT en j o))
  have HSZ := Lib.hid (bs_size (ndT en j o))
  have hle : (bs (ndT en j o)).size ≤ 19 := by rw [bs_size]; exact ndT_len _ _ _
  have hle2 : (bs (ndT 0 j o)).size ≤ 19 := by rw [bs_size]; exact ndT_len _ _ _
  generalize bs (ndT en j o) = O at *
  generalize bs (ndT 0 j o) = S at *
  obtain ⟨l, hl⟩ : ∃ l, ndT en j o = l := ⟨_, rfl⟩
  rw [hl] at HIX HSZ HN
  obtain ⟨Z, hZ⟩ : ∃ Z, bs (scT [(0, j, o)]) = Z := ⟨_, rfl⟩
  rw [hZ] at HF hcat
  clear hl hv hZ
  go_wp2_with fail
  refine (HI.out _ (HT.out.on HG2.out)).mono ?_
  rintro e w3 ⟨rfl, hg3⟩
  have HX3_0 := Lib.hid (HX2_n.out.sub hg3)
  have HG3 := Lib.hid (HG2.out.trans (hg3.mono HG2.out.size)); clear hg3
  clear HX2_n HG2
  have le3 := HG3.out.size
  obtain ⟨y0a, y0b, y0e, y0c, y0d, y0f⟩ := blk3 HX3_0.out
  have q0 := HX3_0.out.lt
  go_wp2_with fail
  refine (HS.out _).mono ?_
  rintro e w4 ⟨rfl, hg4⟩
  clear y0a y0b y0c y0d y0e y0f q0
  have HX4_0 := Lib.hid (HX3_0.out.sub hg4)
  have HG4 := Lib.hid (HG3.out.trans (hg4.mono HG3.out.size)); clear hg4
  clear HX3_0 HG3
  have le4 := HG4.out.size
  go_wp2_with fail
  go_loop [6, 7] (fun v i => ∃ k : Nat, k ≤ O.size ∧ i = .int .i64 k ∧ v = .int .i64 (cnt 32 l k : Nat)) (fun _ i => O.size - (RowKit.intOf i).toNat)
  case atStart => exact ⟨0, Nat.zero_le _, rfl, rfl⟩
  case round =>
    obtain ⟨k, hk, rfl, rfl⟩ := hrel
    have hcl := cnt_le 32 l k
    by_cases hlt : k < O.size
    · obtain ⟨y, hy⟩ : ∃ y, l[k]? = some y := ⟨l[k]'(by have := HSZ.out; omega), List.getElem?_eq_getElem _⟩
      have hidx := HIX.out k y hy
      have i1 : (k : Int) < (O.size : Int) := by omega
      by_cases hy10 : y = 32
      · subst hy10
        have hc := cnt_hit hy
        have e1 : (((32 : UInt8).toNat : Int) == 32) = true := rfl
        generalize cnt 32 l k = q at *
        generalize (((32 : UInt8).toNat : Nat) : Int) = xi at *
        go_wp2_with fail
        go_round
        case rel => exact ⟨k + 1, by omega, by go_num, by rw [hc]; go_num⟩
        case measure => simp [RowKit.intOf]; omega
      · have hc := cnt_miss hy hy10
        have e1 : ((y.toNat : Int) == 32) = false := u8_ne hy10
        generalize cnt 32 l k = q at *
        generalize ((y.toNat : Nat) : Int) = xi at *
        go_wp2_with fail
        go_round
        case rel => exact ⟨k + 1, by omega, by go_num, by rw [hc]⟩
        case measure => simp [RowKit.intOf]; omega
    · obtain rfl : k = O.size := by omega
      have hq : cnt 32 l O.size = 2 := by rw [HSZ.out, cnt_all]; exact HN.out
      rw [hq]
      clear hq
      obtain ⟨y0a, y0b, y0e, y0c, y0d, y0f⟩ := blk3 HX4_0.out
      have q0 := HX4_0.out.lt
      have HG5 := Lib.hid (HG4.out.alloc HG4.out.size (.cells #[.int .i64 0, .int .i64 j, .bool o] 25))
      have HX5_n := Lib.hid (Blk.new w4 25 #[.int .i64 0, .int .i64 j, .bool o])
      go_wp2_with fail
      refine (HI2.out _ (HT.out.on HG5.out)).mono ?_
      rintro e w6 ⟨rfl, hg6⟩
      have HX6 := Lib.hid (HX5_n.out.sub hg6)
      have HG6 := Lib.hid (HG5.out.trans (hg6.mono HG5.out.size)); clear hg6
      clear y0a y0b y0c y0d y0e y0f q0 HX4_0 HX5_n HG5
      have le6 := HG6.out.size
      go_wp2_with fail
      refine (HF.out _ HG6.out).mono ?_
      rintro e w7 ⟨⟨A7, c7, rfl, hc7, hr7⟩, hb7⟩
      have HX7 := Lib.hid (HX6.out.sub hb7)
      have HG7 := Lib.hid (HG6.out.trans (hb7.mono HG6.out.size)); clear hb7 HX6 HG6
      obtain ⟨b, off, rfl, hb, r1, r2, r3⟩ := hr7.node (show 0 < ([(0, j, o)] : List T3).length by simp)
      change _ = some (Value.int .i64 0) at r1
      change _ = some (Value.int .i64 j) at r2
      change _ = some (Value.bool o) at r3
      rw [Nat.zero_mul, Nat.add_zero] at r1 r2 r3
      obtain ⟨y0a, y0b, y0e, y0c, y0d, y0f⟩ := blk3 HX7.out
      have q0 := HX7.out.lt
      simp only [List.length_singleton] at hc7 ⊢
      go_wp2_with fail
      have k1 := After.cell r1
      have k2 := After.cell r2
      have k3 := After.cell r3
      have k4 := After.cell y0a
      have k5 := After.cell y0b
      have k6 := After.cell y0e
      refine wp_region_after (by kernel_rfl) (by kernel_rfl) ?_
      repeat (go_big_quiet_step (fail))
      refine wpQuiet_nil ?_
      intro w9 hw'
      obtain ⟨⟨w9', hb9⟩, hw''⟩ := hw'
      subst hw''
      have HG9 := Lib.hid (HG7.out.trans (hb9.mono HG7.out.size))
      go_wp2_with fail
      go_ret
      exact ⟨rfl, HG9.out⟩
end Go.Proofs.YtnljibgjfobkbaaDoor
