/- The walk of the law FnCountSpins. -/
import Derived.Test.YtjglgcgkmfbdpaaDraw3
namespace Go.Proofs.Ytjglgcgkmfbdpaa
open Go.RowKit
attribute [local go_sem ↓] Go.wp_at_zero Go.wp_at_succ

theorem cntSpin_append (a b : List T2) (s : Int) : cntSpin (a ++ b) s = cntSpin a s + cntSpin b s := by unfold cntSpin; rw [List.countP_append]; omega

set_option maxHeartbeats 600000 in
theorem fnCountSpins_walk (A0 : Option Addr) (n0 c0 : Nat) (A1 : Option Addr) (n1 c1 : Nat) (w : World) (m0 : n0 ≤ maxLen) (d0 : n0 ≤ c0) (b0 : Bytes w w.heap.size A0 n0) (m1 : n1 ≤ maxLen) (d1 : n1 ≤ c1) (b1 : Bytes w w.heap.size A1 n1) :
    Calls Try.prog 4 #[.slice A0 n0 c0, .slice A1 n1 c1] w fun e w' => e = .returned (.bool true) ∧ Below w.heap.size w w' := by
  unfold maxLen at m0 m1
  have HB := Lib.hid b0; clear b0 b1
  have hB0 := Below.refl w.heap.size w
  by_cases h0 : 1048576 < n0
  · go_enter Try.func4, Try.ntmps4
    go_wp2_with fail
    go_ret
    exact ⟨rfl, hB0⟩
  by_cases h1 : 1048576 < n1
  · go_enter Try.func4, Try.ntmps4
    go_wp2_with fail
    go_ret
    exact ⟨rfl, hB0⟩
  clear hB0
  go_enter Try.func4, Try.ntmps4
  go_wp2_with fail
  refine (DrawCountSpins_any A0 n0 c0 w (by omega) d0 HB.out).mono ?_
  rintro e w1 ⟨A, c, n, ts, s, rfl, ⟨hnc, hts, hn5, hdr, hrd⟩, hs0, hs1, hb1⟩
  have HR1 := Lib.hid hrd
  have HB1 := Lib.hid hb1
  have HT := Lib.hid hts
  clear hb1 hrd hts hdr
  go_wp2_with fail
  refine (implCountSpins_any A c n ts s w1 HT.out (by omega) HR1.out).mono ?_
  rintro e w2 ⟨rfl, hb2⟩
  have HR2 := Lib.hid ((HR1.out.below hb2).more hb2.size)
  have HB2 := Lib.hid (HB1.out.trans (hb2.mono HB1.out.size))
  clear hb2 HR1 HB1
  have k1 : n1 % (n + 1) ≤ n := by have := Nat.mod_lt n1 (show 0 < n + 1 by omega); omega
  have ek : ((n1 : Int) % ((n : Int) + 1)) = ((n1 % (n + 1) : Nat) : Int) := by push_cast; rfl
  have EK := Lib.hid ek; clear ek
  have HS := cntSpin_append (ts.take (n1 % (n + 1))) (ts.drop (n1 % (n + 1))) s
  rw [List.take_append_drop] at HS
  generalize n1 % (n + 1) = k at *
  have l1 := cntSpin_le (ts.take k) s
  have l2 := cntSpin_le (ts.drop k) s
  have t1 : (ts.take k).length = k := by rw [List.length_take, HT.out]; omega
  have t2 : (ts.drop k).length = n - k := by rw [List.length_drop, HT.out]
  rw [t1] at l1
  rw [t2] at l2
  have HC1 : Hid (∀ W : World, Reads W W.heap.size 2 A k (tcells (ts.take k)) → Calls Try.prog 15 #[.slice A k c, .int .i64 s] W fun e w' => e = .returned (.int .i64 (cntSpin (ts.take k) s)) ∧ Below W.heap.size W w') := fun W h => implCountSpins_any A c k _ s W t1 (by omega) h
  have HC2 : Hid (∀ (W : World) A' c', Reads W W.heap.size 2 A' (n - k) (tcells (ts.drop k)) → Calls Try.prog 15 #[.slice A' (n - k) c', .int .i64 s] W fun e w' => e = .returned (.int .i64 (cntSpin (ts.drop k) s)) ∧ Below W.heap.size W w') := fun W A' c' h => implCountSpins_any A' c' (n - k) _ s W t2 (by omega) h
  have HRa := Lib.hid (show Reads w2.drew w2.heap.size 2 A k (tcells (ts.take k)) by rw [tcells_take]; exact (HR2.out.take k1).drew)
  have HRb := Lib.hid (show Reads w2.drew w2.heap.size 2 (if c = k then A else A.map (·.add (k * 2))) (n - k) (tcells (ts.drop k)) by rw [tcells_drop]; exact (HR2.out.cut k1 hnc).drew)
  rw [HS]
  have HCS := Lib.hid (specCountSpins_any A c n ts s w2 HT.out (by omega) HR2.out)
  rw [HS] at HCS
  generalize cntSpin (ts.take k) s = q1 at *
  generalize cntSpin (ts.drop k) s = q2 at *
  clear HS t1 t2 HT HR2
  go_wp2_with fail
  refine HCS.out.mono ?_
  rintro e w3 ⟨rfl, rfl⟩
  go_wp2_with fail
  rw [EK.out]
  have j1 : (0 : Int) ≤ (k : Int) := by omega
  have j2 : (k : Int) ≤ (n : Int) := by omega
  have j3 : (k : Int) ≤ (c : Int) := by omega
  have j4 : q1 + q2 ≤ (n : Int) := by omega
  have j5 : 0 ≤ q1 + q2 := by omega
  have j6 : IntKind.i64.wrap (q1 + q2) = q1 + q2 := IntWalk.i64_in _ (by omega)
  clear l1 l2
  by_cases hck : c = k
  · subst hck
    obtain rfl : n = c := by omega
    rw [Nat.sub_self] at HC2 HRb
    simp only [if_true] at HRb
    go_region_held3 (fun _ => True) (trivial) (first
      | (go_at_call_of 15 (Value.slice A n n); refine (HC1.out _ HRa.out).mono ?_; rintro e w4 ⟨rfl, hbb⟩)
      | (go_at_call_of 15 (Value.slice A 0 0); refine (HC2.out _ _ _ ((HRb.out.below hbb).more hbb.size)).mono ?_; rintro e w5 ⟨rfl, hbc⟩))
    clear j6
    have HZ := Lib.hid ((HB2.out.drew.trans (hbb.mono HB2.out.size)).trans (hbc.mono (Nat.le_trans HB2.out.size hbb.size)))
    clear hbb hbc
    go_wp2_with fail
    go_ret
    exact ⟨rfl, HZ.out⟩
  · simp only [if_neg hck] at HRb
    go_region_held3 (fun _ => True) (trivial) (first
      | (go_at_call_of 15 (Value.slice A k c); refine (HC1.out _ HRa.out).mono ?_; rintro e w4 ⟨rfl, hbb⟩)
      | (go_at_call 15; refine (HC2.out _ _ _ ((HRb.out.below hbb).more hbb.size)).mono ?_; rintro e w5 ⟨rfl, hbc⟩))
    clear j6
    have HZ := Lib.hid ((HB2.out.drew.trans (hbb.mono HB2.out.size)).trans (hbc.mono (Nat.le_trans HB2.out.size hbb.size)))
    clear hbb hbc
    go_wp2_with fail
    go_ret
    exact ⟨rfl, HZ.out⟩
end Go.Proofs.Ytjglgcgkmfbdpaa
