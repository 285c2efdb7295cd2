/- A line that is a command: its answer. -/
import Derived.Test.YtgmhdgfokljggaaGreatDoorEx1
import Derived.Defers
import Derived.Recover
import Derived.Laws.Pointers
import Derived.Deep.RegionHeld3
namespace Go.Proofs.YtgmhdgfokljggaaGreatDoor
open Go.RowKit Go.Lib

theorem catch_idle (p : Addr) (w : World) :
    CallsD Tryz.prog 104 #[.pointer (some p)] .returning w fun e u' w' => e = .returned (.tuple #[]) ∧ u' = .returning ∧ w' = w := by
  refine callsD_of_wpS Tryz.func104 rfl fun c₀ cs hu => ?_
  apply wpS_seq
  apply wpS_region
  simp [wpOpsS, go_sem, recoverD, hu, Tryz.ntmps104, Exit.thenS]
  apply wpS_seq
  apply wpS_region
  simp [wpOpsS, go_sem, Act.eval, Array.replicate, Exit.thenS]
  refine wpS_cond (t := false) (by simp [Act.eval]) ?_
  simp only [Bool.false_eq_true, if_false]
  refine wpS_of_wp (wp_skip ?_)
  cases c₀
  simp_all [bodyPostS, results, Tryz.results104]

theorem sz_ad (w : World) (o : Obj) : ((w.alloc o).drew).heap.size = w.heap.size + 1 := by show (w.alloc o).heap.size = _; simp
theorem tail_slice (b n : Nat) (hn : 0 < n) (hn1 : n ≤ 1000) (w : World) : (Instr.slice 78 (.slice (some ⟨b, 0, none⟩) n n) (some (.int .i64 1)) none none).run Tryz.prog w = .ok (.slice (some ⟨b, if n = 1 then 0 else 1, none⟩) (n - 1) (n - 1)) w := by
  have hs : (sizeOf (Tryz.prog.elem 78)).run Tryz.prog w = .ok 1 w := by kernel_rfl
  rw [run_slice_l w 78 _ n n (show Tryz.prog.underlying 78 = some (.slice (Tryz.prog.elem 78)) by kernel_rfl) .i64 1 (by omega) (by omega), hs]
  simp only [Result.andThen_ok, sliced, Option.map_some, Nat.mul_one]
  show Result.ok (Value.slice (if n = 1 then some ⟨b, 0, none⟩ else some ((⟨b, 0, none⟩ : Addr).add 1)) (n - 1) (n - 1)) w = _
  split <;> simp [Addr.add]
/-- The words of a line, in a block of their own. -/
def wcs (ls : List (List UInt8)) : Array Value := (ls.map fun x => Value.string (bs x)).toArray
def noT : ByteArray := ⟨#[110, 111]⟩
set_option maxHeartbeats 2000000 in
set_option maxRecDepth 100000 in
theorem answer_any (b n : Nat) (ls : List (List UInt8)) (l0 : List UInt8) (f : Nat) (O : ByteArray) (d : Bool) (w : World) (hn : ls.length = n) (h0 : ls[0]? = some l0) (hl : l0.length ≤ 1000) (hn1 : n ≤ 1000) (hb : Blk w b 9 (wcs ls)) (hf : cmdOf l0 = some f) (hen : ∀ (args : Array Value) (W : World), (callFunc f args).run Tryz.prog W = .ok (.enter f args) W)
    (HF : ∀ W, Below w.heap.size w W → Calls Tryz.prog f #[.agg #[.slice (some ⟨b, if n = 1 then 0 else 1, none⟩) (n - 1) (n - 1)]] W fun e w' => e = .returned (.tuple #[.string O, .bool d]) ∧ Below W.heap.size W w') :
    Calls Tryz.prog 49 #[.slice (some ⟨b, 0, none⟩) n n] w fun e w' => e = .returned (.string (if d then O else noT)) ∧ Below w.heap.size w w' := by
  have hmf : ∀ (fn : Fn) (first cap : Array Value) (w : World), (Instr.makeFunc fn first cap).run Tryz.prog w = .ok (.func fn first cap) w := fun _ _ _ _ => rfl
  have hpos : 0 < n := by
    rcases Nat.eq_zero_or_pos n with h | h
    · subst h
      rw [List.length_eq_zero_iff.1 hn] at h0
      cases h0
    · exact h
  have hal : Below w.heap.size w (w.alloc (.cells #[.string ⟨#[]⟩] 9)) := (Below.refl _ _).alloc (Nat.le_refl _) _
  have HAL := Lib.hid hal
  have HOUT := Lib.hid (Blk.new w 9 #[.string ⟨#[]⟩])
  have hbA := hb.sub hal
  have hc0 : (w.alloc (.cells #[.string ⟨#[]⟩] 9)).drew.cell? ⟨b, 0, none⟩ = some (.string (bs l0)) := by
    rw [(hbA.drew).cell 0]
    simp [wcs, h0]
  have HBA := Lib.hid hbA; clear hbA hal
  have HC0 := Lib.hid hc0
  have HB := Lib.hid hb; have HFF := Lib.hid HF; have H0 := Lib.hid h0; have HN := Lib.hid hn
  have HLK := Lib.hid (fun (W : World) (B : Nat) (h : Req W B) => req_look h l0 (by omega))
  have HLV : Hid (lookV l0 = .tuple #[.func (.func f) #[] #[], .bool true]) := by unfold Hid lookV; rw [hf]
  rw [HLV.out] at HLK
  clear hb HF h0 hn hf
  obtain ⟨L0, hL0⟩ : ∃ L0, bs l0 = L0 := ⟨_, rfl⟩
  rw [hL0] at hc0 HLK HC0
  clear hL0
  go_enter_defers Tryz.func49, Tryz.ntmps49
  go_wp2_with fail
  go_region_held3 (fun w' => w'.cell? ⟨b, 0, none⟩ = some (.string L0)) (first | exact hc0 | assumption) ((go_at_call 105; refine (requests_any _).mono ?_; rintro e w2 ⟨rfl, hreq, hb2⟩; rw [sz_ad] at hreq; have hlk := HLK.out _ _ hreq; have hc2 := (hb2.cell (World.block_lt_of_cell? _ _ HC0.out)).trans HC0.out))
  have HREQ := Lib.hid hreq
  have HB2 : Hid (Below w.heap.size w w2) := Lib.hid (HAL.out.trans ((show Below (w.alloc (.cells #[.string ⟨#[]⟩] 9)).heap.size (w.alloc (.cells #[.string ⟨#[]⟩] 9)) w2 from ⟨hb2.os, hb2.tape, hb2.output, hb2.size, hb2.block⟩).mono (by simp)))
  have HO2 := Lib.hid ((HOUT.out.drew).sub hb2)
  clear hreq hb2 hlk hc2 hc0
  have hsl := tail_slice b n hpos hn1
  have HCALL := Lib.hid (HFF.out w2 HB2.out)
  obtain ⟨ad, had⟩ : ∃ ad : Addr, (⟨b, if n = 1 then 0 else 1, none⟩ : Addr) = ad := ⟨_, rfl⟩
  rw [had] at HCALL hsl
  clear had
  have hen' := hen #[.agg #[.slice (some ad) (n - 1) (n - 1)]] w2
  have HEN := Lib.hid hen; clear hen
  go_wp2_with fail
  refine HCALL.out.mono ?_
  rintro e w3 ⟨rfl, hb3⟩
  have HB3 := Lib.hid (HB2.out.trans (hb3.mono HB2.out.size))
  have HO3 := Lib.hid (HO2.out.sub hb3)
  clear hb3 hen'
  obtain ⟨y1, y2⟩ := blk1 HO3.out
  cases d
  · have HZ := Lib.hid (HB3.out.setCell (p := ⟨w.heap.size, 0, none⟩) (Nat.le_refl _) (.string ⟨#[110, 111]⟩))
    have z1 : (w3.setCell ⟨w.heap.size, 0, none⟩ (.string ⟨#[110, 111]⟩)).cell? ⟨w.heap.size, 0, none⟩ = some (.string ⟨#[110, 111]⟩) := (HO3.out.set 0 _).cell 0
    go_wp2_with fail
    refine leaves_cons (f := 104) (args := #[.pointer (some ⟨w.heap.size, 0, none⟩)]) (by simp) (by simp [go_sem]) ?_
    refine (catch_idle ⟨w.heap.size, 0, none⟩ _).mono ?_
    rintro e u' w4 ⟨rfl, rfl, rfl⟩
    simp [Leaves, settle, results, Tryz.results49, go_sem, z1]
    exact ⟨rfl, HZ.out⟩
  · have HZ := Lib.hid (HB3.out.setCell (p := ⟨w.heap.size, 0, none⟩) (Nat.le_refl _) (.string O))
    have z1 : (w3.setCell ⟨w.heap.size, 0, none⟩ (.string O)).cell? ⟨w.heap.size, 0, none⟩ = some (.string O) := (HO3.out.set 0 _).cell 0
    go_wp2_with fail
    refine leaves_cons (f := 104) (args := #[.pointer (some ⟨w.heap.size, 0, none⟩)]) (by simp) (by simp [go_sem]) ?_
    refine (catch_idle ⟨w.heap.size, 0, none⟩ _).mono ?_
    rintro e u' w4 ⟨rfl, rfl, rfl⟩
    simp [Leaves, settle, results, Tryz.results49, go_sem, z1]
    exact HZ.out
end Go.Proofs.YtgmhdgfokljggaaGreatDoor
