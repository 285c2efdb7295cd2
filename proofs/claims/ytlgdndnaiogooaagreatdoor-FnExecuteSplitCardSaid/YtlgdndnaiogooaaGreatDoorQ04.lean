/- Parts of the proof of : Tx2. -/
import Derived.Test.YtlgdndnaiogooaaGreatDoorQ03
import Derived.Lib.AppendIntMem
set_option maxHeartbeats 20000000
set_option maxRecDepth 1000000
set_option linter.unusedSimpArgs false
set_option linter.unusedVariables false
namespace Go.Proofs.YtlgdndnaiogooaaGreatDoor
section
open Go.RowKit Go.Sort
attribute [local go_sem ↓] Go.wp_at_zero Go.wp_at_succ
def Tab (w : World) : Prop := Lib.TabBelow Tryz.prog w.heap.size w "internal/strconv.uint64pow10" .u64 Lib.pow10Tab
theorem Tab.on {w w':World} (h:Tab w) (hb:Below w.heap.size w w'):Tab w':=fun W hW=>h W (hb.trans (hW.mono hb.size))
theorem below_grow' (w:World) (k:Nat) (os:Array Obj):Below w.heap.size w (grow (w.drewN k) os) :=
 ⟨rfl,rfl,rfl,by show w.heap.size≤(w.heap++os).size;simp,fun i hi=>by
  show (w.heap++os)[i]?=_
  rw [Array.getElem?_append_left hi]⟩
theorem itoaSmall_any (n:Nat) (h:n<100) (w:World):Calls Tryz.prog 45 #[.int .i64 n] w fun e w'=>e=.returned (.string (bs (Lib.decDigits n)))∧w=w' :=
 (Tryz.strconv_Itoa_small n h w).mono fun _ _ ⟨he,hw⟩=>⟨he,hw.symm⟩
theorem itoa_any (n:Nat) (h:n≤1000000) (w:World) (ht:Tab w):Calls Tryz.prog 45 #[.int .i64 n] w fun e w'=>e=.returned (.string (bs (Lib.decDigits n)))∧Below w.heap.size w w' :=
 (Tryz.strconv_Itoa n (by omega) (by omega) w ht.here).mono fun _ _ ⟨he,k,os,hw⟩=>⟨by rw [he];unfold Lib.itoa;rw [if_neg (by omega),Int.toNat_natCast];rfl,by rw [hw];exact below_grow' w k os⟩
theorem implSpinValid_any (j:Int) (w:World):Calls Tryz.prog 87 #[.int .i64 j] w fun e w'=>e=.returned (.bool (inB j 0 24))∧w=w':=by
 go_enter Tryz.func87,Tryz.ntmps87
 go_wp2
 all_goals
  go_ret
  exact ⟨ret_bool (by simp [inB, *] <;> omega),rfl⟩
theorem specSpinValid_any (j:Int) (w:World):Calls Tryz.prog 88 #[.int .i64 j] w fun e w'=>e=.returned (.bool (inB j 0 24))∧w=w':=by
 go_enter Tryz.func88,Tryz.ntmps88
 go_wp2_with fail
 refine (l6In_any _ _ _ _).mono ?_
 rintro e w1 ⟨rfl,rfl⟩
 go_wp2_with fail
 go_ret
 exact ⟨rfl,rfl⟩
def spT (j:Int):List UInt8:=if inB j 0 24=true then (if j % 2=0 then Lib.decDigits (j / 2).toNat else Lib.decDigits j.toNat++[47,50]) else []
theorem spT_len (j:Int):(spT j).length≤9:=by
 unfold spT
 split
 ·rename_i h
  rw [inB_iff] at h
  split
  ·have:=dig_len7 (n:=(j / 2).toNat) (by omega);omega
  ·have:=dig_len7 (n:=j.toNat) (by omega);simp;omega
 ·simp
theorem implSpinText_any (j:Int) (w:World):Calls Tryz.prog 40 #[.int .i64 j] w fun e w'=>e=.returned (.string (bs (spT j)))∧w=w':=by
 have HV:=Lib.hid (fun W=>implSpinValid_any j W)
 cases hv:inB j 0 24
 ·have he:spT j=[]:=by unfold spT;rw [hv];simp
  rw [he,bs_nil];rw [hv] at HV;clear hv he
  go_enter Tryz.func40,Tryz.ntmps40
  go_wp2_with fail
  refine (HV.out _).mono ?_
  rintro e w1 ⟨rfl,rfl⟩
  go_wp2_with fail
  go_ret
  exact ⟨rfl,rfl⟩
 have hb:=inB_iff.1 hv
 rw [hv] at HV
 obtain ⟨n,rfl⟩:=Int.eq_ofNat_of_zero_le hb.1
 by_cases h2:n % 2=0
 ·have he:spT (n:Int)=Lib.decDigits (n / 2):=by unfold spT;rw [hv,if_pos rfl,if_pos (by omega),show ((n:Int) / 2).toNat=n / 2 by omega]
  rw [he];clear hv he
  have hi:=fun W=>itoaSmall_any (n / 2) (by omega) W
  rw [show (((n / 2:Nat):Int))=(n:Int) / 2 by omega] at hi
  have HI:=Lib.hid hi;clear hi
  have e1:((n:Int) % 2==0)=true:=by simp;omega
  generalize Lib.decDigits (n / 2)=D at *
  go_enter Tryz.func40,Tryz.ntmps40
  go_wp2_with fail
  refine (HV.out _).mono ?_
  rintro e w1 ⟨rfl,rfl⟩
  go_wp2_with fail
  refine (HI.out _).mono ?_
  rintro e w1 ⟨rfl,rfl⟩
  go_wp2_with fail
  go_ret
  exact ⟨rfl,rfl⟩
 ·have he:spT (n:Int)=Lib.decDigits n++[47,50]:=by unfold spT;rw [hv,if_pos rfl,if_neg (by omega),Int.toNat_natCast]
  rw [he,←bs_append];clear hv he
  have HI:=Lib.hid (fun W=>itoaSmall_any n (by omega) W)
  have e1:((n:Int) % 2==0)=false:=by simp;omega
  have hz:(bs (Lib.decDigits n)).size≤7:=by rw [bs_size];exact dig_len7 (by omega)
  generalize bs (Lib.decDigits n)=D at *
  go_enter Tryz.func40,Tryz.ntmps40
  go_wp2_with fail
  refine (HV.out _).mono ?_
  rintro e w1 ⟨rfl,rfl⟩
  go_wp2_with fail
  refine (HI.out _).mono ?_
  rintro e w1 ⟨rfl,rfl⟩
  go_wp2_with fail
  go_ret
  exact ⟨rfl,rfl⟩
end
end Go.Proofs.YtlgdndnaiogooaaGreatDoor
