/- Parts of the proof of : Tx2. -/
import Derived.Test.YtammfhheibaeaaaGreatDoorQ03
import Derived.Lib.AppendIntMem
set_option maxHeartbeats 20000000
set_option maxRecDepth 1000000
set_option linter.unusedSimpArgs false
set_option linter.unusedVariables false
namespace Go.Proofs.YtammfhheibaeaaaGreatDoor
section
open Go.RowKit Go.Sort
attribute [local go_sem ↓] Go.wp_at_zero Go.wp_at_succ
def Tab (w : World) : Prop := Lib.TabBelow Tryz.prog w.heap.size w "internal/strconv.uint64pow10" .u64 Lib.pow10Tab
theorem Tab.on {w w':World} (h:Tab w) (hb:Below w.heap.size w w'):Tab w':=fun W hW=>h W (hb.trans (hW.mono hb.size))
theorem below_grow' (w:World) (k:Nat) (os:Array Obj):Below w.heap.size w (grow (w.drewN k) os) :=
 ⟨rfl,rfl,rfl,by show w.heap.size≤(w.heap++os).size;simp,fun i hi=>by
  show (w.heap++os)[i]?=_
  rw [Array.getElem?_append_left hi]⟩
theorem itoaSmall_any (n:Nat) (h:n<100) (w:World):Calls Tryz.prog 40 #[.int .i64 n] w fun e w'=>e=.returned (.string (bs (Lib.decDigits n)))∧w=w' :=
 (Tryz.strconv_Itoa_small n h w).mono fun _ _ ⟨he,hw⟩=>⟨he,hw.symm⟩
theorem itoa_any (n:Nat) (h:n≤1000000) (w:World) (ht:Tab w):Calls Tryz.prog 40 #[.int .i64 n] w fun e w'=>e=.returned (.string (bs (Lib.decDigits n)))∧Below w.heap.size w w' :=
 (Tryz.strconv_Itoa n (by omega) (by omega) w ht.here).mono fun _ _ ⟨he,k,os,hw⟩=>⟨by rw [he];unfold Lib.itoa;rw [if_neg (by omega),Int.toNat_natCast];rfl,by rw [hw];exact below_grow' w k os⟩
theorem implSpinValid_any (j:Int) (w:World):Calls Tryz.prog 38 #[.int .i64 j] w fun e w'=>e=.returned (.bool (inB j 0 24))∧w=w':=by
 go_enter Tryz.func38,Tryz.ntmps38
 go_wp2
 all_goals
  go_ret
  exact ⟨ret_bool (by simp [inB, *] <;> omega),rfl⟩
theorem specSpinValid_any (j:Int) (w:World):Calls Tryz.prog 44 #[.int .i64 j] w fun e w'=>e=.returned (.bool (inB j 0 24))∧w=w':=by
 go_enter Tryz.func44,Tryz.ntmps44
 go_wp2_with fail
 refine (l6In_any _ _ _ _).mono ?_
 rintro e w1 ⟨rfl,rfl⟩
 go_wp2_with fail
 go_ret
 exact ⟨rfl,rfl⟩
def spT (j:Int):List UInt8:=if inB j 0 24=true then (if j % 2=0 then Lib.decDigits (j / 2).toNat else Lib.decDigits j.toNat++[47,50]) else []
theorem spT_len (j:Int):(spT j).length≤9:=by
 unfold spT
 split
 ·rename_i h
  rw [inB_iff] at h
  split
  ·have:=dig_len7 (n:=(j / 2).toNat) (by omega);omega
  ·have:=dig_len7 (n:=j.toNat) (by omega);simp;omega
 ·simp
theorem implSpinText_any (j:Int) (w:World):Calls Tryz.prog 41 #[.int .i64 j] w fun e w'=>e=.returned (.string (bs (spT j)))∧w=w':=by
 have HV:=Lib.hid (fun W=>implSpinValid_any j W)
 cases hv:inB j 0 24
 ·have he:spT j=[]:=by unfold spT;rw [hv];simp
  rw [he,bs_nil];rw [hv] at HV;clear hv he
  go_enter Tryz.func41,Tryz.ntmps41
  go_wp2_with fail
  refine (HV.out _).mono ?_
  rintro e w1 ⟨rfl,rfl⟩
  go_wp2_with fail
  go_ret
  exact ⟨rfl,rfl⟩
 have hb:=inB_iff.1 hv
 rw [hv] at HV
 obtain ⟨n,rfl⟩:=Int.eq_ofNat_of_zero_le hb.1
 by_cases h2:n % 2=0
 ·have he:spT (n:Int)=Lib.decDigits (n / 2):=by unfold spT;rw [hv,if_pos rfl,if_pos (by omega),show ((n:Int) / 2).toNat=n / 2 by omega]
  rw [he];clear hv he
  have hi:=fun W=>itoaSmall_any (n / 2) (by omega) W
  rw [show (((n / 2:Nat):Int))=(n:Int) / 2 by omega] at hi
  have HI:=Lib.hid hi;clear hi
  have e1:((n:Int) % 2==0)=true:=by simp;omega
  generalize Lib.decDigits (n / 2)=D at *
  go_enter Tryz.func41,Tryz.ntmps41
  go_wp2_with fail
  refine (HV.out _).mono ?_
  rintro e w1 ⟨rfl,rfl⟩
  go_wp2_with fail
  refine (HI.out _).mono ?_
  rintro e w1 ⟨rfl,rfl⟩
  go_wp2_with fail
  go_ret
  exact ⟨rfl,rfl⟩
 ·have he:spT (n:Int)=Lib.decDigits n++[47,50]:=by unfold spT;rw [hv,if_pos rfl,if_neg (by omega),Int.toNat_natCast]
  rw [he,←bs_append];clear hv he
  have HI:=Lib.hid (fun W=>itoaSmall_any n (by omega) W)
  have e1:((n:Int) % 2==0)=false:=by simp;omega
  have hz:(bs (Lib.decDigits n)).size≤7:=by rw [bs_size];exact dig_len7 (by omega)
  generalize bs (Lib.decDigits n)=D at *
  go_enter Tryz.func41,Tryz.ntmps41
  go_wp2_with fail
  refine (HV.out _).mono ?_
  rintro e w1 ⟨rfl,rfl⟩
  go_wp2_with fail
  refine (HI.out _).mono ?_
  rintro e w1 ⟨rfl,rfl⟩
  go_wp2_with fail
  go_ret
  exact ⟨rfl,rfl⟩
theorem specSpinText_any (j:Int) (w:World):Calls Tryz.prog 43 #[.int .i64 j] w fun e w'=>e=.returned (.string (bs (spT j)))∧Below w.heap.size w w':=by
 have HV:=Lib.hid (fun W=>specSpinValid_any j W)
 cases hv:inB j 0 24
 ·have he:spT j=[]:=by unfold spT;rw [hv];simp
  rw [he,bs_nil];rw [hv] at HV;clear hv he
  go_enter Tryz.func43,Tryz.ntmps43
  go_wp2_with fail
  refine (HV.out _).mono ?_
  rintro e w1 ⟨rfl,rfl⟩
  go_wp2_with fail
  go_ret
  exact ⟨rfl,Below.refl _ _⟩
 have hb:=inB_iff.1 hv
 rw [hv] at HV
 obtain ⟨n,rfl⟩:=Int.eq_ofNat_of_zero_le hb.1
 by_cases h2:n % 2=0
 ·have he:spT (n:Int)=Lib.decDigits (n / 2):=by unfold spT;rw [hv,if_pos rfl,if_pos (by omega),show ((n:Int) / 2).toNat=n / 2 by omega]
  rw [he];clear hv he
  have hi:=fun W=>l6Dec_any (n / 2) (by omega) W
  rw [show (((n / 2:Nat):Int))=(n:Int) / 2 by omega] at hi
  have HI:=Lib.hid hi;clear hi
  have e1:((n:Int) % 2==0)=true:=by simp;omega
  generalize Lib.decDigits (n / 2)=D at *
  go_enter Tryz.func43,Tryz.ntmps43
  go_wp2_with fail
  refine (HV.out _).mono ?_
  rintro e w1 ⟨rfl,rfl⟩
  go_wp2_with fail
  refine (HI.out _).mono ?_
  rintro e w1 ⟨rfl,hb1⟩
  have HB:=Lib.hid hb1;clear hb1
  go_wp2_with fail
  go_ret
  exact ⟨rfl,HB.out⟩
 ·have he:spT (n:Int)=Lib.decDigits n++[47,50]:=by unfold spT;rw [hv,if_pos rfl,if_neg (by omega),Int.toNat_natCast]
  rw [he,←bs_append];clear hv he
  have HI:=Lib.hid (fun W=>l6Dec_any n (by omega) W)
  have e1:((n:Int) % 2==0)=false:=by simp;omega
  have hz:(bs (Lib.decDigits n)).size≤7:=by rw [bs_size];exact dig_len7 (by omega)
  generalize bs (Lib.decDigits n)=D at *
  go_enter Tryz.func43,Tryz.ntmps43
  go_wp2_with fail
  refine (HV.out _).mono ?_
  rintro e w1 ⟨rfl,rfl⟩
  go_wp2_with fail
  refine (HI.out _).mono ?_
  rintro e w1 ⟨rfl,hb1⟩
  have HB:=Lib.hid hb1;clear hb1
  go_wp2_with fail
  go_ret
  exact ⟨rfl,HB.out⟩
def ndB (e j:Int):Bool:=inB e 0 200000 && inB j 0 24
def ndT (e j:Int) (odd:Bool):List UInt8:=if ndB e j=true then Lib.decDigits e.toNat++[32]++spT j++[32]++[if odd then 111 else 101] else []
theorem nodeValid_any (e j:Int) (odd:Bool) (w:World):Calls Tryz.prog 23 #[.agg #[.int .i64 e,.int .i64 j,.bool odd]] w fun en w'=>en=.returned (.bool (ndB e j))∧Below w.heap.size w w':=by
 have HB1:=Lib.hid (fun o=>(Below.refl w.heap.size w).alloc (Nat.le_refl _) o)
 have HV:=Lib.hid (fun W=>implSpinValid_any j W)
 by_cases h1:0≤e
 ·by_cases h2:e≤200000
  ·have he:ndB e j=inB j 0 24:=by unfold ndB;rw [inB_iff.2 ⟨h1,h2⟩,Bool.true_and]
   rw [he];clear he
   generalize inB j 0 24=r at *
   go_enter Tryz.func23,Tryz.ntmps23
   go_wp2_with fail
   refine (HV.out _).mono ?_
   rintro en w1 ⟨rfl,rfl⟩
   go_wp2_with fail
   go_ret
   exact ⟨rfl,HB1.out _⟩
  ·have he:ndB e j=false:=by unfold ndB;rw [inB_not.2 (.inr (by omega)),Bool.false_and]
   rw [he];clear he
   have d2:decide (e≤200000)=false:=decide_eq_false h2
   go_enter Tryz.func23,Tryz.ntmps23
   go_wp2_with fail
   go_ret
   exact ⟨rfl,HB1.out _⟩
 ·have he:ndB e j=false:=by unfold ndB;rw [inB_not.2 (.inl (by omega)),Bool.false_and]
  rw [he];clear he
  have d1:decide (0≤e)=false:=decide_eq_false h1
  go_enter Tryz.func23,Tryz.ntmps23
  go_wp2_with fail
  go_ret
  exact ⟨rfl,HB1.out _⟩
theorem ndT_yes {e j:Int} {odd:Bool} (h:ndB e j=true):bs (ndT e j odd)=bs (Lib.decDigits e.toNat)++⟨#[32]⟩++bs (spT j)++⟨#[32]⟩++bs [if odd then 111 else 101]:=by
 unfold ndT;rw [if_pos h,←bs_append,←bs_append,←bs_append,←bs_append];rfl
theorem implNodeText_any (e j:Int) (odd:Bool) (w:World) (ht:Tab w) :
 Calls Tryz.prog 25 #[.agg #[.int .i64 e,.int .i64 j,.bool odd]] w fun en w'=>en=.returned (.string (bs (ndT e j odd)))∧Below w.heap.size w w':=by
 have HT:=Lib.hid ht;clear ht
 have HB0:=Lib.hid ((Below.refl w.heap.size w).alloc (Nat.le_refl _) (.cells #[.int .i64 e,.int .i64 j,.bool odd] 34))
 have HX0:=Lib.hid (Blk.new w 34 #[.int .i64 e,.int .i64 j,.bool odd])
 have HV:=Lib.hid (fun W=>nodeValid_any e j odd W)
 cases hv:ndB e j
 ·have he:ndT e j odd=[]:=by unfold ndT;rw [hv];simp
  rw [he,bs_nil];rw [hv] at HV;clear hv he
  go_enter Tryz.func25,Tryz.ntmps25
  go_wp2_with fail
  refine (HV.out _).mono ?_
  rintro en w1 ⟨rfl,hb1⟩
  have HB:=Lib.hid (HB0.out.trans (hb1.mono HB0.out.size));clear hb1
  go_wp2_with fail
  go_ret
  exact ⟨rfl,HB.out⟩
 rw [ndT_yes hv]
 rw [hv] at HV
 have hb:=hv
 unfold ndB at hb
 rw [Bool.and_eq_true,inB_iff,inB_iff] at hb
 obtain ⟨n,rfl⟩:=Int.eq_ofNat_of_zero_le hb.1.1
 rw [Int.toNat_natCast]
 have HI:=Lib.hid (fun W ht=>itoa_any n (by omega) W ht)
 have HS:=Lib.hid (fun W=>implSpinText_any j W)
 have hz1:(bs (Lib.decDigits n)).size≤7:=by rw [bs_size];exact dig_len7 (by omega)
 have hz2:(bs (spT j)).size≤9:=by rw [bs_size];exact spT_len j
 clear hv
 generalize bs (Lib.decDigits n)=D at *
 generalize bs (spT j)=S at *
 go_enter Tryz.func25,Tryz.ntmps25
 go_wp2_with fail
 refine (HV.out _).mono ?_
 rintro en w1 ⟨rfl,hb1⟩
 have HB:=Lib.hid (HB0.out.trans (hb1.mono HB0.out.size))
 have HX:=Lib.hid (HX0.out.sub hb1);clear hb1 HX0 HB0
 obtain ⟨x1,x2,x3,_,_,_⟩:=blk3 HX.out
 have k1:=After.cell x1
 have k2:=After.cell x2
 have HTA:=Lib.hid (fun p:After w1=>HT.out.on (HB.out.trans (p.below.mono HB.out.size)))
 cases odd
 all_goals
  go_wp2_with fail
  refine wp_region_after (by kernel_rfl) (by kernel_rfl) ?_
  repeat (go_big_quiet_step (first | (go_at_call 40;exact after_call _ (HI.out _ (HTA.out _))) | (go_at_call 41;exact after_same _ (HS.out _))))
  refine wpQuiet_nil ?_
  intro w9 hw'
  obtain ⟨⟨w9',hb9⟩,hw''⟩:=hw'
  subst hw''
  have HB9:=Lib.hid (HB.out.trans (hb9.mono HB.out.size));clear hb9
  go_wp2_with fail
  go_ret
  exact ⟨rfl,HB9.out⟩
theorem specNodeText_any (e j:Int) (odd:Bool) (w:World) :
 Calls Tryz.prog 31 #[.agg #[.int .i64 e,.int .i64 j,.bool odd]] w fun en w'=>en=.returned (.string (bs (ndT e j odd)))∧Below w.heap.size w w':=by
 have HB0:=Lib.hid ((Below.refl w.heap.size w).alloc (Nat.le_refl _) (.cells #[.int .i64 e,.int .i64 j,.bool odd] 34))
 have HX0:=Lib.hid (Blk.new w 34 #[.int .i64 e,.int .i64 j,.bool odd])
 have HV:=Lib.hid (fun W=>specSpinValid_any j W)
 cases hv1:inB e 0 200000
 ·have he:ndT e j odd=[]:=by unfold ndT ndB;rw [hv1];simp
  rw [he,bs_nil];clear he
  have H1:=Lib.hid hv1;clear hv1
  go_enter Tryz.func31,Tryz.ntmps31
  go_wp2_with fail
  refine (l6In_any _ _ _ _).mono ?_
  rintro en w1 ⟨rfl,rfl⟩
  rw [H1.out]
  go_wp2_with fail
  go_ret
  exact ⟨rfl,HB0.out⟩
 cases hv2:inB j 0 24
 ·have he:ndT e j odd=[]:=by unfold ndT ndB;rw [hv2];simp
  rw [he,bs_nil];clear he
  rw [hv2] at HV
  have H1:=Lib.hid hv1;clear hv1 hv2
  go_enter Tryz.func31,Tryz.ntmps31
  go_wp2_with fail
  refine (l6In_any _ _ _ _).mono ?_
  rintro en w1 ⟨rfl,rfl⟩
  rw [H1.out]
  go_wp2_with fail
  refine (HV.out _).mono ?_
  rintro en w1 ⟨rfl,rfl⟩
  go_wp2_with fail
  go_ret
  exact ⟨rfl,HB0.out⟩
 rw [ndT_yes (by unfold ndB;rw [hv1,hv2];rfl)]
 rw [hv2] at HV
 have hb:=inB_iff.1 hv1
 have H1:=Lib.hid hv1
 clear hv1 hv2
 obtain ⟨n,rfl⟩:=Int.eq_ofNat_of_zero_le hb.1
 rw [Int.toNat_natCast]
 have HI:=Lib.hid (fun W=>l6Dec_any n (by omega) W)
 have HS:=Lib.hid (fun W=>specSpinText_any j W)
 have hz1:(bs (Lib.decDigits n)).size≤7:=by rw [bs_size];exact dig_len7 (by omega)
 have hz2:(bs (spT j)).size≤9:=by rw [bs_size];exact spT_len j
 have ho:∀s:ByteArray,s++⟨#[32]⟩++⟨#[111]⟩=s++⟨#[32,111]⟩:=fun s=>by rw [ByteArray.append_assoc];rfl
 have he:∀s:ByteArray,s++⟨#[32]⟩++⟨#[101]⟩=s++⟨#[32,101]⟩:=fun s=>by rw [ByteArray.append_assoc];rfl
 have HO:=Lib.hid ho;have HE:=Lib.hid he;clear ho he
 generalize bs (Lib.decDigits n)=D at *
 generalize bs (spT j)=S at *
 obtain ⟨x1,x2,x3,_,_,_⟩:=blk3 HX0.out
 have k1:=After.cell x1
 have k2:=After.cell x2
 cases odd
 all_goals
  go_enter Tryz.func31,Tryz.ntmps31
  go_wp2_with fail
  refine (l6In_any _ _ _ _).mono ?_
  rintro en w1 ⟨rfl,rfl⟩
  rw [H1.out]
  go_wp2_with fail
  refine (HV.out _).mono ?_
  rintro en w1 ⟨rfl,rfl⟩
  go_wp2_with fail
  refine wp_region_after (by kernel_rfl) (by kernel_rfl) ?_
  repeat (go_big_quiet_step (first | (go_at_call 45;exact after_call _ (HI.out _)) | (go_at_call 43;exact after_call _ (HS.out _))))
  refine wpQuiet_nil ?_
  intro w9 hw'
  obtain ⟨⟨w9',hb9⟩,hw''⟩:=hw'
  subst hw''
  have HB9:=Lib.hid (HB0.out.trans (hb9.mono HB0.out.size));clear hb9
  go_wp2_with fail
  go_ret
  refine ⟨ret_str ?_,HB9.out⟩
  first | exact (HO.out _).symm | exact (HE.out _).symm
end
end Go.Proofs.YtammfhheibaeaaaGreatDoor
