/- Parts of the proof of : LFrom. -/
import Derived.Test.YtammfhheibaeaaaGreatDoorQ36
import Derived.Test.YtammfhheibaeaaaGreatDoorQ37
import Derived.Test.YtammfhheibaeaaaGreatDoorQ33
set_option maxHeartbeats 20000000
set_option maxRecDepth 1000000
set_option linter.unusedSimpArgs false
set_option linter.unusedVariables false
namespace Go.Proofs.YtammfhheibaeaaaGreatDoor
section
open Go.RowKit Go.Lib
attribute [local go_sem ↓] Go.wp_at_zero Go.wp_at_succ
theorem reads_zero' (w:World) (B size:Nat) (A:Option Addr):Reads w B size A 0 []:=⟨by simp,fun h=>absurd h (by omega)⟩
theorem fnSchemeFrom_walk (A:Option Addr) (n0 c0:Nat) (w:World) (hn:n0≤maxLen) (hc:n0≤c0) (hb:Bytes w w.heap.size A n0) (he:Env w) :
 Calls Tryz.prog 4 #[.slice A n0 c0] w fun e w'=>e=.returned (.bool true)∧Below w.heap.size w w':=by
 unfold maxLen at hn
 have HE:=Lib.hid (fun W (hB:Below w.heap.size w W)=>he.on hB);clear he
 have HB:=Lib.hid hb;clear hb
 have hB0:=Below.refl w.heap.size w
 by_cases hbig:1048576<n0
 ·go_enter Tryz.func4,Tryz.ntmps4
  go_wp2_with fail
  go_ret
  exact ⟨rfl,hB0⟩
 clear hB0
 go_enter Tryz.func4,Tryz.ntmps4
 go_wp2_with fail
 refine (DrawSchemeFrom_any A n0 c0 w (by omega) hc HB.out).mono ?_
 rintro e w1 ⟨l,rfl,hl,hb1⟩
 have HB1:=Lib.hid hb1;clear hb1 HB
 have HLEN:=Lib.hid hl;clear hl
 have HS:=Lib.hid (fun W=>specSchemeFrom_all l W (by have:=HLEN.out;omega))
 have HI:=Lib.hid (fun W (hB:Below w.heap.size w W)=>SchemeFrom_all l W (HE.out W hB) (by have:=HLEN.out;omega))
 by_cases hg:GoodT l
 ·have hv:=good_sv hg
  have hn12:=(svB_iff.1 hv).1.2
  have HV:=Lib.hid hv
  have HG:=Lib.hid hg
  have HTX:=Lib.hid hg.2
  have hpos:0<l.length:=List.length_pos_iff.2 hg.1
  have HI2:=Lib.hid (fun W (hB:Below w.heap.size w W)=>SchemeFrom_all l.dropLast W (HE.out W hB) (by have:=HLEN.out;simp;omega))
  have HI3:=Lib.hid (fun W (hB:Below w.heap.size w W)=>SchemeFrom_all (32 :: l) W (HE.out W hB) (by have:=HLEN.out;simp;omega))
  have HSL:Hid (∀W,(Instr.slice 9 (.string (bs l)) none (some (.int .i64 ((l.length-1:Nat):Int))) none).run Tryz.prog W=.ok (.string (bs l.dropLast)) W):=fun W=>by
   rw [run_slice_string_h (ht:=Tryz.underlying9) (h0:=by omega) (h2:=by rw [bs_size];omega),Int.toNat_natCast,bs_extract,List.drop_zero,Nat.sub_zero,List.dropLast_eq_take]
  have HAP:Hid ((⟨#[32]⟩:ByteArray)++bs l=bs (32 :: l)):=bs_append [32] l
  have hsz:(bs l).size=l.length:=bs_size l
  have HLL:=HLEN.out
  obtain ⟨m,hm⟩:∃m,l.length=m+1:=⟨l.length-1,by omega⟩
  rw [hm] at HSL hsz HLL
  simp only [Nat.add_sub_cancel] at HSL
  obtain ⟨n,hn⟩:∃n,(nlf l).length=n:=⟨_,rfl⟩
  rw [hn] at hn12
  have HNL:=Lib.hid hn
  have HIT:=Lib.hid (fun A c W hr ht=>implSchemeText_any A n c (nlf l) W (by omega) hn hr ht)
  rw [hg.2] at HIT
  clear hn hv hg hm hpos
  obtain ⟨L,hL⟩:∃L,bs l=L:=⟨_,rfl⟩
  rw [hL] at HS HI HSL HAP hsz HIT ⊢
  clear hL
  have HSZ:=Lib.hid hsz;clear hsz
  have heq:(L.toList==L.toList)=true:=by simp
  have u1:IntKind.i64.wrap (((m+1:Nat):Int)-1)=(m:Int):=(IntWalk.i64_in _ (by omega)).trans (by omega)
  go_wp2_with fail
  refine (HI.out _ HB1.out).mono ?_
  rintro e w2 ⟨h2,hb2⟩
  have h2':∃(A:Option Addr) (c:Nat),e=.returned (.tuple #[.slice A n c,.bool true])∧n≤c∧Reads w2 w2.heap.size 3 A n (ncells (nlf l)):=by
   rcases h2 with ⟨_,h⟩ | ⟨h,_⟩
   ·rw [HNL.out] at h;obtain ⟨A,c,x1,x2,x3,_⟩:=h;exact ⟨A,c,x1,x2,x3⟩
   ·exact absurd HG.out h
  obtain ⟨A2,c2,rfl,hc2,hr2⟩:=h2'
  clear h2
  have HB2:=Lib.hid (HB1.out.trans (hb2.mono HB1.out.size));have HR2:=Lib.hid (fun W (hB:Below w2.heap.size w2 W)=>(hr2.below hB).more hB.size)
  clear hr2 hb2
  go_wp2_with fail
  refine (HS.out _).mono ?_
  rintro e w3 ⟨h3,hb3⟩
  have h3':∃(A:Option Addr) (c:Nat),e=.returned (.tuple #[.slice A n c,.bool true])∧n≤c∧Reads w3 w3.heap.size 3 A n (ncells (nlf l)):=by
   rcases h3 with ⟨_,h⟩ | ⟨h,_⟩
   ·rw [HNL.out] at h;exact h
   ·exact absurd HG.out h
  obtain ⟨A3,c3,rfl,hc3,hr3⟩:=h3'
  clear h3
  have HK3:=Lib.hid hb3;have HR3:=Lib.hid hr3
  clear hr3 hb3
  go_wp2_with fail
  refine (sameNodes_any A2 A3 n c2 c3 (nlf l) w3 (by omega) (HR2.out _ HK3.out) HR3.out).mono ?_
  rintro e w4 ⟨rfl,hb4⟩
  have HK4:=Lib.hid (HK3.out.trans (hb4.mono HK3.out.size))
  clear hb4 HK3 HR3
  have hsl:=HSL.out w4
  have hsz:L.size=m+1:=HSZ.out
  clear u1
  have i1:(0:Int)≤(m:Int):=by omega
  have i2:(m:Int)≤1000:=by omega
  go_wp2_with fail
  refine (HI2.out _ (HB2.out.trans (HK4.out.mono HB2.out.size))).mono ?_
  rintro e w5 ⟨h5,hb5⟩
  have h5':e=.returned (.tuple #[.slice none 0 0,.bool false]):=by
   rcases h5 with ⟨h,_⟩ | ⟨_,h⟩
   ·exact absurd h (bad_init HG.out)
   ·exact h
  subst h5'
  clear h5 hsl hsz
  have HK5:=Lib.hid (HK4.out.trans (hb5.mono HK4.out.size));clear hb5 HK4
  have hle:L.size≤1000:=by rw [HSZ.out];omega
  have hap:(⟨#[32]⟩:ByteArray)++L=bs (32 :: l):=HAP.out
  go_wp2_with fail
  refine (HI3.out _ (HB2.out.trans (HK5.out.mono HB2.out.size))).mono ?_
  rintro e w6 ⟨h6,hb6⟩
  have h6':e=.returned (.tuple #[.slice none 0 0,.bool false]):=by
   rcases h6 with ⟨h,_⟩ | ⟨_,h⟩
   ·exact absurd h bad_front
   ·exact h
  subst h6'
  clear h6 hap
  have HK6:=Lib.hid (HK5.out.trans (hb6.mono HK5.out.size));clear hb6 HK5
  go_wp2_with fail
  refine (implSchemeValid_any A2 n c2 (nlf l) w6 (by omega) HNL.out (HR2.out _ HK6.out)).mono ?_
  rintro e w7 ⟨rfl,hb7⟩
  rw [HV.out]
  have HK7:=Lib.hid (HK6.out.trans (hb7.mono HK6.out.size));clear hb7 HK6
  go_wp2_with fail
  refine (HIT.out A2 c2 w7 (HR2.out _ HK7.out) (HE.out _ (HB2.out.trans (HK7.out.mono HB2.out.size))).tab).mono ?_
  rintro e w8 ⟨rfl,hb8⟩
  have HB8:=Lib.hid (HB2.out.trans ((HK7.out.trans (hb8.mono HK7.out.size)).mono HB2.out.size));clear hb8 HK7
  go_wp2_with fail
  go_ret
  exact ⟨rfl,HB8.out⟩
 ·have HG:=Lib.hid hg
  clear hg
  generalize bs l=L at *
  go_wp2_with fail
  refine (HI.out _ HB1.out).mono ?_
  rintro e w2 ⟨h2,hb2⟩
  have h2':e=.returned (.tuple #[.slice none 0 0,.bool false]):=by
   rcases h2 with ⟨h,_⟩ | ⟨_,h⟩
   ·exact absurd h HG.out
   ·exact h
  subst h2'
  clear h2
  have HB2:=Lib.hid (HB1.out.trans (hb2.mono HB1.out.size));clear hb2
  go_wp2_with fail
  refine (HS.out _).mono ?_
  rintro e w3 ⟨h3,hb3⟩
  have h3':∃N,e=.returned (.tuple #[.slice (some ⟨N,0,none⟩) 0 0,.bool false]):=by
   rcases h3 with ⟨h,_⟩ | ⟨_,h⟩
   ·exact absurd h HG.out
   ·exact h
  obtain ⟨N3,rfl⟩:=h3'
  clear h3
  have HB3:=Lib.hid (HB2.out.trans (hb3.mono HB2.out.size));clear hb3 HB2
  go_wp2_with fail
  refine (sameNodes_any none (some ⟨N3,0,none⟩) 0 0 0 [] w3 (by omega) (reads_zero' _ _ _ _) (reads_zero' _ _ _ _)).mono ?_
  rintro e w4 ⟨rfl,hb4⟩
  have HB4:=Lib.hid (HB3.out.trans (hb4.mono HB3.out.size));clear hb4 HB3
  go_wp2_with fail
  refine (sameNodes_any none (some ⟨N3,0,none⟩) 0 0 0 [] w4 (by omega) (reads_zero' _ _ _ _) (reads_zero' _ _ _ _)).mono ?_
  rintro e w5 ⟨rfl,hb5⟩
  have HB5:=Lib.hid (HB4.out.trans (hb5.mono HB4.out.size));clear hb5 HB4
  go_wp2_with fail
  go_ret
  exact ⟨rfl,HB5.out⟩
end
end Go.Proofs.YtammfhheibaeaaaGreatDoor
