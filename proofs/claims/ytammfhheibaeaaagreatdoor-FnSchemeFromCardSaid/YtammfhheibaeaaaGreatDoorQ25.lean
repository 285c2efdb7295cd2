/- Parts of the proof of : No. -/
import Derived.Test.YtammfhheibaeaaaGreatDoorQ24
set_option maxHeartbeats 20000000
set_option maxRecDepth 1000000
set_option linter.unusedSimpArgs false
set_option linter.unusedVariables false
namespace Go.Proofs.YtammfhheibaeaaaGreatDoor
section
open Go.RowKit Go.Lib
attribute [local go_sem ↓] Go.wp_at_zero Go.wp_at_succ
noncomputable def ndf (l:List UInt8):T3:=match spl 32 l with
 | [d,j,s]=>(dgf d,spf j,decide (s=[111]))
 | _=>(-1,0,false)
theorem ndf_nd {e j:Int} {o:Bool} (h:ndB e j=true):ndf (ndT e j o)=(e,j,o):=by
 have hb:=ndB_iff.1 h
 unfold ndf
 rw [spl_nd h]
 obtain ⟨j,rfl⟩:=Int.eq_ofNat_of_zero_le hb.2.1
 have h1:dgf (decDigits e.toNat)=e:=by
  rw [dgf_dec (by have:=dig_len7 (n:=e.toNat) (by omega);omega)]
  omega
 have h2:spf (spT (j:Int))=j:=spf_eq (by omega) rfl
 show (dgf (decDigits e.toNat),spf (spT (j:Int)),_)=_
 rw [h1,h2]
 cases o <;> rfl
theorem results_one3 {P:Program} {fn:Func} {p:Tmp} {ty:TypeId} {a b c:Value} (h:fn.results=#[.cell p ty]) (tmps:Array Value) (w:World) (g:Nat) (t:TypeId) (d:TypeDesc)
 (hp:tmps.getD p undef=.pointer (some ⟨g,0,none⟩)) (hg:Blk w g t #[a,b,c])
 (hu:P.underlying ty=some d) (hd:(match d with | .struct _ | .array _ _=>true | _=>false)=true) (hi:(P.info? ty).map (·.size)=some 3) :
 (results fn tmps).run P w=.ok (.agg #[a,b,c]) w:=by
 have hp':tmps[p]?.getD undef=.pointer (some ⟨g,0,none⟩):=by simpa using hp
 simp [results,h,hp',asAddr,run_loadVar_row w g t ty #[a,b,c] (0,0) d hg hu hd hi]
theorem l41Node_any (l:List UInt8) (w:World) (hlen:l.length≤1048576) :
 Calls Tryz.prog 14 #[.string (bs l)] w fun en w'=>en=.returned (.agg #[.int .i64 (ndf l).1,.int .i64 (ndf l).2.1,.bool (ndf l).2.2])∧Below w.heap.size w w':=by
 have HW:=Lib.hid (fun W=>l11Words_any l W hlen)
 have HPC:=Lib.hid (fun p hp=>Nat.le_trans (spl_piece 32 l p hp) hlen)
 have HND:Hid (∀x,ndf l=x→ndf l=x):=fun _ h=>h
 generalize bs l=L at *
 by_cases h3:(spl 32 l).length=3
 ·obtain ⟨d,j,s,hps⟩:∃d j s,spl 32 l=[d,j,s]:=by
   match spl 32 l,h3 with
   | [d,j,s],_=>exact ⟨d,j,s,rfl⟩
  have hnd:ndf l=(dgf d,spf j,decide (s=[111])):=by unfold ndf;rw [hps]
  rw [hnd]
  clear hnd HND h3
  rw [hps] at HW HPC
  have HDG:=Lib.hid (fun W=>l1Digits_any d W (HPC.out d (by simp)))
  have HSF:=Lib.hid (fun W=>l41Spin_any j W)
  have he:((bs s).toList==[111])=decide (s=[111]):=by
   rw [show (bs s).toList=s from ByteArray.toList_mk _]
   rw [Bool.eq_iff_iff];simp
  have HSC:Hid (scells [d,j,s]=[.string (bs d),.string (bs j),.string (bs s)]):=rfl
  rw [HSC.out] at HW
  clear HPC HSC hps
  generalize bs d=D at *
  generalize bs j=J at *
  generalize bs s=S at *
  generalize decide (s=[111])=o at *
  show Calls _ _ _ _ fun en w'=>en=.returned (.agg #[.int .i64 (dgf d),.int .i64 (spf j),.bool o])∧_
  generalize dgf d=E at *
  generalize spf j=K at *
  go_enter Tryz.func14,Tryz.ntmps14
  go_wp2_with fail
  have HX:=Lib.hid (Blk.new w 34 #[.int .i64 0,.int .i64 0,.bool false])
  have HB1:=Lib.hid ((Below.refl w.heap.size w).alloc (Nat.le_refl _) (.cells #[.int .i64 0,.int .i64 0,.bool false] 34))
  refine (HW.out _).mono ?_
  rintro en w1 ⟨⟨A,c,rfl,hc,hr⟩,hb⟩
  have HX3:=Lib.hid (HX.out.sub hb)
  have HB3:=Lib.hid (HB1.out.trans (hb.mono HB1.out.size));clear hb HX HB1 HW
  simp only [List.length_cons,List.length_nil] at hc hr ⊢
  obtain ⟨b,off,rfl,hbk,hcl⟩:=hr.2 (by omega)
  have c0:w1.cell? ⟨b,off,none⟩=some (.string D):=hcl 0 _ rfl
  have c1:w1.cell? ⟨b,off+1,none⟩=some (.string J):=hcl 1 _ rfl
  have c2:w1.cell? ⟨b,off+2,none⟩=some (.string S):=hcl 2 _ rfl
  clear hr hcl
  go_wp2_with fail
  go_region_with (first
   | (go_at_call 28;refine (HDG.out _).mono ?_;rintro e w2 ⟨rfl,rfl⟩)
   | (go_at_call 29;refine (HSF.out _).mono ?_;rintro e w2 ⟨rfl,hb2⟩;have d0:=(hb2.cell hbk).trans c0;have d1:=(hb2.cell hbk).trans c1;have d2:=(hb2.cell hbk).trans c2;have HX4:=Lib.hid (HX3.out.drew.sub hb2);have x123:=blk3 HX4.out;have x1:=x123.1;have x2:=x123.2.1;have x3:=x123.2.2.1;have f1:=x123.2.2.2.1;have f2:=x123.2.2.2.2.1;have f3:=x123.2.2.2.2.2))
  all_goals
   have HB5:=Lib.hid (HB3.out.drew.trans (hb2.mono HB3.out.size))
   have HZ:=Lib.hid (((HX4.out.set 0 (.int .i64 E)).set 1 (.int .i64 K)).set 2 (.bool o))
   have HBZ:=Lib.hid (((HB5.out.setCell (p:=⟨w.heap.size,0,none⟩) (Nat.le_refl _) (.int .i64 E)).setCell (p:=⟨w.heap.size,1,none⟩) (Nat.le_refl _) (.int .i64 K)).setCell (p:=⟨w.heap.size,2,none⟩) (Nat.le_refl _) (.bool o))
   clear hb2
   go_wp2_with fail
   refine bodyPost_ret (results_one3 rfl _ _ w.heap.size _ _ rfl HZ.out Tryz.underlying34 rfl (by kernel_rfl)) rfl ?_
   exact ⟨rfl,HBZ.out⟩
 ·have hnd:ndf l=(-1,0,false):=by
   unfold ndf
   split
   ·rename_i h;rw [h] at h3;exact absurd rfl h3
   ·rfl
  rw [hnd]
  have h4':(((spl 32 l).length:Int)==3)=false:=by rw [beq_eq_false_iff_ne];omega
  generalize (spl 32 l).length=m at *
  clear HPC HND h3
  go_enter Tryz.func14,Tryz.ntmps14
  go_wp2_with fail
  have HX:=Lib.hid (Blk.new w 34 #[.int .i64 0,.int .i64 0,.bool false])
  have HB1:=Lib.hid ((Below.refl w.heap.size w).alloc (Nat.le_refl _) (.cells #[.int .i64 0,.int .i64 0,.bool false] 34))
  refine (HW.out _).mono ?_
  rintro en w1 ⟨⟨A,c,rfl,hc,hr⟩,hb⟩
  have HX3:=Lib.hid (HX.out.sub hb)
  have HB3:=Lib.hid (HB1.out.trans (hb.mono HB1.out.size));clear hb hr hc HX HB1 HW
  obtain ⟨x1,x2,x3,f1,f2,f3⟩:=blk3 HX3.out
  have HZ:=Lib.hid (((HX3.out.set 0 (.int .i64 (-1))).set 1 (.int .i64 0)).set 2 (.bool false))
  have HBZ:=Lib.hid (((HB3.out.setCell (p:=⟨w.heap.size,0,none⟩) (Nat.le_refl _) (.int .i64 (-1))).setCell (p:=⟨w.heap.size,1,none⟩) (Nat.le_refl _) (.int .i64 0)).setCell (p:=⟨w.heap.size,2,none⟩) (Nat.le_refl _) (.bool false))
  go_wp2_with fail
  refine bodyPost_ret (results_one3 rfl _ _ w.heap.size _ _ rfl HZ.out Tryz.underlying34 rfl (by kernel_rfl)) rfl ?_
  exact ⟨rfl,HBZ.out⟩
end
end Go.Proofs.YtammfhheibaeaaaGreatDoor
