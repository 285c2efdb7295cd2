/- Parts of the proof of : Grb. -/
import Derived.Test.YtlgdndnaiogooaaGreatDoorQ38
import Derived.Test.YtlgdndnaiogooaaGreatDoorQ13
import Derived.Test.YtlgdndnaiogooaaGreatDoorQ30
set_option maxHeartbeats 20000000
set_option maxRecDepth 1000000
set_option linter.unusedSimpArgs false
set_option linter.unusedVariables false
namespace Go.Proofs.YtlgdndnaiogooaaGreatDoor
section
section
open Go.RowKit
attribute [local go_sem ↓] Go.wp_at_zero Go.wp_at_succ
def evB (l n:Int):Bool:=inB l 0 2 && (decide (0≤n) && decide (n≤4*l+2))
theorem evB_iff {l n:Int}:evB l n=true↔(0≤l∧l≤2)∧0≤n∧n≤4*l+2:=by simp [evB,inB_iff]
theorem implElectronsValid_any (l n:Int) (w:World) :
 Calls Tryz.prog 138 #[.int .i64 l,.int .i64 n] w fun e w'=>e=.returned (.bool (evB l n))∧w=w':=by
 by_cases h0:0≤l
 ·by_cases h1:l≤2
  ·by_cases h2:0≤n
   ·have hcap:capB l=4*l+2:=by unfold capB;rw [if_pos (by omega)]
    have hsc:=ShellCapacity_any l w
    rw [hcap] at hsc
    have HSC:=Lib.hid hsc
    clear hcap hsc
    go_enter Tryz.func138,Tryz.ntmps138
    go_wp2_with (go_at_call 94;refine HSC.out.mono ?_;rintro e w' ⟨rfl,rfl⟩)
    go_ret
    exact ⟨ret_bool (by simp only [evB,inB,decide_eq_true h0,decide_eq_true h1,decide_eq_true h2,Bool.true_and]),rfl⟩
   ·have h3:decide (0≤n)=false:=by simpa using h2
    go_enter Tryz.func138,Tryz.ntmps138
    go_wp2_with fail
    go_ret
    exact ⟨ret_bool (by simp [evB] <;> (intros;omega)),rfl⟩
  ·have h3:decide (l≤2)=false:=by simpa using h1
   go_enter Tryz.func138,Tryz.ntmps138
   go_wp2_with fail
   go_ret
   exact ⟨ret_bool (by simp [evB,inB] <;> (intros;omega)),rfl⟩
 ·have h3:decide (0≤l)=false:=by simpa using h0
  go_enter Tryz.func138,Tryz.ntmps138
  go_wp2_with fail
  go_ret
  exact ⟨ret_bool (by simp [evB,inB] <;> (intros;omega)),rfl⟩
def hundT (l:Nat):Nat→T2
 | 0=>(0,0)
 | k+1=>(if k≤2*l then (hundT l k).1+1 else (hundT l k).1-1,(hundT l k).2+((l:Int)-((k % (2*l+1):Nat):Int)))
theorem hundT_bd (l k:Nat) (hl:l≤2):-(k:Int)≤(hundT l k).1∧(hundT l k).1≤k∧-(2*k:Int)≤(hundT l k).2∧(hundT l k).2≤2*k:=by
 induction k with
 | zero=>simp [hundT]
 | succ k ih =>
  have h:=Nat.mod_lt k (show 0<2*l+1 by omega)
  simp only [hundT]
  generalize k % (2*l+1)=r at *
  split <;> omega
def HundPost (w:World) (l n:Nat) (e:Ending) (w':World):Prop :=
 e=.returned (.tuple #[.agg #[.int .i64 (hundT l n).1,.int .i64 (hundT l n).2],.bool true])∧Below w.heap.size w w'
theorem results_cell2_tmp {P:Program} {fn:Func} {p t1:Tmp} {ty:TypeId} {a b:Value} (h:fn.results=#[.cell p ty,.tmp t1]) (tmps:Array Value) (w:World) (g:Nat) (t:TypeId) (d:TypeDesc)
 (hp:tmps.getD p undef=.pointer (some ⟨g,0,none⟩)) (hg:Blk w g t #[a,b])
 (hu:P.underlying ty=some d) (hd:(match d with | .struct _ | .array _ _=>true | _=>false)=true) (hi:(P.info? ty).map (·.size)=some 2) :
 (results fn tmps).run P w=.ok (.tuple #[.agg #[a,b],tmps.getD t1 undef]) w:=by
 have hp':tmps[p]?.getD undef=.pointer (some ⟨g,0,none⟩):=by simpa using hp
 simp [results,h,hp',asAddr,run_loadVar_row w g t ty #[a,b] (0,0) d hg hu hd hi]
theorem implHundTerm_any (l n:Nat) (w:World) (hl:l≤2) (hn:n≤4*l+2) :
 Calls Tryz.prog 102 #[.int .i64 l,.int .i64 n] w (HundPost w l n):=by
 have HEV:=Lib.hid (fun W=>implElectronsValid_any l n W)
 have hev:evB l n=true:=evB_iff.2 (by omega)
 rw [hev] at HEV
 clear hev
 have HD1:=Lib.hid ((Blk.new w 24 #[.int .i64 0,.int .i64 0]).alloc (.cells #[.int .i64 0,.int .i64 0] 24))
 have HD2:=Lib.hid (Blk.new (w.alloc (.cells #[.int .i64 0,.int .i64 0] 24)) 24 #[.int .i64 0,.int .i64 0])
 rw [World.size_alloc] at HD2
 have HB:=Lib.hid (((Below.refl w.heap.size w).alloc (Nat.le_refl _) (.cells #[.int .i64 0,.int .i64 0] 24)).alloc (by simp) (.cells #[.int .i64 0,.int .i64 0] 24))
 go_enter Tryz.func102,Tryz.ntmps102
 go_wp2_with fail
 refine (HEV.out _).mono ?_
 rintro e w1 ⟨rfl,rfl⟩
 go_wp2_with fail
 go_loopw [14] (fun i wr=>∃(k:Nat),k≤n∧i=.int .i64 k∧Blk wr w.heap.size 24 #[.int .i64 0,.int .i64 0]∧Blk wr (w.heap.size+1) 24 #[.int .i64 (hundT l k).1,.int .i64 (hundT l k).2]∧Below w.heap.size w wr) (fun i _=>n-(intOf i).toNat)
 case atStart=>exact ⟨0,Nat.zero_le _,rfl,HD1.out,HD2.out,HB.out⟩
 case round =>
  clear HD1 HD2 HB
  obtain ⟨k,hk,rfl,hd1,hd2,hb⟩:=hrel
  have HB:=Lib.hid hb;clear hb
  have HD1:=Lib.hid hd1;clear hd1
  have HD2:=Lib.hid hd2;clear hd2
  have hbd:=hundT_bd l k hl
  have q1:¬w.heap.size=w.heap.size+1:=by omega
  by_cases hlt:k<n
  ·have hs:=show (hundT l (k+1)).2=(hundT l k).2+((l:Int)-((k % (2*l+1):Nat):Int)) from rfl
   have HS2:=Lib.hid hs;clear hs
   obtain ⟨x1,x2,x3,x4⟩:=blk2 HD2.out
   by_cases hc:k≤2*l
   ·have HS1:=Lib.hid (show (hundT l (k+1)).1=(hundT l k).1+1 by simp [hundT,hc])
    have HW:=Lib.hid (show Blk (wr.setCell ⟨w.heap.size+1,0,none⟩ (.int .i64 ((hundT l k).1+1))) (w.heap.size+1) 24 #[.int .i64 ((hundT l k).1+1),.int .i64 (hundT l k).2] from HD2.out.set 0 _)
    have HW1:=Lib.hid (show Blk (wr.setCell ⟨w.heap.size+1,0,none⟩ (.int .i64 ((hundT l k).1+1))) w.heap.size 24 #[.int .i64 0,.int .i64 0] from HD1.out.far (by simp) _)
    have HBW:=Lib.hid (HB.out.setCell (p:=⟨w.heap.size+1,0,none⟩) (by simp) (.int .i64 ((hundT l k).1+1)))
    generalize (hundT l k).1=s at *
    generalize (hundT l k).2=o at *
    have dc:decide ((k:Int)≤2*(l:Int))=true:=by simp;omega
    go_wp2_with fail
    clear x1 x2 x3 x4
    generalize wr.setCell ⟨w.heap.size+1,0,none⟩ (.int .i64 (s+1))=W at *
    obtain ⟨x1,x2,x3,x4⟩:=blk2 HW.out
    have u1:IntKind.i64.wrap (2*(l:Int))=2*(l:Int):=IntWalk.i64_in _ (by omega)
    have u2:IntKind.i64.wrap (2*(l:Int)+1)=2*(l:Int)+1:=IntWalk.i64_in _ (by omega)
    have hr:=Nat.mod_lt k (show 0<2*l+1 by omega)
    have hre:(k:Int).tmod (2*(l:Int)+1)=((k % (2*l+1):Nat):Int):=by rw [show (2*(l:Int)+1)=((2*l+1:Nat):Int) by omega];rfl
    have u7:¬(2*(l:Int)+1=0):=by omega
    have r0:0≤(k:Int) % (2*(l:Int)+1):=Int.emod_nonneg _ (by omega)
    have r1:(k:Int) % (2*(l:Int)+1)<2*(l:Int)+1:=Int.emod_lt_of_pos _ (by omega)
    have hre2:(k:Int) % (2*(l:Int)+1)=((k % (2*l+1):Nat):Int):=by rw [show (2*(l:Int)+1)=((2*l+1:Nat):Int) by omega];rfl
    have HRE:=Lib.hid hre2
    rw [←hre2] at HS2
    clear hre2
    have e1:wrap64 ((l:Int)-(k:Int) % (2*(l:Int)+1))=(l:Int)-(k:Int) % (2*(l:Int)+1):=(IntWalk.i64_left _).symm.trans (IntWalk.i64_in _ (by omega))
    have e2:wrap64 (o+((l:Int)-(k:Int) % (2*(l:Int)+1)))=o+((l:Int)-(k:Int) % (2*(l:Int)+1)):=(IntWalk.i64_left _).symm.trans (IntWalk.i64_in _ (by omega))
    have E:=Lib.hid (And.intro e1 e2)
    clear e1 e2
    go_region
    try simp only [E.out.1,E.out.2]
    clear r0 r1 hre HRE E u1 u2 hr
    generalize (k:Int) % (2*(l:Int)+1)=rr at *
    go_wp2_with fail
    go_roundw
    case rel =>
     refine ⟨k+1,by omega,by go_num,(HW1.out.far (by simp) _),?_,((HBW.out.setCell (p:=⟨w.heap.size+1,1,none⟩) (by simp) _).drew)⟩
     have:=HW.out.set 1 (.int .i64 (o+((l:Int)-rr)))
     rw [HS1.out,HS2.out]
     exact this
    case measure=>simp [intOf];omega
   ·have HS1:=Lib.hid (show (hundT l (k+1)).1=(hundT l k).1-1 by simp [hundT,hc])
    have HW:=Lib.hid (show Blk (wr.setCell ⟨w.heap.size+1,0,none⟩ (.int .i64 ((hundT l k).1-1))) (w.heap.size+1) 24 #[.int .i64 ((hundT l k).1-1),.int .i64 (hundT l k).2] from HD2.out.set 0 _)
    have HW1:=Lib.hid (show Blk (wr.setCell ⟨w.heap.size+1,0,none⟩ (.int .i64 ((hundT l k).1-1))) w.heap.size 24 #[.int .i64 0,.int .i64 0] from HD1.out.far (by simp) _)
    have HBW:=Lib.hid (HB.out.setCell (p:=⟨w.heap.size+1,0,none⟩) (by simp) (.int .i64 ((hundT l k).1-1)))
    generalize (hundT l k).1=s at *
    generalize (hundT l k).2=o at *
    have dc:decide ((k:Int)≤2*(l:Int))=false:=by simp;omega
    go_wp2_with fail
    clear x1 x2 x3 x4
    generalize wr.setCell ⟨w.heap.size+1,0,none⟩ (.int .i64 (s-1))=W at *
    obtain ⟨x1,x2,x3,x4⟩:=blk2 HW.out
    have u1:IntKind.i64.wrap (2*(l:Int))=2*(l:Int):=IntWalk.i64_in _ (by omega)
    have u2:IntKind.i64.wrap (2*(l:Int)+1)=2*(l:Int)+1:=IntWalk.i64_in _ (by omega)
    have hr:=Nat.mod_lt k (show 0<2*l+1 by omega)
    have hre:(k:Int).tmod (2*(l:Int)+1)=((k % (2*l+1):Nat):Int):=by rw [show (2*(l:Int)+1)=((2*l+1:Nat):Int) by omega];rfl
    have u7:¬(2*(l:Int)+1=0):=by omega
    have r0:0≤(k:Int) % (2*(l:Int)+1):=Int.emod_nonneg _ (by omega)
    have r1:(k:Int) % (2*(l:Int)+1)<2*(l:Int)+1:=Int.emod_lt_of_pos _ (by omega)
    have hre2:(k:Int) % (2*(l:Int)+1)=((k % (2*l+1):Nat):Int):=by rw [show (2*(l:Int)+1)=((2*l+1:Nat):Int) by omega];rfl
    have HRE:=Lib.hid hre2
    rw [←hre2] at HS2
    clear hre2
    have e1:wrap64 ((l:Int)-(k:Int) % (2*(l:Int)+1))=(l:Int)-(k:Int) % (2*(l:Int)+1):=(IntWalk.i64_left _).symm.trans (IntWalk.i64_in _ (by omega))
    have e2:wrap64 (o+((l:Int)-(k:Int) % (2*(l:Int)+1)))=o+((l:Int)-(k:Int) % (2*(l:Int)+1)):=(IntWalk.i64_left _).symm.trans (IntWalk.i64_in _ (by omega))
    have E:=Lib.hid (And.intro e1 e2)
    clear e1 e2
    go_region
    try simp only [E.out.1,E.out.2]
    clear r0 r1 hre HRE E u1 u2 hr
    generalize (k:Int) % (2*(l:Int)+1)=rr at *
    go_wp2_with fail
    go_roundw
    case rel =>
     refine ⟨k+1,by omega,by go_num,(HW1.out.far (by simp) _),?_,((HBW.out.setCell (p:=⟨w.heap.size+1,1,none⟩) (by simp) _).drew)⟩
     have:=HW.out.set 1 (.int .i64 (o+((l:Int)-rr)))
     rw [HS1.out,HS2.out]
     exact this
    case measure=>simp [intOf];omega
  ·have hkn:k=n:=by omega
   subst hkn
   obtain ⟨x1,x2,x3,x4⟩:=blk2 HD2.out
   obtain ⟨y1,y2,y3,y4⟩:=blk2 HD1.out
   have HZ:=Lib.hid ((HD1.out.set 0 (.int .i64 (hundT l k).1)).set 1 (.int .i64 (hundT l k).2))
   have HB2:=Lib.hid ((HB.out.setCell (p:=⟨w.heap.size,0,none⟩) (Nat.le_refl _) (.int .i64 (hundT l k).1)).setCell (p:=⟨w.heap.size,1,none⟩) (Nat.le_refl _) (.int .i64 (hundT l k).2))
   go_wp2_with fail
   refine bodyPost_ret (results_cell2_tmp rfl _ _ w.heap.size _ _ rfl HZ.out Tryz.underlying24 rfl (by kernel_rfl)) rfl ?_
   exact ⟨rfl,HB2.out⟩
theorem implHundTerm_no (l n:Int) (w:World) (h:evB l n=false) :
 Calls Tryz.prog 102 #[.int .i64 l,.int .i64 n] w fun e w'=>e=.returned (.tuple #[.agg #[.int .i64 0,.int .i64 0],.bool false])∧Below w.heap.size w w':=by
 have HEV:=Lib.hid (fun W=>implElectronsValid_any l n W)
 rw [h] at HEV
 clear h
 have HX:=Lib.hid (Blk.new w 24 #[.int .i64 0,.int .i64 0])
 have HB:=Lib.hid (bel_alloc (Below.refl w.heap.size w) (.cells #[.int .i64 0,.int .i64 0] 24))
 go_enter Tryz.func102,Tryz.ntmps102
 go_wp2_with fail
 refine (HEV.out _).mono ?_
 rintro e w1 ⟨rfl,rfl⟩
 obtain ⟨x1,x2,f1,f2⟩:=blk2 HX.out
 go_wp2_with fail
 refine bodyPost_ret (results_cell2_tmp rfl _ _ w.heap.size _ _ rfl HX.out Tryz.underlying24 rfl (by kernel_rfl)) rfl ?_
 exact ⟨rfl,HB.out⟩
theorem hundT_valid:∀l:Fin 3,∀n:Fin 11,n.val≤4*l.val+2→tvB (hundT l.val n.val)=true:=by decide +kernel
def hdLv (l n:Int):(T2 × Int) × Bool :=
 if evB l n=true then ((hundT l.toNat n.toNat,(lvJs (hundT l.toNat n.toNat)).getD (if n≤2*l+1 then 0 else (lvJs (hundT l.toNat n.toNat)).length-1) 0),true) else (((0,0),0),false)
theorem HundLevel_any (l n:Int) (w:World) :
 Calls Tryz.prog 56 #[.int .i64 l,.int .i64 n] w fun e w'=>e=.returned (lvV (hdLv l n))∧Below w.heap.size w w':=by
 have HX0:=Lib.hid (Blk.new w 31 #[.int .i64 0,.int .i64 0,.int .i64 0])
 have HB0:=Lib.hid (bel_alloc (Below.refl w.heap.size w) (.cells #[.int .i64 0,.int .i64 0,.int .i64 0] 31))
 cases hv:evB l n
 ·have he:hdLv l n=(((0,0),0),false):=by unfold hdLv;rw [hv];rfl
  rw [he]
  have HT:=Lib.hid (fun W=>implHundTerm_no l n W hv)
  clear he hv
  unfold lvV
  go_enter Tryz.func56,Tryz.ntmps56
  go_wp2_with fail
  refine (HT.out _).mono ?_
  rintro e w1 ⟨rfl,hb1⟩
  have HX1:=Lib.hid (HX0.out.sub hb1)
  have HB1:=Lib.hid (bel_sub HB0.out hb1)
  have hs1:=HX1.out.lt
  clear hb1
  obtain ⟨x1,x2,x3,f1,f2,f3⟩:=blk3 HX1.out
  have HBZ:=Lib.hid (bel_alloc (bel_set (g:=w.heap.size) (i:=2) (u:=.int .i64 0) (bel_set2 (g:=w.heap.size) (x:=.int .i64 0) (y:=.int .i64 0) HB1.out (Nat.le_refl _)) (Nat.le_refl _)) (.cells #[.int .i64 0,.int .i64 0] 24))
  have HZ:=Lib.hid ((((HX1.out.set 0 (.int .i64 0)).set 1 (.int .i64 0)).set 2 (.int .i64 0)).alloc (.cells #[.int .i64 0,.int .i64 0] 24))
  go_wp2_with fail
  refine bodyPost_ret (results_ct3 rfl _ _ w.heap.size _ _ rfl HZ.out Tryz.underlying31 rfl (by kernel_rfl)) rfl ?_
  exact ⟨rfl,HBZ.out⟩
 have he:hdLv l n=((hundT l.toNat n.toNat,(lvJs (hundT l.toNat n.toNat)).getD (if n≤2*l+1 then 0 else (lvJs (hundT l.toNat n.toNat)).length-1) 0),true):=by unfold hdLv;rw [if_pos hv]
 rw [he]
 have hb:=evB_iff.1 hv
 obtain ⟨p,rfl⟩:∃p:Nat,l=p:=⟨l.toNat,by omega⟩
 obtain ⟨q,rfl⟩:∃q:Nat,n=q:=⟨n.toNat,by omega⟩
 simp only [Int.toNat_natCast]
 have HT:=Lib.hid (fun W=>implHundTerm_any p q W (by omega) (by omega))
 have htv:tvB (hundT p q)=true:=hundT_valid ⟨p,by omega⟩ ⟨q,by omega⟩ (by show q≤4*p+2;omega)
 have hlen:=lv_len htv
 have HLO:=Lib.hid (fun W=>implLevelsOf_any (hundT p q) W)
 unfold HundPost at HT
 unfold LevelsPost at HLO
 obtain ⟨m,hm⟩:∃m,(lvJs (hundT p q)).length=m:=⟨_,rfl⟩
 rw [hm] at HLO hlen ⊢
 obtain ⟨js,hjs⟩:∃js,lvJs (hundT p q)=js:=⟨_,rfl⟩
 rw [hjs] at HLO hm ⊢
 have HM:=Lib.hid hm
 clear he hv htv hjs hm
 obtain ⟨⟨a,b⟩,ht⟩:∃t,hundT p q=t:=⟨_,rfl⟩
 rw [ht] at HT HLO ⊢
 clear ht
 unfold lvV
 simp only at HT HLO ⊢
 have u1:IntKind.i64.wrap (2*(p:Int))=2*(p:Int):=IntWalk.i64_in _ (by omega)
 have u2:IntKind.i64.wrap (2*(p:Int)+1)=2*(p:Int)+1:=IntWalk.i64_in _ (by omega)
 have u3:IntKind.i64.wrap ((m:Int)-1)=(m:Int)-1:=IntWalk.i64_in _ (by omega)
 go_enter Tryz.func56,Tryz.ntmps56
 go_wp2_with fail
 refine (HT.out _).mono ?_
 rintro e w1 ⟨rfl,hb1⟩
 have HX1:=Lib.hid ((HX0.out.sub hb1).alloc (.cells #[.int .i64 a,.int .i64 b] 24))
 have HB1:=Lib.hid (bel_alloc (bel_sub HB0.out hb1) (.cells #[.int .i64 a,.int .i64 b] 24))
 have hs1:=(HX0.out.sub hb1).lt
 clear hb1 HX0 HB0
 go_wp2_with fail
 refine (HLO.out _).mono ?_
 rintro e w2 ⟨⟨A,c,rfl,hr2⟩,hb2⟩
 have HX2:=Lib.hid (HX1.out.sub hb2)
 have HB2:=Lib.hid (bel_sub HB1.out hb2)
 have HR2:=Lib.hid (own_reads hr2)
 clear hb2 hr2 HX1 HB1
 obtain ⟨x1,x2,x3,f1,f2,f3⟩:=blk3 HX2.out
 have hlt:=HX2.out.lt
 by_cases hc:q≤2*p+1
 ·have hi:(if (q:Int)≤2*(p:Int)+1 then 0 else m-1)=0:=if_pos (by omega)
  have dc:decide ((q:Int)≤2*(p:Int)+1)=true:=decide_eq_true (by omega)
  obtain ⟨b',off,j,rfl,hb',r1,r2,r3,hg⟩:=HR2.out.lev HM.out (show 0<m by omega)
  simp only [Nat.zero_mul,Nat.add_zero] at r1 r2 r3
  have HG:=Lib.hid hg
  clear hi hg
  have HBZ:=Lib.hid (bel_set (g:=w.heap.size) (i:=2) (u:=.int .i64 j) (bel_set2 (g:=w.heap.size) (x:=.int .i64 a) (y:=.int .i64 b) HB2.out (Nat.le_refl _)) (Nat.le_refl _))
  have HZ:=Lib.hid (((HX2.out.set 0 (.int .i64 a)).set 1 (.int .i64 b)).set 2 (.int .i64 j))
  go_wp2_with fail
  refine bodyPost_ret (results_ct3 rfl _ _ w.heap.size _ _ rfl HZ.out Tryz.underlying31 rfl (by kernel_rfl)) rfl ?_
  exact ⟨by rw [HG.out];rfl,HBZ.out⟩
 ·have hi:(if (q:Int)≤2*(p:Int)+1 then 0 else m-1)=m-1:=if_neg (by omega)
  have dc:decide ((q:Int)≤2*(p:Int)+1)=false:=decide_eq_false (by omega)
  obtain ⟨b',off,j,rfl,hb',r1,r2,r3,hg⟩:=HR2.out.lev HM.out (show m-1<m by omega)
  have HG:=Lib.hid hg
  clear hi hg
  have hmm:((m:Int)-1)=((m-1:Nat):Int):=by omega
  have i0:(0:Int)≤((m-1:Nat):Int):=by omega
  have i1:((m-1:Nat):Int)<(m:Int):=by omega
  rw [hmm] at u3
  have HBZ:=Lib.hid (bel_set (g:=w.heap.size) (i:=2) (u:=.int .i64 j) (bel_set2 (g:=w.heap.size) (x:=.int .i64 a) (y:=.int .i64 b) HB2.out (Nat.le_refl _)) (Nat.le_refl _))
  have HZ:=Lib.hid (((HX2.out.set 0 (.int .i64 a)).set 1 (.int .i64 b)).set 2 (.int .i64 j))
  go_wp2_with fail
  refine bodyPost_ret (results_ct3 rfl _ _ w.heap.size _ _ rfl HZ.out Tryz.underlying31 rfl (by kernel_rfl)) rfl ?_
  exact ⟨by rw [HG.out];rfl,HBZ.out⟩
def opS (cs:List S3):List S3:=if cvB cs=true then cs.filter (fun s=>decide (s.2.2<capB s.2.1)) else []
def OpSPost (cs:List S3) (w:World) (e:Ending) (w':World):Prop:=(∃A c,e=.returned (.slice A (opS cs).length c)∧w'.ownsRow w.heap.size 87 3 (.slice A (opS cs).length c) (opS cs).length (scellsS (opS cs)))∧Below w.heap.size w w'
theorem ConfigOpen_any (A0:Option Addr) (n c0:Nat) (cs:List S3) (w:World) (hn:n≤1000) (hl:cs.length=n) (hr:Reads w w.heap.size 3 A0 n (scellsS cs)) :
 Calls Tryz.prog 55 #[.slice A0 n c0] w (OpSPost cs w):=by
 have HV:=Lib.hid (ConfigValid_any A0 n c0 cs w (by omega) hl hr)
 have HL:=Lib.hid hl;have HR:=Lib.hid hr
 clear hl hr
 unfold OpSPost
 cases hv:cvB cs
 ·have he:opS cs=[]:=by unfold opS;rw [hv];rfl
  rw [he];rw [hv] at HV;clear hv he
  go_enter Tryz.func55,Tryz.ntmps55
  go_wp2_with fail
  refine HV.out.mono ?_
  rintro e w1 ⟨rfl,hb1⟩
  have HB:=Lib.hid hb1;clear hb1
  go_wp2_with fail
  go_ret
  exact ⟨⟨none,0,rfl,World.ownsRow_nil _ _ _ _⟩,HB.out⟩
 have he:opS cs=cs.filter (fun s=>decide (s.2.2<capB s.2.1)):=by unfold opS;rw [hv];rfl
 rw [he];rw [hv] at HV;clear hv he
 go_enter Tryz.func55,Tryz.ntmps55
 go_wp2_with fail
 refine HV.out.mono ?_
 rintro e w1 ⟨rfl,hb1⟩
 have HB0:=Lib.hid hb1;clear hb1 HV
 go_wp2_with fail
 go_loopw [3,5,11] (fun v _ i wr=>∃(k:Nat) (A:Option Addr) (c:Nat) (os:List S3),k≤n∧i=.int .i64 k∧Hid (os=(cs.take k).filter (fun s=>decide (s.2.2<capB s.2.1)))∧v=.slice A os.length c∧Hid (wr.ownsRow w.heap.size 87 3 (.slice A os.length c) os.length (scellsS os))∧Hid (Below w.heap.size w wr)) (fun _ _ i _=>n-(RowKit.intOf i).toNat)
 case atStart=>exact ⟨0,none,0,[],Nat.zero_le _,rfl,rfl,rfl,World.ownsRow_nil _ _ _ _,HB0.out⟩
 case round =>
  clear HB0
  obtain ⟨k,A,c,os,hk,rfl,HOS,rfl,HO,HB⟩:=hrel
  by_cases hlt:k<n
  ·obtain ⟨b,off,rfl,hb,hc⟩:=(HR.out.below HB.out).shl hlt
   obtain ⟨r1,r2,r3⟩:=hc k hlt
   have hkl:k<cs.length:=by rw [HL.out];exact hlt
   have hjk:cs[k]=gS cs k:=by simp [gS,hkl]
   have HT:Hid (cs.take (k+1)=cs.take k++[gS cs k]):=by unfold Hid;rw [←hjk,List.take_succ_eq_append_getElem hkl]
   clear hc hjk hkl
   obtain ⟨⟨x1,x2,x3⟩,hx⟩:∃x,gS cs k=x:=⟨_,rfl⟩
   rw [hx] at HT r1 r2 r3
   simp only at r1 r2 r3
   clear hx
   have hol:os.length≤n:=by
    have h1:=List.length_filter_le (fun s:S3=>decide (s.2.2<capB s.2.1)) (cs.take k)
    rw [HOS.out]
    rw [List.length_take] at h1
    omega
   have hsw:=HB.out.size
   have HSC:=Lib.hid (fun W=>ShellCapacity_any x2 W)
   have HB1:=Lib.hid (bel_alloc HB.out (.cells #[.int .i64 x1,.int .i64 x2,.int .i64 x3] 87))
   have HO1:=Lib.hid (HO.out.alloc (.cells #[.int .i64 x1,.int .i64 x2,.int .i64 x3] 87))
   have HX1:=Lib.hid (Blk.new wr 87 #[.int .i64 x1,.int .i64 x2,.int .i64 x3])
   obtain ⟨y1,y2,y3⟩:=Level3 HX1.out
   have k2:=After.cell y2;have k3:=After.cell y3
   obtain ⟨len,hln⟩:∃len,os.length=len:=⟨_,rfl⟩
   have HLN:=Lib.hid hln
   rw [hln] at HO1 hol HO ⊢
   clear hln
   go_wp2_with fail
   refine wp_region_after (by kernel_rfl) (by kernel_rfl) ?_
   repeat (go_big_quiet_step ((go_at_call 94;exact after_same _ (HSC.out _))))
   refine wpQuiet_nil ?_
   intro w9 hw'
   obtain ⟨⟨w9',hb9⟩,hw''⟩:=hw'
   subst hw''
   have HB9:=Lib.hid (bel_sub HB1.out hb9)
   have HX9:=Lib.hid (HX1.out.sub hb9)
   have HO9:=Lib.hid (own_below HO1.out hb9)
   have hs9:=HB9.out.size
   obtain ⟨z1,z2,z3⟩:=Level3 HX9.out
   clear hb9 r1 r2 r3 y1 y2 y3 k2 k3 HB HO HB1 HO1 HX1 HSC
   by_cases hop:x3<capB x2
   ·have HS2:Hid (os++[(x1,x2,x3)]=(cs.take (k+1)).filter (fun s=>decide (s.2.2<capB s.2.1))):=by unfold Hid;rw [HT.out,List.filter_append,←HOS.out];simp [hop]
    have HLA:Hid ((os++[(x1,x2,x3)]).length=len+1):=by unfold Hid;rw [List.length_append,HLN.out];rfl
    go_wp2_with (at_builtin;refine wpList_app1b _ rfl (.tmp 21) (.tmp 23) _ rfl w.heap.size 87 3 24 elShell A c len (scellsS os) rfl (HO9.out.alloc _) w9.heap.size #[.int .i64 x1,.int .i64 x2,.int .i64 x3] rfl (Blk.new w9 _ _) rfl ?h1 (by omega) (by omega) (by simp;omega) ?_)
    case h1=>simp [Value.oneCell']
    intro A8 c8 w8 hown8 hc8 hb8
    have HW8:=Lib.hid hown8
    have HB8:Hid (Below w.heap.size w w8):=(bel_alloc HB9.out _).trans hb8
    clear hown8 hb8 z1 z2 z3
    go_wp2_with fail
    go_roundw
    case rel=>exact ⟨k+1,A8,c8,os++[(x1,x2,x3)],by omega,by go_num,HS2.out,by rw [HLA.out],by rw [HLA.out,scellsS_snoc];exact HW8.out,HB8.out⟩
    case measure=>simp [RowKit.intOf];omega
   ·have HS2:Hid (os=(cs.take (k+1)).filter (fun s=>decide (s.2.2<capB s.2.1))):=by unfold Hid;rw [HT.out,List.filter_append,←HOS.out];simp [hop]
    go_wp2_with fail
    go_roundw
    case rel=>exact ⟨k+1,A,c,os,by omega,by go_num,HS2.out,by rw [HLN.out],by rw [HLN.out];exact HO9.out,HB9.out⟩
    case measure=>simp [RowKit.intOf];omega
  ·have hke:k=n:=by omega
   have HE:Hid (cs.filter (fun s=>decide (s.2.2<capB s.2.1))=os):=by unfold Hid;rw [HOS.out,List.take_of_length_le (by rw [HL.out];omega)]
   clear hke
   go_wp2_with fail
   go_ret
   exact ⟨⟨A,c,by rw [HE.out];rfl,by rw [HE.out];exact HO.out⟩,HB.out⟩
end
section
open Go.RowKit Go.Lib
attribute [local go_sem ↓] Go.wp_at_zero Go.wp_at_succ
def hdC (cs:List S3):(T2 × Int) × Bool :=
 if cvB cs=false∨1<(opS cs).length then (((0,0),0),false) else if (opS cs).length=0 then (((0,0),0),true) else hdLv (gS (opS cs) 0).2.1 (gS (opS cs) 0).2.2
theorem opS_len (cs:List S3):(opS cs).length≤cs.length:=by
 unfold opS;split
 ·exact List.length_filter_le _ _
 ·simp
theorem HundConfig_any (A0:Option Addr) (n c0:Nat) (cs:List S3) (w:World) (hn:n≤1000) (hl:cs.length=n) (hr:Reads w w.heap.size 3 A0 n (scellsS cs)) :
 Calls Tryz.prog 20 #[.slice A0 n c0] w fun e w'=>e=.returned (lvV (hdC cs))∧Below w.heap.size w w':=by
 have HR:=Lib.hid (fun W (hW:Below w.heap.size w W)=>(hr.below hW).more hW.size)
 have HOP:=Lib.hid (fun W (hW:Below w.heap.size w W)=>ConfigOpen_any A0 n c0 cs W hn hl (HR.out W hW))
 have HV:=Lib.hid (fun W (hW:Below w.heap.size w W)=>ConfigValid_any A0 n c0 cs W (by omega) hl (HR.out W hW))
 have hol:=opS_len cs
 rw [hl] at hol
 have HX0:=Lib.hid (Blk.new w 31 #[.int .i64 0,.int .i64 0,.int .i64 0])
 have HB0:=Lib.hid (bel_alloc (Below.refl w.heap.size w) (.cells #[.int .i64 0,.int .i64 0,.int .i64 0] 31))
 have HDC:Hid (hdC cs=if cvB cs=false∨1<(opS cs).length then (((0,0),0),false) else if (opS cs).length=0 then (((0,0),0),true) else hdLv (gS (opS cs) 0).2.1 (gS (opS cs) 0).2.2):=rfl
 obtain ⟨r,hrr⟩:∃r,hdC cs=r:=⟨_,rfl⟩
 rw [hrr] at HDC ⊢
 unfold OpSPost at HOP
 obtain ⟨os,hos⟩:∃os,opS cs=os:=⟨_,rfl⟩
 rw [hos] at HOP HDC hol
 obtain ⟨m,hm⟩:∃m,os.length=m:=⟨_,rfl⟩
 rw [hm] at HOP HDC hol
 clear hl hr hos hrr hm HR
 go_enter Tryz.func20,Tryz.ntmps20
 go_wp2_with fail
 refine (HOP.out _ HB0.out).mono ?_
 rintro e w1 ⟨⟨A,c,rfl,ho1⟩,hb1⟩
 have HX1:=Lib.hid (HX0.out.sub hb1)
 have HB1:=Lib.hid (bel_sub HB0.out hb1)
 have HR1:=Lib.hid (own_reads ho1)
 have HGB:Hid (∀b off,A=some ⟨b,off,none⟩→0<m→w.heap.size+1≤b):=by
  intro b off hA hm
  obtain ⟨g,cur,e,hg,_⟩:=own_blk2 ho1 hm
  rw [World.size_alloc] at hg
  rw [hA] at e
  injection e with e
  injection e with e
  omega
 clear hb1 ho1 HX0 HB0
 go_wp2_with fail
 refine (HV.out _ HB1.out).mono ?_
 rintro e w2 ⟨rfl,hb2⟩
 have HX2:=Lib.hid (HX1.out.sub hb2)
 have HB2:=Lib.hid (bel_sub HB1.out hb2)
 have HR2:=Lib.hid ((HR1.out.below hb2).more hb2.size)
 clear hb2 HX1 HB1 HR1
 obtain ⟨x1,x2,x3,f1,f2,f3⟩:=blk3 HX2.out
 have hlt:=HX2.out.lt
 have HBZ:=Lib.hid (bel_set (g:=w.heap.size) (i:=2) (u:=.int .i64 0) (bel_set2 (g:=w.heap.size) (x:=.int .i64 0) (y:=.int .i64 0) HB2.out (Nat.le_refl _)) (Nat.le_refl _))
 have HZ:=Lib.hid (((HX2.out.set 0 (.int .i64 0)).set 1 (.int .i64 0)).set 2 (.int .i64 0))
 cases hv:cvB cs
 ·have HRE:Hid (r=(((0,0),0),false)):=by unfold Hid;rw [HDC.out,hv,if_pos (.inl rfl)]
  clear HDC hv
  go_wp2_with fail
  refine bodyPost_ret (results_ct3 rfl _ _ w.heap.size _ _ rfl HZ.out Tryz.underlying31 rfl (by kernel_rfl)) rfl ?_
  exact ⟨by rw [HRE.out];rfl,HBZ.out⟩
 by_cases h1:1<m
 ·have HRE:Hid (r=(((0,0),0),false)):=by unfold Hid;rw [HDC.out,if_pos (.inr h1)]
  have d1:decide ((1:Int)<(m:Int))=true:=decide_eq_true (by omega)
  clear HDC hv
  go_wp2_with fail
  refine bodyPost_ret (results_ct3 rfl _ _ w.heap.size _ _ rfl HZ.out Tryz.underlying31 rfl (by kernel_rfl)) rfl ?_
  exact ⟨by rw [HRE.out];rfl,HBZ.out⟩
 have d1:decide ((1:Int)<(m:Int))=false:=decide_eq_false (by omega)
 by_cases h0:m=0
 ·have HRE:Hid (r=(((0,0),0),true)):=by unfold Hid;rw [HDC.out,hv,if_neg (by simp;omega),if_pos h0]
  subst h0
  clear HDC hv
  go_wp2_with fail
  refine bodyPost_ret (results_ct3 rfl _ _ w.heap.size _ _ rfl HZ.out Tryz.underlying31 rfl (by kernel_rfl)) rfl ?_
  exact ⟨by rw [HRE.out];rfl,HBZ.out⟩
 obtain rfl:m=1:=by omega
 have hre:r=hdLv (gS os 0).2.1 (gS os 0).2.2:=by rw [HDC.out,hv,if_neg (by simp),if_neg (by simp)]
 obtain ⟨b,off,hA,hb,hc⟩:=HR2.out.shl (show 0<1 by omega)
 have hbn:=HGB.out b off hA (by omega)
 subst hA
 obtain ⟨r1,r2,r3⟩:=hc 0 (by omega)
 simp only [Nat.zero_mul,Nat.add_zero] at r1 r2 r3
 obtain ⟨⟨s1,s2,s3⟩,hs⟩:∃s,gS os 0=s:=⟨_,rfl⟩
 rw [hs] at r1 r2 r3 hre
 simp only at r1 r2 r3 hre
 have HHL:=Lib.hid (fun W=>HundLevel_any s2 s3 W)
 obtain ⟨⟨⟨⟨a1,a2⟩,a3⟩,ok⟩,hh⟩:∃q,hdLv s2 s3=q:=⟨_,rfl⟩
 rw [hh] at HHL hre
 have HRE:=Lib.hid hre
 clear hre hh hs hc HDC hv HZ HBZ
 unfold lvV at HHL
 simp only at HHL
 have e10:((1:Int)==0)=false:=rfl
 go_wp2_with fail
 go_region_held3 (fun w'=>w'.cell? ⟨b,off+1,none⟩=some (.int .i64 s2)∧w'.cell? ⟨b,off+2,none⟩=some (.int .i64 s3))
  (first | (refine ⟨?_,?_⟩ <;> ((repeat (first | assumption | apply cell_past | rw [World.cell?_drew] | refine cell_sub hb9 ?_ | refine cell_far (by simp <;> omega) ?_));done)) | go_keep)
  (first | (go_at_call 56;refine (HHL.out _).mono ?_;rintro e w9 ⟨rfl,hb9⟩;have hy9:=HX2.out.drew.sub hb9;obtain ⟨y1,y2,y3,g1,g2,g3⟩:=blk3 hy9))
 all_goals
  have HZ:=Lib.hid (((hy9.set 0 (.int .i64 a1)).set 1 (.int .i64 a2)).set 2 (.int .i64 a3))
  have HBZ:=Lib.hid (bel_set (g:=w.heap.size) (i:=2) (u:=.int .i64 a3) (bel_set2 (g:=w.heap.size) (x:=.int .i64 a1) (y:=.int .i64 a2) (bel_sub (bel_drew HB2.out) hb9) (Nat.le_refl _)) (Nat.le_refl _))
  go_wp2_with fail
  refine bodyPost_ret (results_ct3 rfl _ _ w.heap.size _ _ rfl HZ.out Tryz.underlying31 rfl (by kernel_rfl)) rfl ?_
  exact ⟨by rw [HRE.out];rfl,HBZ.out⟩
end
section
open Go.RowKit Go.Lib
attribute [local go_sem ↓] Go.wp_at_zero Go.wp_at_succ
theorem join_at (g off n c:Nat) (L:List (List UInt8)) (w:World) (hl:L.length=n) (hc:n≤c) (hn:n≤1000000) (hj:(Lib.join L [32]).length≤1000000) (hg:g<w.heap.size) (h:∀i,i<n→w.cell? ⟨g,off+i,none⟩=some (.string (bs (L.getD i [])))) :
 Calls Tryz.prog 54 #[.slice (some ⟨g,off,none⟩) n c,.string ⟨#[32]⟩] w fun e w'=>e=.returned (.string (bs (Lib.join L [32])))∧Below w.heap.size w w':=by
 have hmm:((L.map bs).map fun x:ByteArray=>x.data.toList)=L:=by
  rw [List.map_map]
  conv=>rhs;rw [←List.map_id L]
  rfl
 have hln:(L.map bs).length=n:=by rw [List.length_map,hl]
 have hjj:=Tryz.strings_Join g off c (L.map bs) ⟨#[32]⟩ w (fun i x hx=>by
  have hi:i<n:=by
   rcases Nat.lt_or_ge i n with h1 | h1
   ·exact h1
   ·rw [List.getElem?_eq_none (by rw [hln];exact h1)] at hx;cases hx
  rw [h i hi,List.getD_eq_getElem?_getD]
  rw [List.getElem?_map] at hx
  cases hq:L[i]? with
  | none=>rw [hq] at hx;cases hx
  | some l=>rw [hq] at hx;cases hx;rfl) hg (by rw [hln];omega) (by rw [hln];exact hc) (by rw [hmm];show (Lib.join _ [32]).length≤_;omega)
 rw [hmm,show (⟨#[32]⟩:ByteArray).data.toList=[32] from rfl,hln] at hjj
 exact hjj
def cfF (s:List UInt8):List S3 × Bool :=
 if (spl 32 s).all (fun x=>(shF x).2)=true then (if cvB ((spl 32 s).map fun x=>(shF x).1)=true then ((spl 32 s).map fun x=>(shF x).1,true) else ([],false)) else ([],false)
def CFPost (r:List S3 × Bool) (w:World) (e:Ending) (w':World):Prop:=(∃A c,e=.returned (.tuple #[.slice A r.1.length c,.bool r.2])∧Reads w' w'.heap.size 3 A r.1.length (scellsS r.1))∧Below w.heap.size w w'
theorem cfF_no {s:List UInt8} {k:Nat} (hk:k<(spl 32 s).length) (h:(shF ((spl 32 s).getD k [])).2=false):cfF s=([],false):=by
 unfold cfF
 rw [if_neg]
 intro hall
 have:=List.all_eq_true.1 hall ((spl 32 s).getD k []) (by rw [List.getD_eq_getElem?_getD,List.getElem?_eq_getElem hk];exact List.getElem_mem _)
 rw [h] at this;cases this
theorem spl_len (c:UInt8):∀l:List UInt8,(spl c l).length≤l.length+1
 | []=>Nat.le_refl _
 | x :: r=>by
  have:=spl_len c r
  unfold spl
  split
  ·simp;omega
  ·split
   ·simp
   ·rename_i h;rw [h] at this;simp at this ⊢;omega
theorem spl_sub (c:UInt8):∀(l:List UInt8),∀w∈spl c l,w.length≤l.length∧∀x∈w,x∈l
 | []=>by intro w hw;simp [spl] at hw;subst hw;simp
 | y :: r=>by
  have ih:=spl_sub c r
  intro w hw
  unfold spl at hw
  split at hw
  ·rcases List.mem_cons.1 hw with rfl | h
   ·simp
   ·have:=ih w h
    exact ⟨by simp;omega,fun x hx=>List.mem_cons_of_mem _ (this.2 x hx)⟩
  ·split at hw
   ·simp at hw;subst hw;simp
   ·rename_i p ps h
    rw [h] at ih
    rcases List.mem_cons.1 hw with rfl | hw
    ·have:=ih p (by simp)
     refine ⟨by simp;omega,fun x hx=>?_⟩
     rcases List.mem_cons.1 hx with rfl | hx
     ·simp
     ·exact List.mem_cons_of_mem _ (this.2 x hx)
    ·have:=ih w (by simp [hw])
     exact ⟨by simp;omega,fun x hx=>List.mem_cons_of_mem _ (this.2 x hx)⟩
theorem ConfigFrom_ascii (s:List UInt8) (ha:∀c∈s,c.toNat<128) (hs:s.length≤900) (w:World) (he:Er w) (hm:Mx w) :
 Calls Tryz.prog 182 #[.string (bs s)] w (CFPost (cfF s) w):=by
 have HSP:=Lib.hid (split_any s 32 w hm (by omega))
 have hlen:=spl_len 32 s
 have HSF:Hid (∀k,k<(spl 32 s).length→∀W,Below w.heap.size w W→Calls Tryz.prog 211 #[.string (bs ((spl 32 s).getD k []))] W fun e w'=>e=.returned (shO (shF ((spl 32 s).getD k [])))∧Below W.heap.size W w'):=by
  intro k hk W hW
  have hmem:(spl 32 s).getD k []∈spl 32 s:=by rw [List.getD_eq_getElem?_getD,List.getElem?_eq_getElem hk];exact List.getElem_mem _
  have:=spl_sub 32 s _ hmem
  exact ShellFrom_ascii _ (fun c hc=>ha c (this.2 c hc)) (by omega) W (he.on hW)
 have HNO:Hid (∀k,k<(spl 32 s).length→(shF ((spl 32 s).getD k [])).2=false→cfF s=([],false)):=fun k hk h=>cfF_no hk h
 have HYES:Hid ((spl 32 s).all (fun x=>(shF x).2)=true→cfF s=if cvB ((spl 32 s).map fun x=>(shF x).1)=true then ((spl 32 s).map fun x=>(shF x).1,true) else ([],false)):=fun h=>by unfold cfF;rw [if_pos h]
 obtain ⟨r,hr⟩:∃r,cfF s=r:=⟨_,rfl⟩
 rw [hr] at HNO HYES ⊢
 clear hr
 obtain ⟨ws,hws⟩:∃ws,spl 32 s=ws:=⟨_,rfl⟩
 rw [hws] at HSP hlen HSF HNO HYES
 clear hws
 obtain ⟨n,hn⟩:∃n,ws.length=n:=⟨_,rfl⟩
 rw [hn] at HSP hlen HSF HNO
 have HN:=Lib.hid hn
 clear hn
 rw [show bs [32]=⟨#[32]⟩ from rfl] at HSP
 generalize bs s=X at *
 have HBL:=Lib.hid (Blk.new w 9 (ws.map fun x=>Value.string (bs x)).toArray)
 have HBW:=Lib.hid (bel_alloc (Below.refl w.heap.size w) (.cells (ws.map fun x=>Value.string (bs x)).toArray 9))
 go_enter Tryz.func182,Tryz.ntmps182
 go_wp2_with fail
 refine HSP.out.mono ?_
 rintro e w1 ⟨rfl,hw1⟩
 rw [←hw1] at HBL HBW
 have hbase:w.heap.size<w1.heap.size:=HBL.out.lt
 have hbase2:w1.heap.size=w.heap.size+1:=by rw [hw1];simp
 clear hw1 HSP
 go_wp2_with fail
 go_loopw [4,6,7,8,12] (fun v _ _ _ i wr=>∃(k:Nat) (A:Option Addr) (c:Nat),k≤n∧i=.int .i64 k∧v=.slice A k c∧Hid (wr.ownsRow (w.heap.size+1) 87 3 (.slice A k c) k (scellsS ((ws.map fun x=>(shF x).1).take k)))∧Hid (∀j,j<k→(shF (ws.getD j [])).2=true)∧Hid (Below w1.heap.size w1 wr)) (fun _ _ _ _ i _=>n-(RowKit.intOf i).toNat)
 case atStart=>exact ⟨0,none,0,Nat.zero_le _,rfl,rfl,World.ownsRow_nil _ _ _ _,fun j hj=>absurd hj (by omega),Below.refl _ _⟩
 case round =>
  obtain ⟨k,A,c,hk,rfl,rfl,HO,HOK,HB⟩:=hrel
  by_cases hlt:k<n
  ·have hkl:k<ws.length:=by rw [HN.out];exact hlt
   have hcw:=(HBL.out.sub HB.out).cell k
   have hgw:(ws.map fun x=>Value.string (bs x)).toArray[k]?=some (.string (bs (ws.getD k []))):=by
    rw [List.getElem?_toArray,List.getElem?_map,List.getD_eq_getElem?_getD,List.getElem?_eq_getElem hkl];rfl
   rw [hgw] at hcw
   have HT:Hid (ws.take (k+1)=ws.take k++[ws.getD k []]):=by unfold Hid;rw [List.getD_eq_getElem?_getD,List.getElem?_eq_getElem hkl,List.take_succ_eq_append_getElem hkl];rfl
   have HS:=Lib.hid (HSF.out k hlt)
   have hlw:w.heap.size<wr.heap.size:=Nat.lt_of_lt_of_le hbase HB.out.size
   have HNK:=Lib.hid (HNO.out k hlt)
   have HBR:=Lib.hid (bel_sub HBW.out HB.out)
   clear hgw hkl
   obtain ⟨q,hq⟩:∃q,ws.getD k []=q:=⟨_,rfl⟩
   rw [hq] at HT HS HNK hcw
   have HQ:=Lib.hid hq
   clear hq
   obtain ⟨⟨⟨x1,x2,x3⟩,ok⟩,hx⟩:∃x,shF q=x:=⟨_,rfl⟩
   rw [hx] at HS HNK
   have HXQ:=Lib.hid hx
   clear hx
   unfold shO at HS
   simp only at HS HNK
   generalize bs q=D at *
   go_wp2_with fail
   refine (HS.out _ HBR.out).mono ?_
   rintro e w3 ⟨rfl,hb3⟩
   have HB3:=Lib.hid (bel_alloc (bel_sub HB.out hb3) (.cells #[.int .i64 x1,.int .i64 x2,.int .i64 x3] 87))
   have HO3:=Lib.hid ((own_below HO.out hb3).alloc (.cells #[.int .i64 x1,.int .i64 x2,.int .i64 x3] 87))
   have hlw3:w.heap.size+1≤w3.heap.size:=Nat.le_trans hlw hb3.size
   clear hb3 hcw HO HB HBR HS
   cases ok
   ·have HRE:=Lib.hid (HNK.out rfl)
    have HBF:=Lib.hid (bel_sub HBW.out HB3.out)
    go_wp2_with fail
    go_ret2
    refine ⟨?_,HBF.out⟩
    rw [HRE.out]
    exact ⟨none,0,rfl,Reads.none_⟩
   ·have HLS:Hid (scellsS ((ws.map fun x=>(shF x).1).take (k+1))=scellsS ((ws.map fun x=>(shF x).1).take k)++[.int .i64 x1,.int .i64 x2,.int .i64 x3]):=by
     unfold Hid;rw [←List.map_take,HT.out,List.map_append,List.map_singleton,HXQ.out,scellsS_snoc,List.map_take]
    have HOK2:Hid (∀j,j<k+1→(shF (ws.getD j [])).2=true):=fun j hj=>by
     by_cases h:j=k
     ·subst h;rw [HQ.out,HXQ.out]
     ·exact HOK.out j (by omega)
    go_wp2_with (at_builtin;refine wpList_app1b _ rfl (.tmp 23) (.tmp 25) _ rfl (w.heap.size+1) 87 3 24 elShell A c k (scellsS ((ws.map fun x=>(shF x).1).take k)) rfl (HO3.out.alloc _) (w3.heap.size+1) #[.int .i64 x1,.int .i64 x2,.int .i64 x3] rfl ?hblk rfl ?h1 (by omega) (by omega) (by simp;omega) ?_)
    case hblk=>have:=Blk.new (w3.alloc (.cells #[.int .i64 x1,.int .i64 x2,.int .i64 x3] 87)) 87 #[.int .i64 x1,.int .i64 x2,.int .i64 x3];rw [World.size_alloc] at this;exact this
    case h1=>simp [Value.oneCell']
    intro A8 c8 w8 hown8 hc8 hb8
    have HW8:=Lib.hid hown8
    have HB8:Hid (Below w1.heap.size w1 w8):=(bel_alloc HB3.out _).trans (hb8.mono (by omega))
    clear hown8 hb8
    go_wp2_with fail
    go_roundw
    case rel=>exact ⟨k+1,A8,c8,by omega,by go_num,rfl,by rw [HLS.out];exact HW8.out,HOK2.out,HB8.out⟩
    case measure=>simp [RowKit.intOf];omega
  ·obtain rfl:k=n:=by omega
   have hall:ws.all (fun x=>(shF x).2)=true:=by
    rw [List.all_eq_true]
    intro x hx
    obtain ⟨j,hj⟩:=List.mem_iff_getElem?.1 hx
    have hjl:j<ws.length:=by
     rcases Nat.lt_or_ge j ws.length with h | h
     ·exact h
     ·rw [List.getElem?_eq_none h] at hj;cases hj
    have:=HOK.out j (by rw [←HN.out];exact hjl)
    rw [List.getD_eq_getElem?_getD,hj] at this
    exact this
   have HRE:=Lib.hid (HYES.out hall)
   have htk:(ws.map fun x=>(shF x).1).take k=ws.map fun x=>(shF x).1:=List.take_of_length_le (by rw [List.length_map,HN.out];exact Nat.le_refl _)
   rw [htk] at HO
   obtain ⟨ss,hss⟩:∃ss,(ws.map fun x=>(shF x).1)=ss:=⟨_,rfl⟩
   rw [hss] at HO HRE
   have hsl:ss.length=k:=by rw [←hss,List.length_map,HN.out]
   have HSL:=Lib.hid hsl
   have HCV:=Lib.hid (ConfigValid_any A k c ss wr (by omega) hsl (own_reads HO.out))
   have HBR:=Lib.hid (bel_sub HBW.out HB.out)
   clear hall htk hss hsl
   go_wp2_with fail
   refine HCV.out.mono ?_
   rintro e w6 ⟨rfl,hb6⟩
   have HBF:=Lib.hid (bel_sub HBR.out hb6)
   have HOF:=Lib.hid (own_below HO.out hb6)
   clear hb6
   cases hv:cvB ss
   ·rw [hv] at HRE
    have HRE2:Hid (r=([],false)):=HRE.out.trans (if_neg (by simp))
    clear hv HRE
    go_wp2_with fail
    go_ret2
    refine ⟨?_,HBF.out⟩
    rw [HRE2.out]
    exact ⟨none,0,rfl,Reads.none_⟩
   ·rw [hv] at HRE
    have HRE2:Hid (r=(ss,true)):=HRE.out.trans (if_pos rfl)
    clear hv HRE
    go_wp2_with fail
    go_ret2
    refine ⟨?_,HBF.out⟩
    rw [HRE2.out]
    simp only
    rw [HSL.out]
    exact ⟨A,c,rfl,own_reads HOF.out⟩
end
section
open Go.RowKit Go.Lib
attribute [local go_sem ↓] Go.wp_at_zero Go.wp_at_succ
theorem reqConfig_any (g n:Nat) (L:List (List UInt8)) (w:World) (hl:L.length=n) (h1:1≤n) (hn:n≤1000) (hj:(Lib.join L [32]).length≤900) (ha:∀c∈Lib.join L [32],c.toNat<128) (hg:g<w.heap.size)
 (hc:∀i,i<n→w.cell? ⟨g,1+i,none⟩=some (.string (bs (L.getD i [])))) (he:Er w) (hm:Mx w) :
 Calls Tryz.prog 153 #[.agg #[.slice (some ⟨g,1,none⟩) n n]] w (CFPost (cfF (Lib.join L [32])) w):=by
 have HB0:=Lib.hid (bel_alloc (Below.refl w.heap.size w) (.cells #[.slice (some ⟨g,1,none⟩) n n] 136))
 have HQ0:=Lib.hid (Blk.new w 136 #[.slice (some ⟨g,1,none⟩) n n])
 have c0:(w.alloc (.cells #[.slice (some ⟨g,1,none⟩) n n] 136)).cell? ⟨w.heap.size,0,none⟩=some (.slice (some ⟨g,1,none⟩) n n):=HQ0.out.cell 0
 have HJ:=Lib.hid (join_at g 1 n n L (w.alloc (.cells #[.slice (some ⟨g,1,none⟩) n n] 136)) hl (Nat.le_refl _) (by omega) (by omega) (Nat.lt_of_lt_of_le hg HB0.out.size) (fun i hi=>cell_sub (bel_alloc (Below.refl w.heap.size w) _) (hc i hi)))
 have HCF:=Lib.hid (fun W (hW:Below w.heap.size w W)=>ConfigFrom_ascii (Lib.join L [32]) ha hj W (he.on hW) (hm.on hW))
 clear hl hj ha hg hc he hm
 obtain ⟨⟨ss,ok⟩,hr⟩:∃r,cfF (Lib.join L [32])=r:=⟨_,rfl⟩
 rw [hr] at HCF ⊢
 clear hr
 generalize Lib.join L [32]=J at *
 unfold CFPost at *
 simp only at HCF ⊢
 generalize bs J=X at *
 go_enter Tryz.func153,Tryz.ntmps153
 go_wp2_with fail
 refine HJ.out.mono ?_
 rintro e w2 ⟨rfl,hb2⟩
 have HB2:=Lib.hid (bel_sub HB0.out hb2)
 clear hb2 HB0 HQ0
 go_wp2_with fail
 refine (HCF.out _ HB2.out).mono ?_
 rintro e w3 ⟨⟨A,c,rfl,hr3⟩,hb3⟩
 have HR3:=Lib.hid hr3
 have HB3:=Lib.hid (bel_sub HB2.out hb3)
 clear hr3 hb3 HB2 HCF
 go_wp2_with fail
 go_ret2
 exact ⟨⟨A,c,rfl,HR3.out⟩,HB3.out⟩
theorem lv_getD {t:T2} {k:Nat} (h:k<(lvJs t).length):(lvJs t).getD k 0∈lvJs t:=by
 rw [List.getD_eq_getElem?_getD,List.getElem?_eq_getElem h];exact List.getElem_mem _
theorem hdLv_mem (l n:Int):(hdLv l n).1.2∈lvJs (hdLv l n).1.1:=by
 unfold hdLv
 cases hv:evB l n
 ·rw [if_neg (by simp)];decide +kernel
 ·rw [if_pos rfl]
  have hb:=evB_iff.1 hv
  have htv:tvB (hundT l.toNat n.toNat)=true:=hundT_valid ⟨l.toNat,by omega⟩ ⟨n.toNat,by omega⟩ (by show n.toNat≤4*l.toNat+2;omega)
  have hlen:=lv_len htv
  show (lvJs (hundT l.toNat n.toNat)).getD _ 0∈lvJs (hundT l.toNat n.toNat)
  refine lv_getD ?_
  split <;> omega
theorem hdC_mem (cs:List S3):(hdC cs).1.2∈lvJs (hdC cs).1.1:=by
 unfold hdC
 split
 ·decide +kernel
 ·split
  ·decide +kernel
  ·exact hdLv_mem _ _
def rqHu (s:List UInt8):List UInt8 × Bool:=(l1T (hdC (cfF s).1).1.1 (hdC (cfF s).1).1.2,(cfF s).2 && (hdC (cfF s).1).2)
theorem cfF_len (s:List UInt8):(cfF s).1.length≤s.length+1:=by
 have:=spl_len 32 s
 unfold cfF
 split
 ·split
  ·simp;omega
  ·simp
 ·simp
theorem reqHund_any (g n:Nat) (L:List (List UInt8)) (w:World) (hl:L.length=n) (h1:1≤n) (hn:n≤1000) (hj:(Lib.join L [32]).length≤900) (ha:∀c∈Lib.join L [32],c.toNat<128) (hg:g<w.heap.size)
 (hc:∀i,i<n→w.cell? ⟨g,1+i,none⟩=some (.string (bs (L.getD i [])))) (he:Er w) (hm:Mx w) :
 Calls Tryz.prog 127 #[.agg #[.slice (some ⟨g,1,none⟩) n n]] w fun e w'=>e=.returned (.tuple #[.string (bs (rqHu (Lib.join L [32])).1),.bool (rqHu (Lib.join L [32])).2])∧Below w.heap.size w w':=by
 have HB0:=Lib.hid (bel_alloc (Below.refl w.heap.size w) (.cells #[.slice (some ⟨g,1,none⟩) n n] 136))
 have HQ0:=Lib.hid (Blk.new w 136 #[.slice (some ⟨g,1,none⟩) n n])
 have c0:(w.alloc (.cells #[.slice (some ⟨g,1,none⟩) n n] 136)).cell? ⟨w.heap.size,0,none⟩=some (.slice (some ⟨g,1,none⟩) n n):=HQ0.out.cell 0
 have HCF:=Lib.hid (reqConfig_any g n L (w.alloc (.cells #[.slice (some ⟨g,1,none⟩) n n] 136)) hl h1 hn hj ha (Nat.lt_of_lt_of_le hg HB0.out.size) (fun i hi=>cell_sub (bel_alloc (Below.refl w.heap.size w) _) (hc i hi)) (he.on HB0.out) (hm.on HB0.out))
 have hcl:=cfF_len (Lib.join L [32])
 unfold rqHu
 generalize Lib.join L [32]=J at *
 obtain ⟨⟨ss,ok⟩,hr⟩:∃r,cfF J=r:=⟨_,rfl⟩
 rw [hr] at HCF hcl ⊢
 unfold CFPost at HCF
 simp only at HCF hcl ⊢
 obtain ⟨m,hm2⟩:∃m,ss.length=m:=⟨_,rfl⟩
 rw [hm2] at HCF hcl
 have HM:=Lib.hid hm2
 have HMEM:=Lib.hid (hdC_mem ss)
 obtain ⟨⟨⟨⟨t1,t2⟩,j⟩,fine⟩,hq⟩:∃q,hdC ss=q:=⟨_,rfl⟩
 rw [hq] at HMEM ⊢
 have HQ:=Lib.hid hq
 simp only at HMEM ⊢
 have HLT:=Lib.hid (fun W=>LevelText_any (t1,t2) j W HMEM.out)
 clear hr hl ha hg hc he hm hm2 hq HMEM
 have hlv:l1T (t1,t2) j=tmT (t1,t2)++spT j:=rfl
 rw [hlv]
 clear hlv
 simp only at HLT
 generalize bs (tmT (t1,t2)++spT j)=Y at *
 go_enter Tryz.func127,Tryz.ntmps127
 go_wp2_with fail
 refine HCF.out.mono ?_
 rintro e w2 ⟨⟨A,c,rfl,hr2⟩,hb2⟩
 have HR2:=Lib.hid hr2
 have HB2:=Lib.hid (bel_sub HB0.out hb2)
 clear hb2 hr2 HB0 HQ0 HCF
 go_wp2_with fail
 refine (HundConfig_any A m c ss w2 (by omega) HM.out HR2.out).mono ?_
 rintro e w3 ⟨rfl,hb3⟩
 rw [HQ.out]
 unfold lvV
 simp only
 have HB3:=Lib.hid (bel_alloc (bel_sub HB2.out hb3) (.cells #[.int .i64 t1,.int .i64 t2,.int .i64 j] 31))
 clear hb3 HB2 HR2
 go_wp2_with fail
 refine (HLT.out _).mono ?_
 rintro e w4 ⟨rfl,hb4⟩
 have HB4:=Lib.hid (bel_sub HB3.out hb4)
 clear hb4 HB3
 cases ok
 ·go_wp2_with fail
  go_ret2
  exact ⟨rfl,HB4.out⟩
 ·go_wp2_with fail
  go_ret2
  exact ⟨rfl,HB4.out⟩
def rqGr (s:List UInt8):List UInt8 × Bool:=if 1≤numOf s∧numOf s≤118 then (cfgT (grL (numOf s)),true) else ([],false)
theorem reqGround_any (s:List UInt8) (b:Nat) (w:World) (l0:s.length≤1000) (hb:b<w.heap.size) (h0:w.cell? ⟨b,1,none⟩=some (.string (bs s))) :
 Calls Tryz.prog 125 #[.agg #[.slice (some ⟨b,1,none⟩) 1 1]] w fun e w'=>e=.returned (.tuple #[.string (bs (rqGr s).1),.bool (rqGr s).2])∧Below w.heap.size w w':=by
 have HN0:=Lib.hid (fun W (hW:Below w.heap.size w W)=>number_any s b 1 1 1 0 W l0 (by omega) (by omega) (Nat.lt_of_lt_of_le hb hW.size) (cell_sub hW h0))
 have HB0:=Lib.hid (bel_alloc (Below.refl w.heap.size w) (.cells #[.slice (some ⟨b,1,none⟩) 1 1] 136))
 have HQ0:=Lib.hid (Blk.new w 136 #[.slice (some ⟨b,1,none⟩) 1 1])
 clear h0 l0 hb
 unfold rqGr
 generalize numOf s=z at *
 go_enter Tryz.func125,Tryz.ntmps125
 go_wp2_with fail
 refine (exactly_any _ 1 1 _).mono ?_
 rintro e w1 ⟨rfl,hb1⟩
 have HB1:=Lib.hid (bel_sub HB0.out hb1)
 have c0:w1.cell? ⟨w.heap.size,0,none⟩=some (.slice (some ⟨b,1,none⟩) 1 1):=(HQ0.out.sub hb1).cell 0
 clear hb1 HB0 HQ0
 go_wp2_with fail
 refine (HN0.out _ HB1.out).mono ?_
 rintro e w2 ⟨rfl,hb2⟩
 have HB2:=Lib.hid (bel_sub HB1.out hb2)
 clear hb2 HB1 c0 HN0
 go_wp2_with fail
 by_cases hz:1≤z∧z≤118
 ·have hg:=okG_at hz
  unfold okG at hg
  simp only [Bool.and_eq_true,decide_eq_true_eq,List.all_eq_true] at hg
  refine (implGround_any z _ hz.1 hz.2).mono ?_
  rintro e w3 ⟨⟨A,c,rfl,hr3⟩,hb3⟩
  have HB3:=Lib.hid (bel_sub HB2.out hb3)
  have HCT:=Lib.hid (ConfigText_any A (grL z).length c (grL z) w3 (by have:=hg.1.2.2;omega) rfl hr3)
  clear hb3 hr3 HB2 hg
  go_wp2_with fail
  refine HCT.out.mono ?_
  rintro e w4 ⟨rfl,hb4⟩
  have HB4:=Lib.hid (bel_sub HB3.out hb4)
  clear hb4
  go_wp2_with fail
  go_ret2
  exact ⟨rfl,HB4.out⟩
 ·refine (implGround_no z _ hz).mono ?_
  rintro e w3 ⟨rfl,hb3⟩
  have HB3:=Lib.hid (bel_sub HB2.out hb3)
  have HCT:=Lib.hid (ConfigText_any none 0 0 [] w3 (by omega) rfl Reads.none_)
  clear hb3 HB2
  go_wp2_with fail
  refine HCT.out.mono ?_
  rintro e w4 ⟨rfl,hb4⟩
  have HB4:=Lib.hid (bel_sub HB3.out hb4)
  clear hb4
  go_wp2_with fail
  go_ret2
  exact ⟨rfl,HB4.out⟩
end
section
open Go.RowKit
attribute [local go_sem ↓] Go.wp_at_zero Go.wp_at_succ
theorem specGround_no (z:Int) (w:World) (h:¬(1≤z∧z≤118)):Calls Tryz.prog 17 #[.int .i64 z] w fun e w'=>(∃A c,e=.returned (.tuple #[.slice A 0 c,.bool false]))∧Below w.heap.size w w':=by
 have hi:inB z 1 118=false:=by simp [inB];omega
 have HI:=Lib.hid (fun W=>l6In_any z 1 118 W)
 rw [hi] at HI
 clear hi
 have HB0:=Lib.hid (bel_alloc (Below.refl w.heap.size w) (.cells #[] 87))
 go_enter Tryz.func17,Tryz.ntmps17
 go_wp2_with fail
 refine (HI.out _).mono ?_
 rintro e w' ⟨rfl,rfl⟩
 go_wp2_with fail
 go_ret2
 exact ⟨⟨_,_,rfl⟩,HB0.out⟩
theorem sameShells_any (A A':Option Addr) (n c c':Nat) (ss:List S3) (w:World) (hn:n≤1000) (hr:Reads w w.heap.size 3 A n (scellsS ss)) (hr':Reads w w.heap.size 3 A' n (scellsS ss)) :
 Calls Tryz.prog 18 #[.slice A n c,.slice A' n c'] w fun e w'=>e=.returned (.bool true)∧Below w.heap.size w w':=by
 have HR:=Lib.hid hr;clear hr
 have HR':=Lib.hid hr';clear hr'
 have hB0:=Below.refl w.heap.size w
 go_enter Tryz.func18,Tryz.ntmps18
 go_wp2_with fail
 go_loopw [5] (fun i wr=>∃(k:Nat),k≤n∧i=.int .i64 k∧Hid (Below w.heap.size w wr)) (fun i _=>n-(RowKit.intOf i).toNat)
 case atStart=>exact ⟨0,Nat.zero_le _,rfl,hB0⟩
 case round =>
  clear hB0
  obtain ⟨k,hk,rfl,HB⟩:=hrel
  by_cases hlt:k<n
  ·obtain ⟨b,off,rfl,hb,hc⟩:=(HR.out.below HB.out).shl hlt
   obtain ⟨r1,r2,r3⟩:=hc k hlt
   obtain ⟨b',off',rfl,hb',hc'⟩:=(HR'.out.below HB.out).shl hlt
   obtain ⟨q1,q2,q3⟩:=hc' k hlt
   clear hc hc'
   generalize gS ss k=s at *
   obtain ⟨s1,s2,s3⟩:=s
   simp only at r1 r2 r3 q1 q2 q3
   have i1:(k:Int)<(n:Int):=by omega
   have i0:(0:Int)≤(k:Int):=by omega
   go_wp2_with fail
   go_region
   go_wp2_with fail
   go_roundw
   case rel=>exact ⟨k+1,by omega,by go_num,⟨HB.out.os,HB.out.tape,HB.out.output,HB.out.size,HB.out.block⟩⟩
   case measure=>simp [RowKit.intOf];omega
  ·obtain rfl:k=n:=by omega
   go_wp2_with fail
   go_ret
   exact ⟨rfl,HB.out⟩
theorem DrawGround_any (A:Option Addr) (n c:Nat) (w:World) (hm:n≤140737488355328) (hc:n≤c) (hb:Bytes w w.heap.size A n) :
 Calls Tryz.prog 15 #[.slice A n c] w fun e w'=>(∃z:Int,e=.returned (.int .i64 z))∧Below w.heap.size w w':=by
 have HBY:=Lib.hid hb;clear hb
 have HB:=Lib.hid (Below.refl w.heap.size w)
 go_enter Tryz.func15,Tryz.ntmps15
 go_wp2_with fail
 refine (l6Open_any A n c _ hm hc HBY.out).mono ?_
 rintro e w1 ⟨rfl,hR1,hb1⟩
 have HB1:=Lib.hid hb1
 have HR1:=Lib.hid hR1
 clear hb1 hR1 HBY
 go_wp2_with fail
 refine (pick_any w.heap.size w.heap.size 0 121 _ (by omega) (by omega) (by omega) HR1.out).mono ?_
 rintro e w2 ⟨z,rfl,_,_,hg2⟩
 have HB2:=Lib.hid (below_of_gb HB1.out hg2 HB1.out.size (by omega))
 go_wp2_with fail
 go_ret
 exact ⟨⟨z,rfl⟩,HB2.out⟩
def dig3 (z:Nat):List UInt8:=[UInt8.ofNat (48+z / 100),UInt8.ofNat (48+z / 10 % 10),UInt8.ofNat (48+z % 10)]
theorem dig3_facts:∀z:Fin 119,numOf (dig3 z.val)=(z.val:Int)∧32∉dig3 z.val∧10∉dig3 z.val:=by decide +kernel
end
section
open Go.RowKit Go.Lib
attribute [local go_sem ↓] Go.wp_at_zero Go.wp_at_succ
theorem spl_tail (x:List UInt8):∀(r:List (List UInt8)),32∉x→(∀y∈r,32∉y)→spl 32 (x++Lib.joinTail [32] r)=x :: r
 | [],hx,_=>by simp [Lib.joinTail,spl_none hx]
 | y :: r,hx,h=>by
  have e:Lib.joinTail [32] (y :: r)=32 :: (y++Lib.joinTail [32] r):=by simp [Lib.joinTail]
  rw [e,spl_app hx,spl_tail y r (h y (by simp)) (fun z hz=>h z (by simp [hz]))]
theorem spl_join {L:List (List UInt8)} (h0:L≠[]) (h:∀y∈L,32∉y):spl 32 (Lib.join L [32])=L:=by
 cases L with
 | nil=>exact absurd rfl h0
 | cons x r=>rw [Lib.join_cons];exact spl_tail x r (h x (by simp)) (fun y hy=>h y (by simp [hy]))
theorem join_mem {L:List (List UInt8)} {c:UInt8} (h:c∈Lib.join L [32]):c=32∨∃y∈L,c∈y:=by
 cases L with
 | nil=>simp [Lib.join_nil] at h
 | cons x r =>
  rw [Lib.join_cons] at h
  rcases List.mem_append.1 h with h | h
  ·exact .inr ⟨x,by simp,h⟩
  ·unfold Lib.joinTail at h
   obtain ⟨l,hl,hc⟩:=List.mem_flatten.1 h
   obtain ⟨y,hy,rfl⟩:=List.mem_map.1 hl
   rcases List.mem_append.1 hc with h | h
   ·simp at h;exact .inl h
   ·exact .inr ⟨y,by simp [hy],h⟩
theorem cv_all {ss:List S3} (h:cvB ss=true):(∀s∈ss,shvB s=true)∧ss≠[]:=by
 unfold cvB at h
 simp only [Bool.and_eq_true,List.all_eq_true,Bool.not_eq_true'] at h
 refine ⟨fun s hs=>?_,fun e=>by subst e;simp at h⟩
 obtain ⟨k,hk⟩:=List.mem_iff_getElem?.1 hs
 have hkl:k<ss.length:=by
  rcases Nat.lt_or_ge k ss.length with h | h
  ·exact h
  ·rw [List.getElem?_eq_none h] at hk;cases hk
 have:=h.1 k (List.mem_range.2 hkl)
 unfold okAt at this
 simp only [Bool.and_eq_true] at this
 have hg:gS ss k=s:=by simp [gS,hk]
 rw [hg] at this
 exact this.1
theorem cfg_facts {ss:List S3} (h:cvB ss=true) (hn:ss.length≤19):spl 32 (cfgT ss)=ss.map shT∧cfF (cfgT ss)=(ss,true)∧(cfgT ss).length≤95∧(∀c∈cfgT ss,c.toNat<128)∧10∉cfgT ss∧cfgT ss=Lib.join (ss.map shT) [32]:=by
 obtain ⟨hv,hne⟩:=cv_all h
 have e:cfgT ss=Lib.join (ss.map shT) [32]:=by unfold cfgT;rw [h];rfl
 have hs:spl 32 (cfgT ss)=ss.map shT:=by
  rw [e]
  exact spl_join (by simpa using hne) (fun y hy=>by obtain ⟨s,hs,rfl⟩:=List.mem_map.1 hy;exact (allSh_valid s (allSh_mem (hv s hs))).2.2.2.2.2.1)
 refine ⟨hs,?_,?_,?_,?_,e⟩
 ·have h1:(ss.map shT).map (fun x=>(shF x).1)=ss:=by
   rw [List.map_map]
   conv=>rhs;rw [←List.map_id ss]
   refine List.map_congr_left fun s hs=>?_
   show (shF (shT s)).1=s
   rw [shF_text (hv s hs)]
  unfold cfF
  rw [hs,h1,if_pos,h]
  ·rfl
  ·rw [List.all_eq_true]
   intro x hx
   obtain ⟨s,hs,rfl⟩:=List.mem_map.1 hx
   rw [shF_text (hv s hs)]
 ·have:=join_leC (m:=4) (L:=ss.map shT) (fun x hx=>by obtain ⟨s,_,rfl⟩:=List.mem_map.1 hx;exact shT_len s)
  rw [List.length_map] at this
  rw [e];omega
 ·intro c hc
  rw [e] at hc
  rcases join_mem hc with rfl | ⟨y,hy,hcy⟩
  ·decide
  ·obtain ⟨s,hs,rfl⟩:=List.mem_map.1 hy
   have:=(allSh_valid s (allSh_mem (hv s hs))).2.2.2.2.2.2.2
   exact of_decide_eq_true (List.all_eq_true.1 this c hcy)
 ·intro hc
  rw [e] at hc
  rcases join_mem hc with h1 | ⟨y,hy,hcy⟩
  ·exact absurd h1 (by decide)
  ·obtain ⟨s,hs,rfl⟩:=List.mem_map.1 hy
   exact (allSh_valid s (allSh_mem (hv s hs))).2.2.2.2.2.2.1 hcy
def groW:List UInt8:=[103,114,111,117,110,100]
def hunW:List UInt8:=[104,117,110,100]
theorem gro_cmd:cmdOf groW=some 125:=by decide +kernel
theorem hun_cmd:cmdOf hunW=some 127:=by decide +kernel
def LineOkG (w:World) (line out:List UInt8):Prop:=∀(W:World) (b:Nat),Below w.heap.size w W→Blk W b 9 (wcs (spl 32 line)) →
 Calls Tryz.prog 43 #[.slice (some ⟨b,0,none⟩) (spl 32 line).length (spl 32 line).length] W fun e w'=>e=.returned (.string (bs out))∧Below W.heap.size W w'
theorem groLine (z:Nat) (hz:1≤z∧z≤118) (w:World):LineOkG w (groW++32 :: dig3 z) (cfgT (grL (z:Int))):=by
 obtain ⟨d1,d2,d3⟩:=dig3_facts ⟨z,by omega⟩
 simp only at d1 d2 d3
 have hs:spl 32 (groW++32 :: dig3 z)=[groW,dig3 z]:=by rw [spl_app (by decide),spl_none d2]
 intro W b hW hbl
 rw [hs] at hbl ⊢
 have hr:rqGr (dig3 z)=(cfgT (grL (z:Int)),true):=by unfold rqGr;rw [d1,if_pos (by omega)]
 exact answer_any b 2 [groW,dig3 z] groW 125 (bs (cfgT (grL (z:Int)))) true W rfl rfl (by decide) (by omega) hbl gro_cmd
  (enters_of Tryz.func125 (by kernel_rfl) rfl)
  (fun W' hW'=>by
   have:=reqGround_any (dig3 z) b W' (by unfold dig3;simp) (Nat.lt_of_lt_of_le hbl.lt hW'.size) (((hbl.sub hW').cell 1).trans rfl)
   rw [hr] at this
   exact this)
theorem hunLine (ss:List S3) (h:cvB ss=true) (hn:ss.length≤19) (w:World) (he:Er w) (hm:Mx w) :
 LineOkG w (hunW++32 :: cfgT ss) (if (hdC ss).2=true then l1T (hdC ss).1.1 (hdC ss).1.2 else [110,111]):=by
 obtain ⟨f1,f2,f3,f4,f5,f6⟩:=cfg_facts h hn
 obtain ⟨_,hne⟩:=cv_all h
 have hs:spl 32 (hunW++32 :: cfgT ss)=hunW :: ss.map shT:=by rw [spl_app (by decide),f1]
 intro W b hW hbl
 rw [hs] at hbl ⊢
 have hl1:(hunW :: ss.map shT).length=ss.length+1:=by simp
 have hpos:1≤ss.length:=List.length_pos_iff.2 hne
 rw [hl1]
 have hr:rqHu (cfgT ss)=(l1T (hdC ss).1.1 (hdC ss).1.2,(hdC ss).2):=by unfold rqHu;rw [f2];rfl
 have:=answer_any b (ss.length+1) (hunW :: ss.map shT) hunW 127 (bs (l1T (hdC ss).1.1 (hdC ss).1.2)) (hdC ss).2 W hl1 rfl (by decide) (by omega) hbl hun_cmd
  (enters_of Tryz.func127 (by kernel_rfl) rfl)
  (fun W' hW'=>by
   have hB:=hbl.sub hW'
   have:=reqHund_any b ss.length (ss.map shT) W' (by simp) hpos (by omega) (by rw [←f6];omega) (by rw [←f6];exact f4) (Nat.lt_of_lt_of_le hbl.lt hW'.size) (fun i hi=>by
    rw [hB.cell,wcs,List.map_cons,List.getElem?_toArray,show 1+i=i+1 by omega,List.getElem?_cons_succ,List.getElem?_map,List.getD_eq_getElem?_getD]
    rw [List.getElem?_eq_getElem (by simpa using hi)];rfl) ((he.on hW).on hW') ((hm.on hW).on hW')
   rw [←f6,hr] at this
   rw [if_neg (by omega),show ss.length+1-1=ss.length by omega]
   exact this)
 refine this.mono fun e w' ⟨h1,h2⟩=>⟨?_,h2⟩
 rw [h1]
 cases (hdC ss).2 <;> rfl
end
section
open Go.RowKit
attribute [local go_sem ↓] Go.wp_at_zero Go.wp_at_succ
theorem dig_conv (z:Nat) (hz:1≤z∧z≤118) (W:World) (g:Nat) (h:Blk W g 5 #[.int .u8 (48+(z:Int) / 100),.int .u8 (48+(z:Int) / 10 % 10),.int .u8 (48+(z:Int) % 10)]) :
 (convert 22 9 (.slice (some ⟨g,0,none⟩) 3 3)).run Tryz.prog W=.ok (.string (bs (dig3 z))) W:=by
 refine run_convert_bytes_back W 22 9 5 ⟨g,0,none⟩ 3 (dig3 z) Tryz.underlying22 Tryz.underlying5 Tryz.underlying9 (fun j hj=>?_)
 have e:(⟨g,0,none⟩:Addr).add j=⟨g,j,none⟩:=by unfold Addr.add;split <;> simp_all
 rw [e,h.cell]
 have h3:j=0∨j=1∨j=2:=by simp [dig3] at hj;omega
 have u0:((UInt8.ofNat (48+z / 100)).toNat:Int)=48+(z:Int) / 100:=by rw [UInt8.toNat_ofNat'];omega
 have u1:((UInt8.ofNat (48+z / 10 % 10)).toNat:Int)=48+(z:Int) / 10 % 10:=by rw [UInt8.toNat_ofNat'];omega
 have u2:((UInt8.ofNat (48+z % 10)).toNat:Int)=48+(z:Int) % 10:=by rw [UInt8.toNat_ofNat'];omega
 rcases h3 with rfl | rfl | rfl
 ·show some (Value.int .u8 _)=some (Value.int .u8 ((UInt8.ofNat (48+z / 100)).toNat:Int));rw [u0]
 ·show some (Value.int .u8 _)=some (Value.int .u8 ((UInt8.ofNat (48+z / 10 % 10)).toNat:Int));rw [u1]
 ·show some (Value.int .u8 _)=some (Value.int .u8 ((UInt8.ofNat (48+z % 10)).toNat:Int));rw [u2]
theorem dec2:Lib.decDigits 2=[50]:=by decide +kernel
theorem out2_no (x y:List UInt8):bs (outT [x,if false=true then y else [110,111]] 2)=bs x++(⟨#[10,110,111,10,108,105,110,101,115,32,50,10]⟩:ByteArray):=by
 rw [show outT [x,if false=true then y else [110,111]] 2=x++[10,110,111,10,108,105,110,101,115,32,50,10] by unfold outT;rw [dec2];simp [outP,linesT],←bs_append];rfl
theorem out2_yes (x y:List UInt8):bs (outT [x,y] 2)=bs x++(⟨#[10]⟩:ByteArray)++bs y++⟨#[10,108,105,110,101,115,32,50,10]⟩:=by
 rw [show outT [x,y] 2=x++[10]++y++[10,108,105,110,101,115,32,50,10] by unfold outT;rw [dec2];simp [outP,linesT],←bs_append,←bs_append,←bs_append];rfl
theorem exec2 (l1 l2 o1 o2:List UInt8) (w:World) (ht:Tab w) (hm:Mx w) (h1:l1.length≤100) (h2:l2.length≤200) (n1:10∉l1) (n2:10∉l2) (p1:o1.length≤10000) (p2:o2.length≤10000) (H1:LineOkG w l1 o1) (H2:LineOkG w l2 o2) :
 Calls Tryz.prog 13 #[.string (bs (l1++10 :: l2++[10]))] w fun e w'=>e=.returned (.string (bs (outT [o1,o2] 2)))∧Below w.heap.size w w':=by
 have hgo:∀(x y:List UInt8) (m:Nat),x.length≤m→y.length≤m→∀k,([x,y].getD k []).length≤m:=fun x y m h h' k=>by
  match k with
  | 0=>exact h
  | 1=>exact h'
  | k+2=>simp
 have hsp:spl 10 (l1++10 :: l2++[10])=[l1,l2]++[[]]:=by
  rw [show l1++10 :: l2++[10]=l1++10 :: (l2++10 :: []) by simp,spl_app n1,spl_app n2];rfl
 refine Execute_any (l1++10 :: l2++[10]) 2 [l1,l2] [o1,o2] w ht hm (by simp;omega) hsp rfl (by omega) (hgo _ _ _ (by omega) (by omega)) (hgo _ _ _ p1 p2) (fun k hk W b hW hbl=>?_)
 match k,hk with
 | 0,_=>exact H1 W b hW hbl
 | 1,_=>exact H2 W b hW hbl
theorem l1T_lenM {t:T2} {j:Int} (h:j∈lvJs t):(l1T t j).length≤100:=by
 have hv:=lv_valid h
 have htl:=tmT_len hv
 have h4:=lv_ok hv h
 unfold l1T
 rw [List.length_append,htl]
 have:=spT_len j
 omega
theorem out_len (q:(T2 × Int) × Bool) (h:q.1.2∈lvJs q.1.1):(if q.2=true then l1T q.1.1 q.1.2 else [110,111]).length≤10000:=by
 split
 ·have:=l1T_lenM h;omega
 ·simp
theorem fnExecuteGround_walk (A:Option Addr) (n0 c0:Nat) (w:World) (hn:n0≤maxLen) (hc:n0≤c0) (hb:Bytes w w.heap.size A n0) (ht:Tab w) (hm:Mx w) (he:Er w) :
 Calls Tryz.prog 4 #[.slice A n0 c0] w fun e w'=>e=.returned (.bool true)∧Below w.heap.size w w':=by
 unfold maxLen at hn
 have HE:=Lib.hid (fun W (hB:Below w.heap.size w W)=>And.intro (ht.on hB) (And.intro (hm.on hB) (he.on hB)));clear ht hm he
 have HB:=Lib.hid hb;clear hb
 have hB0:=Below.refl w.heap.size w
 by_cases hbig:1048576<n0
 ·go_enter Tryz.func4,Tryz.ntmps4
  go_wp2_with fail
  go_ret
  exact ⟨rfl,hB0⟩
 clear hB0
 go_enter Tryz.func4,Tryz.ntmps4
 go_wp2_with fail
 refine (DrawGround_any A n0 c0 w (by omega) hc HB.out).mono ?_
 rintro e w1 ⟨⟨z,rfl⟩,hb1⟩
 have HB1:=Lib.hid hb1
 clear hb1 HB
 by_cases hz:1≤z∧z≤118
 case neg =>
  go_wp2_with fail
  refine (implGround_no z _ hz).mono ?_
  rintro e w2 ⟨rfl,hb2⟩
  have HB2:=Lib.hid (bel_sub HB1.out hb2);clear hb2
  go_wp2_with fail
  refine (specGround_no z _ hz).mono ?_
  rintro e w3 ⟨⟨A3,c3,rfl⟩,hb3⟩
  have HB3:=Lib.hid (bel_sub HB2.out hb3);clear hb3
  have HRD:=Lib.hid (fun W=>(⟨rfl,fun h=>absurd h (by omega)⟩:Reads W W.heap.size 3 A3 0 (scellsS [])))
  go_wp2_with fail
  refine (sameShells_any none A3 0 0 c3 [] w3 (by omega) Reads.none_ (HRD.out _)).mono ?_
  rintro e w4 ⟨rfl,hb4⟩
  have HB4:=Lib.hid (bel_sub HB3.out hb4);clear hb4
  go_wp2_with fail
  refine (sameShells_any none A3 0 0 c3 [] w4 (by omega) Reads.none_ (HRD.out _)).mono ?_
  rintro e w5 ⟨rfl,hb5⟩
  have HB5:=Lib.hid (bel_sub HB4.out hb5);clear hb5
  go_wp2_with fail
  go_ret
  exact ⟨ret_bool (by simp),HB5.out⟩
 have hg:=okG_at hz
 unfold okG at hg
 simp only [Bool.and_eq_true,decide_eq_true_eq,List.all_eq_true] at hg
 obtain ⟨⟨_,hg4⟩,hcv⟩:=hg
 have HI:=Lib.hid (fun W=>implGround_any z W hz.1 hz.2)
 have HS:=Lib.hid (fun W=>specGround_any z W hz.1 hz.2)
 unfold GrPost at HI HS
 obtain ⟨zn,rfl⟩:∃zn:Nat,z=zn:=⟨z.toNat,by omega⟩
 have hzn:1≤zn∧zn≤118:=by omega
 have HGL:=Lib.hid (fun W=>groLine zn hzn W)
 have hd3:=dig3_facts ⟨zn,by omega⟩
 simp only at hd3
 have HD3:=Lib.hid hd3
 clear hd3
 obtain ⟨ss,hss⟩:∃ss,grL (zn:Int)=ss:=⟨_,rfl⟩
 rw [hss] at HI HS HGL hg4 hcv
 have HHL:=Lib.hid (fun W (hE:Er W) (hM:Mx W)=>hunLine ss hcv hg4.2 W hE hM)
 have HCF:=Lib.hid (cfg_facts hcv hg4.2)
 clear hss hcv
 obtain ⟨m,hmm⟩:∃m,ss.length=m:=⟨_,rfl⟩
 rw [hmm] at HI HS hg4
 have HM:=Lib.hid hmm;clear hmm
 go_wp2_with fail
 refine (HI.out _).mono ?_
 rintro e w2 ⟨⟨A2,c2,rfl,hr2⟩,hb2⟩
 have HB2:=Lib.hid (bel_sub HB1.out hb2)
 have HR2:=Lib.hid hr2
 clear hb2 hr2 HB1 HI
 go_wp2_with fail
 refine (HS.out _).mono ?_
 rintro e w3 ⟨⟨A3,c3,rfl,hr3⟩,hb3⟩
 have HB3:=Lib.hid (bel_sub HB2.out hb3)
 replace HR2:=Lib.hid ((HR2.out.below hb3).more hb3.size)
 have HR3:=Lib.hid hr3
 clear hb3 hr3 HB2 HS
 go_wp2_with fail
 refine (sameShells_any A2 A3 m c2 c3 ss w3 (by omega) HR2.out HR3.out).mono ?_
 rintro e w4 ⟨rfl,hb4⟩
 have HB4:=Lib.hid (bel_sub HB3.out hb4)
 replace HR2:=Lib.hid ((HR2.out.below hb4).more hb4.size)
 clear hb4 HB3 HR3
 go_wp2_with fail
 have hzd:zn / 100≤1∧zn / 10 % 10≤9∧zn % 10≤9:=by omega
 have HDIG:=Lib.hid (dig_conv zn hzn)
 have HX5:=Lib.hid (Blk.new w4 5 #[.int .u8 (48+(zn:Int) / 100),.int .u8 (48+(zn:Int) / 10 % 10),.int .u8 (48+(zn:Int) % 10)])
 have HB5:=Lib.hid (bel_alloc HB4.out (.cells #[.int .u8 (48+(zn:Int) / 100),.int .u8 (48+(zn:Int) / 10 % 10),.int .u8 (48+(zn:Int) % 10)] 5))
 have HR5:=Lib.hid ((HR2.out.below (bel_alloc (Below.refl w4.heap.size w4) (.cells #[.int .u8 (48+(zn:Int) / 100),.int .u8 (48+(zn:Int) / 10 % 10),.int .u8 (48+(zn:Int) % 10)] 5))).more (bel_alloc (Below.refl w4.heap.size w4) (.cells #[.int .u8 (48+(zn:Int) / 100),.int .u8 (48+(zn:Int) / 10 % 10),.int .u8 (48+(zn:Int) % 10)] 5)).size)
 generalize w4.alloc (.cells #[.int .u8 (48+(zn:Int) / 100),.int .u8 (48+(zn:Int) / 10 % 10),.int .u8 (48+(zn:Int) % 10)] 5)=w5 at *
 generalize w4.heap.size=g at *
 clear HB4 HR2
 refine (ConfigText_any A2 m c2 ss w5 (by omega) HM.out HR5.out).mono ?_
 rintro e w6 ⟨rfl,hb6⟩
 have HB6:=Lib.hid (bel_sub HB5.out hb6)
 have HX6:=Lib.hid (HX5.out.sub hb6)
 have HR6:=Lib.hid ((HR5.out.below hb6).more hb6.size)
 clear hb6 HB5 HX5 HR5
 go_wp2_with fail
 refine (HundConfig_any A2 m c2 ss w6 (by omega) HM.out HR6.out).mono ?_
 rintro e w7 ⟨rfl,hb7⟩
 have HB7:=Lib.hid (bel_sub HB6.out hb7)
 have HX7:=Lib.hid (HX6.out.sub hb7)
 clear hb7 HB6 HX6 HR6
 have hmem:=hdC_mem ss
 obtain ⟨f1,f2,f3,f4,f5,f6⟩:=HCF.out
 have HEX:=Lib.hid (fun W (h:Tab W∧Mx W∧Er W)=>exec2 (groW++32 :: dig3 zn) (hunW++32 :: cfgT ss) (cfgT ss) _ W h.1 h.2.1 (by unfold groW dig3;simp) (by unfold hunW;simp;omega) (by have:=HD3.out.2.2;unfold groW;simp;exact this) (by unfold hunW;simp;exact f5) (by omega) (out_len (hdC ss) hmem) (HGL.out W) (HHL.out W h.2.2 h.2.1))
 have HT:=Lib.hid (fun W=>LevelText_any (hdC ss).1.1 (hdC ss).1.2 W hmem)
 obtain ⟨⟨⟨⟨t1,t2⟩,j⟩,fine⟩,hq⟩:∃q,hdC ss=q:=⟨_,rfl⟩
 rw [hq] at HEX HT hmem ⊢
 clear hq
 unfold lvV
 simp only at HEX HT hmem ⊢
 rw [show tmT (t1,t2)++spT j=l1T (t1,t2) j from rfl] at HT
 have hz1:(bs (cfgT ss)).size≤95:=by rw [bs_size];exact f3
 have hz2:(bs (dig3 zn)).size=3:=by rw [bs_size];rfl
 have hz3:(bs (l1T (t1,t2) j)).size≤100:=by rw [bs_size];have:=l1T_lenM hmem;omega
 have hcv:=fun W (hW:Blk W g 5 #[.int .u8 (48+(zn:Int) / 100),.int .u8 (48+(zn:Int) / 10 % 10),.int .u8 (48+(zn:Int) % 10)])=>HDIG.out W g hW
 have HCV:=Lib.hid hcv
 have hs1:bs ((groW++32 :: dig3 zn)++10 :: (hunW++32 :: cfgT ss)++[10])=(⟨#[103,114,111,117,110,100,32]⟩:ByteArray)++bs (dig3 zn)++⟨#[10,104,117,110,100,32]⟩++bs (cfgT ss)++⟨#[10]⟩:=by
  rw [show (groW++32 :: dig3 zn)++10 :: (hunW++32 :: cfgT ss)++[10]=[103,114,111,117,110,100,32]++dig3 zn++[10,104,117,110,100,32]++cfgT ss++[10] by unfold groW hunW;simp,←bs_append,←bs_append,←bs_append,←bs_append];rfl
 rw [hs1] at HEX
 have HX8:=Lib.hid (HX7.out.alloc (.cells #[.int .i64 t1,.int .i64 t2,.int .i64 j] 31))
 have HB8:=Lib.hid (bel_alloc HB7.out (.cells #[.int .i64 t1,.int .i64 t2,.int .i64 j] 31))
 have HL8:=Lib.hid (Blk.new w7 31 #[.int .i64 t1,.int .i64 t2,.int .i64 j])
 have hcv8:=HCV.out _ HX8.out
 have HEX8:=Lib.hid (HEX.out _ (HE.out _ HB8.out))
 clear hcv hs1 f1 f2 f3 f4 f5 f6 HEX HX7 HB7 hmem HGL HHL HCF HCV HDIG
 cases fine
 ·rw [show bs (outT [cfgT ss,if false=true then l1T (t1,t2) j else [110,111]] 2)=bs (cfgT ss)++(⟨#[10,110,111,10,108,105,110,101,115,32,50,10]⟩:ByteArray) from out2_no _ _] at HEX8
  generalize bs (cfgT ss)=Y at *
  generalize bs (dig3 zn)=D at *
  go_wp2_with fail
  refine HEX8.out.mono ?_
  rintro e w9 ⟨rfl,hb9⟩
  have HB9:=Lib.hid (bel_sub HB8.out hb9);clear hb9
  go_wp2_with fail
  go_ret
  exact ⟨ret_bool (by simp),HB9.out⟩
 ·rw [show bs (outT [cfgT ss,if true=true then l1T (t1,t2) j else [110,111]] 2)=bs (cfgT ss)++(⟨#[10]⟩:ByteArray)++bs (l1T (t1,t2) j)++⟨#[10,108,105,110,101,115,32,50,10]⟩ from out2_yes _ _] at HEX8
  generalize bs (cfgT ss)=Y at *
  generalize bs (dig3 zn)=D at *
  generalize bs (l1T (t1,t2) j)=T at *
  go_wp2_with fail
  refine HEX8.out.mono ?_
  rintro e w9 ⟨rfl,hb9⟩
  have HB9:=Lib.hid (bel_sub HB8.out hb9)
  obtain ⟨x1,x2,x3⟩:=Level3 (HL8.out.sub hb9)
  clear hb9
  go_wp2_with fail
  refine (HT.out _).mono ?_
  rintro e w10 ⟨rfl,hb10⟩
  have HB10:=Lib.hid (bel_sub HB9.out hb10);clear hb10
  go_wp2_with fail
  go_ret
  exact ⟨ret_bool (by simp),HB10.out⟩
end
section
open Go.ChangeShapes Go.WideShapes Go.ChangeAt Go.RowKit
theorem sent_trod2 {P:Program} {W:World} {g:Nat} {t:TypeId} {n nm:String} {cs:Array Value} {fuel:Nat} {d:DataW Unit} {p:List MemPlace} {ms:Array (String × TypeId)} {D:DataW Unit}
 (hg:P.globalNamed n=some g) (hv:W.var? P n=some cs) (hi:P.underlying t=some (.interface ms)) (hD:D=.iface nm d) (h:DataW.trod (fun _=>()) P W 0 (fun _=>true) false fuel t cs.toList=some (D,p)) :
 ∃te pe,W.cell? ⟨g,0,none⟩=some (.iface te pe):=by
 subst hD
 obtain ⟨_,u,v,e,_,_⟩:=iface_of_trod hi h
 have:=World.var?_cell hg hv 0
 obtain ⟨l⟩:=cs
 simp only at e
 subst e
 exact ⟨u,v,by simpa using this⟩
theorem er_of_laid9 {W:World} (h:laidMetH Tryz.prog laid9 W):Er W:=by
 rw [MakeChecks.laidMetH_plain _ _ _ (by kernel_rfl)] at h
 obtain ⟨ps,⟨g0,t0,cs0,f0,p0,q0,hg0,ht0,hv0,hd0,⟨g1,t1,cs1,f1,p1,q1,hg1,ht1,hv1,hd1,⟨g2,t2,cs2,f2,p2,q2,hg2,ht2,hv2,hd2,⟨g3,t3,cs3,f3,p3,q3,hg3,ht3,hv3,hd3,⟨g4,t4,cs4,f4,p4,q4,hg4,ht4,hv4,hd4,⟨g5,t5,cs5,f5,p5,q5,hg5,ht5,hv5,hd5,_,_⟩,_⟩,_⟩,_⟩,_⟩,_⟩,_,_⟩:=h
 obtain rfl := Option.some.inj ((show Tryz.prog.globalNamed "strconv.ErrRange" = some 9 by kernel_rfl).symm.trans hg4)
 obtain rfl:=Option.some.inj ((show (Tryz.prog.globals[9]?).map (·.type)=some 78 by kernel_rfl).symm.trans ht4)
 obtain rfl := Option.some.inj ((show Tryz.prog.globalNamed "strconv.ErrSyntax" = some 8 by kernel_rfl).symm.trans hg5)
 obtain rfl:=Option.some.inj ((show (Tryz.prog.globals[8]?).map (·.type)=some 78 by kernel_rfl).symm.trans ht5)
 exact ⟨sent_trod2 hg5 hv5 Tryz.underlying78 rfl hd5,sent_trod2 hg4 hv4 Tryz.underlying78 rfl hd4⟩
end
end
end Go.Proofs.YtlgdndnaiogooaaGreatDoor
