/- The drawn script. -/
import Derived.Test.YtcjebnffpbnljaaGreatDoorQ34
import Derived.Test.YtcjebnffpbnljaaGreatDoorQ37
namespace Go.Proofs.YtcjebnffpbnljaaGreatDoor
section
open Go.RowKit Go.Lib
attribute [local go_sem ↓] Go.wp_at_zero Go.wp_at_succ
def strs (ls:List (List UInt8)):Array Value:=(ls.map fun l=>Value.string (bs l)).toArray
theorem strs_at {ls:List (List UInt8)} {i:Nat} (h:i<ls.length):∃l,l∈ls∧(strs ls)[i]?=some (.string (bs l)) :=
 ⟨ls[i],List.getElem_mem h,by simp[strs,h]⟩
theorem szl (a:Array UInt8):(⟨a⟩:ByteArray).size=a.size:=rfl
def LinePost (T:TypeId) (w:World) (B R N:Nat) (e:Ending) (w':World):Prop :=
 ∃X:ByteArray,e=.returned (.string X)∧X.size≤400∧Rd T w' B R N∧w.grownBy w' (some R)
theorem of_any (B R N g n:Nat) (ls:List (List UInt8)) (w:World) (hN:N≤800000) (hn:ls.length=n) (h1:1≤n) (h2:n≤100) (hls:∀l∈ls,l.length≤100) (hR:Rd 46 w B R N) (hg:Blk w g 9 (strs ls)) (hgR:g≠R) :
 Calls Tryz.prog 25 #[.pointer (some ⟨R,0,none⟩),.slice (some ⟨g,0,none⟩) n n] w fun e w'=>∃X:ByteArray,e=.returned (.string X)∧X.size≤100∧Rd 46 w' B R (N+1)∧w.grownBy w' (some R):=by
 have HR:=kk hR;have HG:=kk hg;have HN:=kk hn
 clear hR hg hn
 go_enter Tryz.func25,Tryz.ntmps25
 go_wp2_with fail
 refine(pick_any B R N n _ (by omega) (by omega) (by omega) HR.out).mono ?_
 rintro e w1 ⟨v,rfl,hv1,hR1,hg1⟩
 have b1:=hv1.lt (by omega)
 have HR1:=kk hR1;have HG1:=kk hg1
 obtain⟨j,rfl⟩:∃j:Nat,v=j:=⟨v.toNat,by omega⟩
 obtain⟨l,hl,hat⟩:=strs_at (ls:=ls) (i:=j) (by have:=HN.out;omega)
 have hc:w1.cell? ⟨g,j,none⟩=some (.string (bs l)):=((HG.out.gb hg1 hgR).cell j).trans hat
 have HL:Hid ((bs l).size≤100):=by unfold Hid;rw[bs_size];exact hls l hl
 clear hl hat hR1 hg1 hv1 hls
 have i1:(0:Int)≤(j:Int):=by omega
 have i2:(j:Int)<(n:Int):=by omega
 generalize bs l=O at *
 go_wp2_with fail
 go_ret
 exact⟨O,rfl,HL.out,HR1.out,HG1.out⟩
set_option maxHeartbeats 1000000 in
theorem l6Many_any (w:World) :
 Calls Tryz.prog 16 #[.string ⟨#[103,114,111,117,110,100,32,49,10]⟩,.int .i64 70] w fun e w'=>∃X:ByteArray,e=.returned (.string X)∧X.size≤630∧Below w.heap.size w w':=by
 have HB0:=kk (Below.refl w.heap.size w)
 obtain⟨S0,hS0⟩:∃S:ByteArray,(⟨#[103,114,111,117,110,100,32,49,10]⟩:ByteArray)=S:=⟨_,rfl⟩
 have hs0:S0.size=9:=by rw[←hS0];rfl
 rw[hS0]
 clear hS0
 go_enter Tryz.func16,Tryz.ntmps16
 go_wp2_with fail
 go_loopw [0,1,5] (fun s n o wr=>∃(S O:ByteArray) (m:Nat),m≤70∧n=.int .i64 (m:Int)∧s=.string S∧o=.string O∧O.size+S.size*m≤630∧Hid (Below w.heap.size w wr)) (fun _ n _ _=>(RowKit.intOf n).toNat)
 case atStart=>exact⟨S0,ByteArray.empty,70,by omega,rfl,rfl,rfl,by rw[hs0];decide,HB0.out⟩
 case round =>
  clear HB0
  obtain⟨S,O,m,hm,rfl,rfl,rfl,hsz,HB⟩:=hrel
  by_cases hlt:0<m
  ·have hS:S.size≤630:=by
    have:=Nat.le_mul_of_pos_right S.size hlt
    omega
   have hO:O.size≤630:=by omega
   have i1:(0:Int)<(m:Int):=by omega
   rcases Nat.mod_two_eq_zero_or_one m with h2 | h2
   ·have e1:((m:Int).tmod 2==1)=false:=by rw[Int.tmod_eq_emod_of_nonneg (by omega)];rw[beq_eq_false_iff_ne];omega
    have e2:(m:Int).tdiv 2=((m / 2:Nat):Int):=by rw[Int.tdiv_eq_ediv_of_nonneg (by omega)];rfl
    have hq:O.size+(S++S).size*(m / 2)≤630:=by
     have:(S.size+S.size)*(m / 2)=S.size*m:=by
      rw[←Nat.two_mul,Nat.mul_comm 2,Nat.mul_assoc];congr 1;omega
     rw[ByteArray.size_append,this];exact hsz
    have HQ:=kk hq
    clear hsz hq
    go_wp2_with fail
    go_roundw
    case rel=>exact⟨S++S,O,m / 2,by omega,by go_num,rfl,rfl,HQ.out,HB.out⟩
    case measure=>simp[RowKit.intOf];omega
   ·have e1:((m:Int).tmod 2==1)=true:=by rw[Int.tmod_eq_emod_of_nonneg (by omega)];rw[beq_iff_eq];omega
    have e2:(m:Int).tdiv 2=((m / 2:Nat):Int):=by rw[Int.tdiv_eq_ediv_of_nonneg (by omega)];rfl
    have hq:(O++S).size+(S++S).size*(m / 2)≤630:=by
     have:(S.size+S.size)*(m / 2)+S.size=S.size*m:=by
      rw[←Nat.two_mul,Nat.mul_comm 2,Nat.mul_assoc,←Nat.mul_succ];congr 1;omega
     rw[ByteArray.size_append,ByteArray.size_append];omega
    have HQ:=kk hq
    clear hsz hq
    go_wp2_with fail
    go_roundw
    case rel=>exact⟨S++S,O++S,m / 2,by omega,by go_num,rfl,rfl,HQ.out,HB.out⟩
    case measure=>simp[RowKit.intOf];omega
  ·obtain rfl:m=0:=by omega
   go_wp2_with fail
   go_ret
   exact⟨O,rfl,by omega,HB.out⟩
set_option maxHeartbeats 8000000 in
set_option maxRecDepth 100000 in
theorem l93Line_any (B R N:Nat) (w:World) (hN:N≤500000) (hR:Rd 46 w B R N) :
 Calls Tryz.prog 15 #[.pointer (some ⟨R,0,none⟩)] w (LinePost 46 w B R (N+40)):=by
 have hlt:=hR.lt
 have hle:=hR.le
 have HR0:=kk hR;clear hR
 unfold LinePost
 go_enter Tryz.func15,Tryz.ntmps15
 go_wp2_with fail
 refine(pick_any B R N 9 _ (by omega) (by omega) (by omega) HR0.out).mono ?_
 rintro e w1 ⟨v,rfl,hv1,hR1,hg1⟩
 have b1:=hv1.lt (by omega)
 have HR1:=kk hR1
 have HG1:=kk hg1
 clear hR1 hg1 hv1 HR0
 by_cases c0:v=0
 ·subst c0
  go_wp2_with fail
  refine(pick_any B R _ 122 _ (by omega) (by omega) (by omega) HR1.out).mono ?_
  rintro e w2 ⟨z,rfl,hv2,hR2,hg2⟩
  have b2:=hv2.lt (by omega)
  have HR2:=kk hR2
  have HG2:=kk (gb_trans HG1.out hg2)
  clear hR2 hg2 hv2 HR1 HG1
  go_wp2_with fail
  refine(l6DecZ_any (z) (by omega) (by omega) _).mono ?_
  rintro e w3 ⟨rfl,hb3⟩
  have HR3:=kk (HR2.out.sub hb3 HR2.out.lt)
  have HG3:=kk (gb_base HG2.out (hb3.mono HG2.out.size))
  have zD:=itoa_len (n:=z) (by omega) (by omega)
  rw[←bs_size] at zD
  clear hb3 HR2 HG2
  generalize bs (Lib.itoa (z))=D at *
  go_wp2_with fail
  go_ret
  exact⟨_,rfl,by (try simp only[ByteArray.size_append,szl,List.size_toArray,List.length_cons,List.length_nil]);omega,HR3.out.more (by omega),HG3.out⟩
 have e0:(v==0)=false:=by simpa using c0
 clear c0
 by_cases c1:v=1
 ·subst c1
  have ls1:=HR1.out.lt
  have HK:=kk (show Blk (w1.alloc (.cells (strs [[116,101,114,109,115],[104,117,110,100]]) 9)) w1.heap.size 9 _ from Blk.new w1 _ _)
  replace HR1:=kk (HR1.out.alloc (.cells (strs [[116,101,114,109,115],[104,117,110,100]]) 9))
  replace HG1:=kk (gb_alloc HG1.out (.cells (strs [[116,101,114,109,115],[104,117,110,100]]) 9))
  go_wp2_with fail
  refine(of_any B R _ w1.heap.size 2 _ _ (by omega) rfl (by omega) (by omega) (by decide) HR1.out HK.out (by omega)).mono ?_
  rintro e w2 ⟨X,rfl,hzX,hR2,hg2⟩
  have HR2:=kk hR2
  have HG2:=kk (gb_trans HG1.out hg2)
  clear hR2 hg2 HR1 HG1
  clear HK
  go_wp2_with fail
  refine(l92Simple_any B R _ _ (by omega) HR2.out).mono ?_
  rintro e w3 ⟨A,c,ss,rfl,h4,hsm,hr,hR3,hg3⟩
  have HR3:=kk hR3
  have HG3:=kk (gb_trans HG2.out hg3)
  have HSM:=kk hsm
  have HRS:=kk hr
  clear hsm hr
  clear hR3 hg3 HR2 HG2
  have zc:(cfgT ss).length≤95:=by
   by_cases hcv:cvB ss=true
   ·exact(cfg_facts hcv (by omega)).2.2.1
   ·unfold cfgT;rw[if_neg hcv];simp
  go_wp2_with fail
  refine(specConfigText_any A ss.length c ss _ (by omega) rfl HSM.out HRS.out).mono ?_
  rintro e w4 ⟨rfl,hb4⟩
  have HR4:=kk (HR3.out.sub hb4 HR3.out.lt)
  have HG4:=kk (gb_base HG3.out (hb4.mono HG3.out.size))
  have zC:=zc
  rw[←bs_size] at zC
  clear hb4 HR3 HG3
  generalize bs (cfgT ss)=C at *
  go_wp2_with fail
  go_ret
  exact⟨_,rfl,by (try simp only[ByteArray.size_append,szl,List.size_toArray,List.length_cons,List.length_nil]);omega,HR4.out.more (by omega),HG4.out⟩
 have e1:(v==1)=false:=by simpa using c1
 clear c1
 by_cases c2:v=2
 ·subst c2
  go_wp2_with fail
  refine(l92Term_any B R _ _ (by omega) HR1.out).mono ?_
  rintro e w2 ⟨t,rfl,_,hR2,hg2⟩
  have HR2:=kk hR2
  have HG2:=kk (gb_trans HG1.out hg2)
  clear hR2 hg2 HR1 HG1
  have zt:(tmT t).length≤2:=by
   by_cases hcv:tvB t=true
   ·exact Nat.le_of_eq (tmT_len hcv)
   ·unfold tmT;rw[if_neg hcv];simp
  unfold trm
  go_wp2_with fail
  refine(specTermText_any t _).mono ?_
  rintro e w3 ⟨rfl,hb3⟩
  have HR3:=kk (HR2.out.sub hb3 HR2.out.lt)
  have HG3:=kk (gb_base HG2.out (hb3.mono HG2.out.size))
  have zC:=zt
  rw[←bs_size] at zC
  clear hb3 HR2 HG2
  generalize bs (tmT t)=C at *
  go_wp2_with fail
  go_ret
  exact⟨_,rfl,by (try simp only[ByteArray.size_append,szl,List.size_toArray,List.length_cons,List.length_nil]);omega,HR3.out.more (by omega),HG3.out⟩
 have e2:(v==2)=false:=by simpa using c2
 clear c2
 by_cases c3:v=3
 ·subst c3
  go_wp2_with fail
  refine(l92Level_any B R _ _ (by omega) HR1.out).mono ?_
  rintro e w2 ⟨a,b,c,rfl,_,hR2,hg2⟩
  have HR2:=kk hR2
  have HG2:=kk (gb_trans HG1.out hg2)
  clear hR2 hg2 HR1 HG1
  have zl:(if lvB (a,b) c=true then l1T (a,b) c else[]).length≤100:=by
   split
   ·rename_i h;exact l1T_lenM (lvB_mem.1 h)
   ·simp
  go_wp2_with fail
  refine(specLevelText_any (a,b) c _).mono ?_
  rintro e w3 ⟨rfl,hb3⟩
  have HR3:=kk (HR2.out.sub hb3 HR2.out.lt)
  have HG3:=kk (gb_base HG2.out (hb3.mono HG2.out.size))
  have zC:=zl
  rw[←bs_size] at zC
  clear hb3 HR2 HG2
  generalize bs (if lvB (a,b) c=true then l1T (a,b) c else[])=C at *
  go_wp2_with fail
  go_ret
  exact⟨_,rfl,by (try simp only[ByteArray.size_append,szl,List.size_toArray,List.length_cons,List.length_nil]);omega,HR3.out.more (by omega),HG3.out⟩
 have e3:(v==3)=false:=by simpa using c3
 clear c3
 by_cases c4:v=4
 ·subst c4
  go_wp2_with fail
  refine(pick_any B R _ 4 _ (by omega) (by omega) (by omega) HR1.out).mono ?_
  rintro e w2 ⟨x,rfl,hv2,hR2,hg2⟩
  have b2:=hv2.lt (by omega)
  have HR2:=kk hR2
  have HG2:=kk (gb_trans HG1.out hg2)
  clear hR2 hg2 hv2 HR1 HG1
  go_wp2_with fail
  refine(pick_any B R _ 4 _ (by omega) (by omega) (by omega) HR2.out).mono ?_
  rintro e w3 ⟨y,rfl,hv3,hR3,hg3⟩
  have b3:=hv3.lt (by omega)
  have HR3:=kk hR3
  have HG3:=kk (gb_trans HG2.out hg3)
  clear hR3 hg3 hv3 HR2 HG2
  go_wp2_with fail
  refine(l6DecZ_any (x) (by omega) (by omega) _).mono ?_
  rintro e w4 ⟨rfl,hb4⟩
  have HR4:=kk (HR3.out.sub hb4 HR3.out.lt)
  have HG4:=kk (gb_base HG3.out (hb4.mono HG3.out.size))
  have zD1:=itoa_len (n:=x) (by omega) (by omega)
  rw[←bs_size] at zD1
  clear hb4 HR3 HG3
  generalize bs (Lib.itoa (x))=D1 at *
  go_wp2_with fail
  refine(l6DecZ_any (y) (by omega) (by omega) _).mono ?_
  rintro e w5 ⟨rfl,hb5⟩
  have HR5:=kk (HR4.out.sub hb5 HR4.out.lt)
  have HG5:=kk (gb_base HG4.out (hb5.mono HG4.out.size))
  have zD2:=itoa_len (n:=y) (by omega) (by omega)
  rw[←bs_size] at zD2
  clear hb5 HR4 HG4
  generalize bs (Lib.itoa (y))=D2 at *
  go_wp2_with fail
  refine(l6DecZ_any (x+y) (by omega) (by omega) _).mono ?_
  rintro e w6 ⟨rfl,hb6⟩
  have HR6:=kk (HR5.out.sub hb6 HR5.out.lt)
  have HG6:=kk (gb_base HG5.out (hb6.mono HG5.out.size))
  have zD3:=itoa_len (n:=x+y) (by omega) (by omega)
  rw[←bs_size] at zD3
  clear hb6 HR5 HG5
  generalize bs (Lib.itoa (x+y))=D3 at *
  go_wp2_with fail
  refine(l6DecZ_any (-x) (by omega) (by omega) _).mono ?_
  rintro e w7 ⟨rfl,hb7⟩
  have HR7:=kk (HR6.out.sub hb7 HR6.out.lt)
  have HG7:=kk (gb_base HG6.out (hb7.mono HG6.out.size))
  have zD4:=itoa_len (n:=-x) (by omega) (by omega)
  rw[←bs_size] at zD4
  clear hb7 HR6 HG6
  generalize bs (Lib.itoa (-x))=D4 at *
  go_wp2_with fail
  refine(pick_any B R _ (y+1) _ (by omega) (by omega) (by omega) HR7.out).mono ?_
  rintro e w8 ⟨z,rfl,hv8,hR8,hg8⟩
  have b8:=hv8.lt (by omega)
  have HR8:=kk hR8
  have HG8:=kk (gb_trans HG7.out hg8)
  clear hR8 hg8 hv8 HR7 HG7
  go_wp2_with fail
  refine(l6DecZ_any (2*z-y) (by omega) (by omega) _).mono ?_
  rintro e w9 ⟨rfl,hb9⟩
  have HR9:=kk (HR8.out.sub hb9 HR8.out.lt)
  have HG9:=kk (gb_base HG8.out (hb9.mono HG8.out.size))
  have zD5:=itoa_len (n:=2*z-y) (by omega) (by omega)
  rw[←bs_size] at zD5
  clear hb9 HR8 HG8
  generalize bs (Lib.itoa (2*z-y))=D5 at *
  go_wp2_with fail
  go_ret
  exact⟨_,rfl,by (try simp only[ByteArray.size_append,szl,List.size_toArray,List.length_cons,List.length_nil]);omega,HR9.out.more (by omega),HG9.out⟩
 have e4:(v==4)=false:=by simpa using c4
 clear c4
 by_cases c5:v=5
 ·subst c5
  have ls1:=HR1.out.lt
  have HK:=kk (show Blk (w1.alloc (.cells (strs [[115,105,120,32,50,32,50,32,50,32,50,32,50,32,50],[115,105,120,32,49,32,49,32,50,32,49,32,49,32,50],[115,105,120,32,49,32,49,32,49,32,49,32,49,32,49],[115,105,120,32,50,32,50,32,48,32,50,32,50,32,120]]) 9)) w1.heap.size 9 _ from Blk.new w1 _ _)
  replace HR1:=kk (HR1.out.alloc (.cells (strs [[115,105,120,32,50,32,50,32,50,32,50,32,50,32,50],[115,105,120,32,49,32,49,32,50,32,49,32,49,32,50],[115,105,120,32,49,32,49,32,49,32,49,32,49,32,49],[115,105,120,32,50,32,50,32,48,32,50,32,50,32,120]]) 9))
  replace HG1:=kk (gb_alloc HG1.out (.cells (strs [[115,105,120,32,50,32,50,32,50,32,50,32,50,32,50],[115,105,120,32,49,32,49,32,50,32,49,32,49,32,50],[115,105,120,32,49,32,49,32,49,32,49,32,49,32,49],[115,105,120,32,50,32,50,32,48,32,50,32,50,32,120]]) 9))
  go_wp2_with fail
  refine(of_any B R _ w1.heap.size 4 _ _ (by omega) rfl (by omega) (by omega) (by decide) HR1.out HK.out (by omega)).mono ?_
  rintro e w2 ⟨X,rfl,hzX,hR2,hg2⟩
  have HR2:=kk hR2
  have HG2:=kk (gb_trans HG1.out hg2)
  clear hR2 hg2 HR1 HG1
  clear HK
  go_wp2_with fail
  go_ret
  exact⟨_,rfl,by (try simp only[ByteArray.size_append,szl,List.size_toArray,List.length_cons,List.length_nil]);omega,HR2.out.more (by omega),HG2.out⟩
 have e5:(v==5)=false:=by simpa using c5
 clear c5
 by_cases c6:v=6
 ·subst c6
  go_wp2_with fail
  refine(l92Split_any B R _ _ (by omega) HR1.out).mono ?_
  rintro e w2 ⟨a,b,c,a',b',c',rfl,_,hR2,hg2⟩
  have HR2:=kk hR2
  have HG2:=kk (gb_trans HG1.out hg2)
  clear hR2 hg2 HR1 HG1
  have zl1:(if lvB (a,b) c=true then l1T (a,b) c else[]).length≤100:=by
   split
   ·rename_i h;exact l1T_lenM (lvB_mem.1 h)
   ·simp
  have zl2:(if lvB (a',b') c'=true then l1T (a',b') c' else[]).length≤100:=by
   split
   ·rename_i h;exact l1T_lenM (lvB_mem.1 h)
   ·simp
  rw[←bs_size] at zl1 zl2
  have HT1:=kk (fun W=>specLevelText_any (a,b) c W)
  have HT2:=kk (fun W=>specLevelText_any (a',b') c' W)
  have HX:=kk ((Blk.new w2 56 #[.int .i64 a,.int .i64 b,.int .i64 c]).alloc (.cells #[.int .i64 a',.int .i64 b',.int .i64 c'] 56))
  have HY:=kk (Blk.new (w2.alloc (.cells #[.int .i64 a,.int .i64 b,.int .i64 c] 56)) 56 #[.int .i64 a',.int .i64 b',.int .i64 c'])
  rw[World.size_alloc] at HY
  replace HR2:=kk ((HR2.out.alloc (.cells #[.int .i64 a,.int .i64 b,.int .i64 c] 56)).alloc (.cells #[.int .i64 a',.int .i64 b',.int .i64 c'] 56))
  replace HG2:=kk (gb_alloc (gb_alloc HG2.out (.cells #[.int .i64 a,.int .i64 b,.int .i64 c] 56)) (.cells #[.int .i64 a',.int .i64 b',.int .i64 c'] 56))
  generalize bs (if lvB (a,b) c=true then l1T (a,b) c else[])=C1 at *
  generalize bs (if lvB (a',b') c'=true then l1T (a',b') c' else[])=C2 at *
  obtain⟨x1,x2,x3⟩:=Level3 HX.out
  obtain⟨y1,y2,y3⟩:=Level3 HY.out
  have k1:=After.cell x1
  have k2:=After.cell x2
  have k3:=After.cell x3
  have k4:=After.cell y1
  have k5:=After.cell y2
  have k6:=After.cell y3
  go_wp2_with fail
  refine wp_region_after (by kernel_rfl) (by kernel_rfl) ?_
  repeat (go_big_quiet_step ((go_at_call 30;first | (with_reducible exact after_call _ (HT1.out _)) | (with_reducible exact after_call _ (HT2.out _)))))
  refine wpQuiet_nil ?_
  intro w9 hw'
  obtain⟨⟨w9',hb9⟩,hw''⟩:=hw'
  subst hw''
  have HR9:=kk (HR2.out.below hb9)
  have HG9:=kk (gb_base HG2.out (hb9.mono HG2.out.size))
  clear hb9 k1 k2 k3 k4 k5 k6 x1 x2 x3 y1 y2 y3 HT1 HT2
  go_wp2_with fail
  go_ret
  exact⟨_,rfl,by (try simp only[ByteArray.size_append,szl,List.size_toArray,List.length_cons,List.length_nil]);omega,HR9.out.more (by omega),HG9.out⟩
 have e6:(v==6)=false:=by simpa using c6
 clear c6
 by_cases c7:v=7
 ·subst c7
  have ls1:=HR1.out.lt
  have HK:=kk (show Blk (w1.alloc (.cells (strs [[],[122,122,122],[103,114,111,117,110,100],[103,114,111,117,110,100,32,48,48,55],[116,101,114,109,115],[102,97,99,116,111,114,32,49,83,48],[108,101,118,101,108,115],[99,108,101,98,115,99,104,32,49,32,49,32,50,32,49],[115,112,108,105,116,32,50,80,49,47,50],[104,117,110,100,32,50,112,51,32,51,112,49]]) 9)) w1.heap.size 9 _ from Blk.new w1 _ _)
  replace HR1:=kk (HR1.out.alloc (.cells (strs [[],[122,122,122],[103,114,111,117,110,100],[103,114,111,117,110,100,32,48,48,55],[116,101,114,109,115],[102,97,99,116,111,114,32,49,83,48],[108,101,118,101,108,115],[99,108,101,98,115,99,104,32,49,32,49,32,50,32,49],[115,112,108,105,116,32,50,80,49,47,50],[104,117,110,100,32,50,112,51,32,51,112,49]]) 9))
  replace HG1:=kk (gb_alloc HG1.out (.cells (strs [[],[122,122,122],[103,114,111,117,110,100],[103,114,111,117,110,100,32,48,48,55],[116,101,114,109,115],[102,97,99,116,111,114,32,49,83,48],[108,101,118,101,108,115],[99,108,101,98,115,99,104,32,49,32,49,32,50,32,49],[115,112,108,105,116,32,50,80,49,47,50],[104,117,110,100,32,50,112,51,32,51,112,49]]) 9))
  go_wp2_with fail
  refine(of_any B R _ w1.heap.size 10 _ _ (by omega) rfl (by omega) (by omega) (by decide) HR1.out HK.out (by omega)).mono ?_
  rintro e w2 ⟨X,rfl,hzX,hR2,hg2⟩
  have HR2:=kk hR2
  have HG2:=kk (gb_trans HG1.out hg2)
  clear hR2 hg2 HR1 HG1
  clear HK
  go_wp2_with fail
  go_ret
  exact⟨_,rfl,by (try simp only[ByteArray.size_append,szl,List.size_toArray,List.length_cons,List.length_nil]);omega,HR2.out.more (by omega),HG2.out⟩
 have e7:(v==7)=false:=by simpa using c7
 clear c7
 have ls1:=HR1.out.lt
 have HK:=kk (show Blk (w1.alloc (.cells (strs [[115,112,108,105,116,32,50,80,51,47,50,32,50,83,49,47,50],[104,117,110,100,32,49,115,50,32,50,112,52],[116,101,114,109,115,32,50,112,50],[102,97,99,116,111,114,32,50,68,53,47,50]]) 9)) w1.heap.size 9 _ from Blk.new w1 _ _)
 replace HR1:=kk (HR1.out.alloc (.cells (strs [[115,112,108,105,116,32,50,80,51,47,50,32,50,83,49,47,50],[104,117,110,100,32,49,115,50,32,50,112,52],[116,101,114,109,115,32,50,112,50],[102,97,99,116,111,114,32,50,68,53,47,50]]) 9))
 replace HG1:=kk (gb_alloc HG1.out (.cells (strs [[115,112,108,105,116,32,50,80,51,47,50,32,50,83,49,47,50],[104,117,110,100,32,49,115,50,32,50,112,52],[116,101,114,109,115,32,50,112,50],[102,97,99,116,111,114,32,50,68,53,47,50]]) 9))
 go_wp2_with fail
 refine(of_any B R _ w1.heap.size 4 _ _ (by omega) rfl (by omega) (by omega) (by decide) HR1.out HK.out (by omega)).mono ?_
 rintro e w2 ⟨X,rfl,hzX,hR2,hg2⟩
 have HR2:=kk hR2
 have HG2:=kk (gb_trans HG1.out hg2)
 clear hR2 hg2 HR1 HG1
 clear HK
 go_wp2_with fail
 go_ret
 exact⟨_,rfl,by (try simp only[ByteArray.size_append,szl,List.size_toArray,List.length_cons,List.length_nil]);omega,HR2.out.more (by omega),HG2.out⟩
set_option maxHeartbeats 4000000 in
theorem DrawExecute_any (A:Option Addr) (n c:Nat) (w:World) (hm:n≤140737488355328) (hc:n≤c) (hb:Bytes w w.heap.size A n) :
 Calls Tryz.prog 8 #[.slice A n c] w fun e w'=>∃X:ByteArray,e=.returned (.string X)∧X.size≤10000∧Below w.heap.size w w':=by
 have HB:=kk hb;clear hb
 have HMA:=kk (fun W=>l6Many_any W)
 go_enter Tryz.func8,Tryz.ntmps8
 go_wp2_with fail
 refine(l6Open_any A n c w hm hc HB.out).mono ?_
 rintro e w1 ⟨rfl,hR1,hb1⟩
 have HB1:=kk hb1;have HR1:=kk hR1;clear hb1 hR1 HB
 go_wp2_with fail
 refine(pick_any w.heap.size w.heap.size _ 7 _ (by omega) (by omega) (by omega) HR1.out).mono ?_
 rintro e w2 ⟨v,rfl,hv2,hR2,hg2⟩
 have b2:=hv2.lt (by omega)
 have HB2:=kk (below_of_gb HB1.out hg2 HB1.out.size (Nat.le_refl _))
 have HR2:=kk hR2
 clear hg2 hR2 hv2 HB1 HR1
 obtain⟨k0,rfl⟩:∃k:Nat,v=k:=⟨v.toNat,by omega⟩
 go_wp2_with fail
 go_loopw [4,6] (fun s i wr=>∃(S:ByteArray) (k:Nat),k≤k0∧i=.int .i64 (k:Int)∧s=.string S∧S.size≤401*k∧Hid (Rd 46 wr w.heap.size w.heap.size (1+40*k))∧Hid (Below w.heap.size w wr)) (fun _ i _=>k0-(RowKit.intOf i).toNat)
 case atStart=>exact⟨ByteArray.empty,0,by omega,rfl,rfl,by decide,HR2.out.more (by omega),HB2.out⟩
 case round =>
  clear HB2 HR2
  obtain⟨S,k,hk,rfl,rfl,hS,HR,HB⟩:=hrel
  by_cases hlt:k<k0
  ·have i1:(k:Int)<(k0:Int):=by omega
   go_wp2_with fail
   refine(l93Line_any w.heap.size w.heap.size _ _ (by omega) HR.out).mono ?_
   rintro e w3 ⟨X,rfl,hX,hR3,hg3⟩
   have HB3:=kk (below_of_gb HB.out hg3 HB.out.size (Nat.le_refl _))
   have HR3:=kk hR3
   clear hR3 hg3 HB HR
   go_wp2_with fail
   go_roundw
   case rel=>exact⟨S++X++⟨#[10]⟩,k+1,by omega,by go_num,rfl,by simp only[ByteArray.size_append,szl,List.size_toArray,List.length_cons,List.length_nil];omega,HR3.out.more (by omega),HB3.out⟩
   case measure=>simp[RowKit.intOf];omega
  ·obtain rfl:k=k0:=by omega
   go_wp2_with fail
   refine(pick_any w.heap.size w.heap.size _ 24 _ (by omega) (by omega) (by omega) HR.out).mono ?_
   rintro e w4 ⟨v,rfl,hv4,_,hg4⟩
   have b4:=hv4.lt (by omega)
   have HB4:=kk (below_of_gb HB.out hg4 HB.out.size (Nat.le_refl _))
   clear hg4 hv4 HB HR
   by_cases h0:v=0
   ·subst h0
    go_wp2_with fail
    go_ret
    exact⟨_,rfl,by simp only[ByteArray.size_append,szl,List.size_toArray,List.length_cons,List.length_nil];omega,HB4.out⟩
   have e0:(v==0)=false:=by simpa using h0
   by_cases h1:v=1
   ·subst h1
    go_wp2_with fail
    refine(HMA.out _).mono ?_
    rintro e w5 ⟨X,rfl,hX,hb5⟩
    have HB5:=kk (bel_sub HB4.out hb5);clear hb5
    go_wp2_with fail
    go_ret
    exact⟨_,rfl,by simp only[ByteArray.size_append];omega,HB5.out⟩
   have e1:(v==1)=false:=by simpa using h1
   go_wp2_with fail
   go_ret
   exact⟨S,rfl,by omega,HB4.out⟩
end
end Go.Proofs.YtcjebnffpbnljaaGreatDoor