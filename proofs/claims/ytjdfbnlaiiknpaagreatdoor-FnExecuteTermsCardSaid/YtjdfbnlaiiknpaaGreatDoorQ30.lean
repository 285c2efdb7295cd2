/- Parts of the proof of : Sx4. -/
import Derived.Test.YtjdfbnlaiiknpaaGreatDoorQ29
set_option maxHeartbeats 20000000
set_option maxRecDepth 1000000
set_option linter.unusedSimpArgs false
set_option linter.unusedVariables false
namespace Go.Proofs.YtjdfbnlaiiknpaaGreatDoor
section
open Go.RowKit
attribute [local go_sem ↓] Go.wp_at_zero Go.wp_at_succ
theorem divL_snoc:∀(gs:List Nat) (x g:Nat),divL x (gs++[g])=divL x gs / fac g
 | [],x,g=>rfl
 | h :: gs,x,g=>by show divL (x / fac h) (gs++[g])=_;rw [divL_snoc gs];rfl
theorem divL_step {gs:List Nat} {x k:Nat} {g:Nat} (h:gs[k]?=some g):divL x (gs.take (k+1))=divL x (gs.take k) / fac g:=by
 rw [List.take_add_one,h];exact divL_snoc _ _ _
def lowK (a b c d e f:Nat):Nat→Nat
 | 0=>0
 | 1=>max 0 ((a+b+c) / 2)
 | 2=>max (max 0 ((a+b+c) / 2)) ((a+e+f) / 2)
 | 3=>max (max (max 0 ((a+b+c) / 2)) ((a+e+f) / 2)) ((d+b+f) / 2)
 | _=>sxLow a b c d e f
theorem sum_any (a b c d e f:Nat) (w:World) (h:sxE a b c d e f) :
 Calls Tryz.prog 205 #[.agg #[.int .i64 (a:Int),.int .i64 (b:Int),.int .i64 (c:Int),.int .i64 (d:Int),.int .i64 (e:Int),.int .i64 (f:Int)]] w fun en w'=>en=.returned (.int .i64 (sxSum a b c d e f 13))∧Below w.heap.size w w':=by
 have HT:=Lib.hid (fun W=>triads_any (a:Int) (b:Int) (c:Int) (d:Int) (e:Int) (f:Int) W)
 have HB0:=Lib.hid (bel_alloc (Below.refl w.heap.size w) (.cells #[.int .i64 (a:Int),.int .i64 (b:Int),.int .i64 (c:Int),.int .i64 (d:Int),.int .i64 (e:Int),.int .i64 (f:Int)] 198))
 have HX0:=Lib.hid (Blk.new w 198 #[.int .i64 (a:Int),.int .i64 (b:Int),.int .i64 (c:Int),.int .i64 (d:Int),.int .i64 (e:Int),.int .i64 (f:Int)])
 obtain ⟨q1,q2,q3,q4,q5,q6,q7⟩:=sx_halves h
 have hlow:=sxLow_9 h
 have hhi:=sxHi_12 h
 have HBD:=Lib.hid (fun t=>sxTm_bd h t)
 have HSB:=Lib.hid (fun t=>sxSum_bd h t)
 have HLK:Hid (∀k,lowK a b c d e f k≤9):=fun k=>by
  have h1:=(sxLow_iff (a:=a) (b:=b) (c:=c) (d:=d) (e:=e) (f:=f)).1 (Nat.le_refl _)
  unfold lowK;split <;> omega
 have hle:=h.1
 go_enter Tryz.func205,Tryz.ntmps205
 go_wp2_with fail
 refine (HT.out _).mono ?_
 rintro en w1 ⟨rfl,hb1⟩
 have HB1:=Lib.hid (bel_sub HB0.out hb1)
 have HX1:=Lib.hid (HX0.out.sub hb1)
 clear hb1 HB0 HX0
 go_wp2_with fail
 go_loopw [3,16] (fun v i wr=>∃(k:Nat),k≤4∧i=.int .i64 (k:Int)∧v=.int .i64 ((lowK a b c d e f k:Nat):Int)∧Hid (Blk wr w.heap.size 198 #[.int .i64 (a:Int),.int .i64 (b:Int),.int .i64 (c:Int),.int .i64 (d:Int),.int .i64 (e:Int),.int .i64 (f:Int)])∧Hid (Below w.heap.size w wr)) (fun _ i _=>4-(RowKit.intOf i).toNat)
 case atStart=>exact ⟨0,by omega,rfl,rfl,HX1.out,HB1.out⟩
 case round =>
  clear HB1 HX1
  obtain ⟨k,hk,rfl,rfl,HX,HB⟩:=hrel
  have hk5:k=0∨k=1∨k=2∨k=3∨k=4:=by omega
  clear hk
  have hlk:=HLK.out k
  rcases hk5 with rfl | rfl | rfl | rfl | rfl
  ·have HB2:=Lib.hid (bel_alloc HB.out (.cells #[.int .i64 (a:Int),.int .i64 (b:Int),.int .i64 (c:Int)] 201))
   have HX2:=Lib.hid (HX.out.alloc (.cells #[.int .i64 (a:Int),.int .i64 (b:Int),.int .i64 (c:Int)] 201))
   obtain ⟨y1,y2,y3,_,_,_⟩:=blk3 (Blk.new wr 201 #[.int .i64 (a:Int),.int .i64 (b:Int),.int .i64 (c:Int)])
   have hix:=ix4_0 (.int .i64 (a:Int)) (.int .i64 (b:Int)) (.int .i64 (c:Int)) (.int .i64 (a:Int)) (.int .i64 (e:Int)) (.int .i64 (f:Int)) (.int .i64 (d:Int)) (.int .i64 (b:Int)) (.int .i64 (f:Int)) (.int .i64 (d:Int)) (.int .i64 (e:Int)) (.int .i64 (c:Int))
   obtain ⟨s,hs⟩:∃s,(a+b+c) / 2=s:=⟨_,rfl⟩
   have e1:(a:Int)+(b:Int)+(c:Int)=2*(s:Int):=by omega
   have u1:=td2 s
   obtain ⟨r,hr⟩:∃r,lowK a b c d e f 0=r:=⟨_,rfl⟩
   have HNX:Hid (lowK a b c d e f 1=max r s):=by rw [←hs,←hr];rfl
   rw [hr] at hlk ⊢
   clear hr hs
   go_wp2_with fail
   go_roundw
   case rel =>
    refine ⟨1,by omega,rfl,?_,HX2.out,HB2.out⟩
    rw [HNX.out]
    exact congrArg _ (by omega)
   case measure=>simp [RowKit.intOf]
  ·have HB2:=Lib.hid (bel_alloc HB.out (.cells #[.int .i64 (a:Int),.int .i64 (e:Int),.int .i64 (f:Int)] 201))
   have HX2:=Lib.hid (HX.out.alloc (.cells #[.int .i64 (a:Int),.int .i64 (e:Int),.int .i64 (f:Int)] 201))
   obtain ⟨y1,y2,y3,_,_,_⟩:=blk3 (Blk.new wr 201 #[.int .i64 (a:Int),.int .i64 (e:Int),.int .i64 (f:Int)])
   have hix:=ix4_1 (.int .i64 (a:Int)) (.int .i64 (b:Int)) (.int .i64 (c:Int)) (.int .i64 (a:Int)) (.int .i64 (e:Int)) (.int .i64 (f:Int)) (.int .i64 (d:Int)) (.int .i64 (b:Int)) (.int .i64 (f:Int)) (.int .i64 (d:Int)) (.int .i64 (e:Int)) (.int .i64 (c:Int))
   obtain ⟨s,hs⟩:∃s,(a+e+f) / 2=s:=⟨_,rfl⟩
   have e1:(a:Int)+(e:Int)+(f:Int)=2*(s:Int):=by omega
   have u1:=td2 s
   obtain ⟨r,hr⟩:∃r,lowK a b c d e f 1=r:=⟨_,rfl⟩
   have HNX:Hid (lowK a b c d e f 2=max r s):=by rw [←hs,←hr];rfl
   rw [hr] at hlk ⊢
   clear hr hs
   go_wp2_with fail
   go_roundw
   case rel =>
    refine ⟨2,by omega,rfl,?_,HX2.out,HB2.out⟩
    rw [HNX.out]
    exact congrArg _ (by omega)
   case measure=>simp [RowKit.intOf]
  ·have HB2:=Lib.hid (bel_alloc HB.out (.cells #[.int .i64 (d:Int),.int .i64 (b:Int),.int .i64 (f:Int)] 201))
   have HX2:=Lib.hid (HX.out.alloc (.cells #[.int .i64 (d:Int),.int .i64 (b:Int),.int .i64 (f:Int)] 201))
   obtain ⟨y1,y2,y3,_,_,_⟩:=blk3 (Blk.new wr 201 #[.int .i64 (d:Int),.int .i64 (b:Int),.int .i64 (f:Int)])
   have hix:=ix4_2 (.int .i64 (a:Int)) (.int .i64 (b:Int)) (.int .i64 (c:Int)) (.int .i64 (a:Int)) (.int .i64 (e:Int)) (.int .i64 (f:Int)) (.int .i64 (d:Int)) (.int .i64 (b:Int)) (.int .i64 (f:Int)) (.int .i64 (d:Int)) (.int .i64 (e:Int)) (.int .i64 (c:Int))
   obtain ⟨s,hs⟩:∃s,(d+b+f) / 2=s:=⟨_,rfl⟩
   have e1:(d:Int)+(b:Int)+(f:Int)=2*(s:Int):=by omega
   have u1:=td2 s
   obtain ⟨r,hr⟩:∃r,lowK a b c d e f 2=r:=⟨_,rfl⟩
   have HNX:Hid (lowK a b c d e f 3=max r s):=by rw [←hs,←hr];rfl
   rw [hr] at hlk ⊢
   clear hr hs
   go_wp2_with fail
   go_roundw
   case rel =>
    refine ⟨3,by omega,rfl,?_,HX2.out,HB2.out⟩
    rw [HNX.out]
    exact congrArg _ (by omega)
   case measure=>simp [RowKit.intOf]
  ·have HB2:=Lib.hid (bel_alloc HB.out (.cells #[.int .i64 (d:Int),.int .i64 (e:Int),.int .i64 (c:Int)] 201))
   have HX2:=Lib.hid (HX.out.alloc (.cells #[.int .i64 (d:Int),.int .i64 (e:Int),.int .i64 (c:Int)] 201))
   obtain ⟨y1,y2,y3,_,_,_⟩:=blk3 (Blk.new wr 201 #[.int .i64 (d:Int),.int .i64 (e:Int),.int .i64 (c:Int)])
   have hix:=ix4_3 (.int .i64 (a:Int)) (.int .i64 (b:Int)) (.int .i64 (c:Int)) (.int .i64 (a:Int)) (.int .i64 (e:Int)) (.int .i64 (f:Int)) (.int .i64 (d:Int)) (.int .i64 (b:Int)) (.int .i64 (f:Int)) (.int .i64 (d:Int)) (.int .i64 (e:Int)) (.int .i64 (c:Int))
   obtain ⟨s,hs⟩:∃s,(d+e+c) / 2=s:=⟨_,rfl⟩
   have e1:(d:Int)+(e:Int)+(c:Int)=2*(s:Int):=by omega
   have u1:=td2 s
   obtain ⟨r,hr⟩:∃r,lowK a b c d e f 3=r:=⟨_,rfl⟩
   have HNX:Hid (lowK a b c d e f 4=max r s):=by rw [←hs,←hr];rfl
   rw [hr] at hlk ⊢
   clear hr hs
   go_wp2_with fail
   go_roundw
   case rel =>
    refine ⟨4,by omega,rfl,?_,HX2.out,HB2.out⟩
    rw [HNX.out]
    exact congrArg _ (by omega)
   case measure=>simp [RowKit.intOf]
  ·have HLO:Hid (sxSum a b c d e f (sxLow a b c d e f)=0):=sxSum_low a b c d e f _ (Nat.le_refl _)
   obtain ⟨p0,hp0⟩:∃s,(a+b+d+e) / 2=s:=⟨_,rfl⟩
   obtain ⟨p1,hp1⟩:∃s,(b+c+e+f) / 2=s:=⟨_,rfl⟩
   obtain ⟨p2,hp2⟩:∃s,(a+c+d+f) / 2=s:=⟨_,rfl⟩
   have hmn:(if (p2:Int)<(if p1<p0 then (p1:Int) else (p0:Int)) then (p2:Int) else (if p1<p0 then (p1:Int) else (p0:Int)))=((sxHi a b c d e f:Nat):Int):=by
    unfold sxHi
    rw [hp0,hp1,hp2]
    (repeat' split) <;> omega
   have HMN:=Lib.hid hmn;clear hmn
   have HIF:Hid (∀t,t≤sxHi a b c d e f↔t≤p0∧t≤p1∧t≤p2):=fun t=>by rw [sxHi_iff,hp0,hp1,hp2]
   have HLF:Hid (∀t,sxLow a b c d e f≤t↔(a+b+c) / 2≤t∧(a+e+f) / 2≤t∧(d+b+f) / 2≤t∧(d+e+c) / 2≤t):=fun t=>sxLow_iff
   have hp12:p0≤12∧p1≤12∧p2≤12:=by omega
   have e5:(a:Int)+(b:Int)+(d:Int)+(e:Int)=2*(p0:Int):=by omega
   have e6:(b:Int)+(c:Int)+(e:Int)+(f:Int)=2*(p1:Int):=by omega
   have e7:(a:Int)+(c:Int)+(d:Int)+(f:Int)=2*(p2:Int):=by omega
   have u5:=td2 p0
   have u6:=td2 p1
   have u7:=td2 p2
   have HSN:Hid (∀q,(sxN a b c d e f q)[4]?=some (p0-q)∧(sxN a b c d e f q)[5]?=some (p1-q)∧(sxN a b c d e f q)[6]?=some (p2-q)):=fun q=>by rw [←hp0,←hp1,←hp2];exact ⟨rfl,rfl,rfl⟩
   have HX2:=Lib.hid (HX.out.alloc (.cells #[.int .i64 (p0:Int),.int .i64 (p1:Int),.int .i64 (p2:Int)] 234))
   have HP2:=Lib.hid (Blk.new wr 234 #[.int .i64 (p0:Int),.int .i64 (p1:Int),.int .i64 (p2:Int)])
   have HB2:=Lib.hid (bel_alloc HB.out (.cells #[.int .i64 (p0:Int),.int .i64 (p1:Int),.int .i64 (p2:Int)] 234))
   obtain ⟨⟨x0,x1,x2⟩,x3,x4,x5⟩:=blk6 HX.out
   obtain ⟨P,hP⟩:∃P,wr.heap.size=P:=⟨_,rfl⟩
   rw [hP] at HP2
   obtain ⟨lo,hlo⟩:∃lo,sxLow a b c d e f=lo:=⟨_,rfl⟩
   have hlk4:lowK a b c d e f 4=lo:=hlo
   rw [hlk4]
   rw [hlo] at HLO HLF hlow
   have HLOE:=Lib.hid hlo
   clear hlo hlk4 hlk HX HB hp0 hp1 hp2
   obtain ⟨wm,rfl⟩:∃wm:World,wm=wr:=⟨_,rfl⟩
   go_wp2_with fail
   try rw [hP]
   clear hP e5 e6 e7 u5 u6 u7 x0 x1 x2 x3 x4 x5
   go_loopw [7,8] (fun tot t wr=>∃(q:Nat),lo≤q∧q≤13∧t=.int .i64 (q:Int)∧tot=.int .i64 (sxSum a b c d e f q)∧Hid (Blk wr w.heap.size 198 #[.int .i64 (a:Int),.int .i64 (b:Int),.int .i64 (c:Int),.int .i64 (d:Int),.int .i64 (e:Int),.int .i64 (f:Int)])∧Hid (Blk wr P 234 #[.int .i64 (p0:Int),.int .i64 (p1:Int),.int .i64 (p2:Int)])∧Hid (Below w.heap.size w wr)) (fun _ t _=>14-(RowKit.intOf t).toNat)
   case atStart=>exact ⟨lo,Nat.le_refl _,by omega,rfl,by rw [HLO.out],HX2.out,HP2.out,HB2.out⟩
   case round =>
    clear HX2 HP2 HB2
    obtain ⟨q,hq1,hq2,rfl,rfl,HX,HP,HB⟩:=hrel
    obtain ⟨z0,z1,z2,_,_,_⟩:=blk3 HP.out
    have hPl:=HP.out.lt
    have hmn:=HMN.out
    by_cases hq:q≤sxHi a b c d e f
    ·have hqp:=(HIF.out q).1 hq
     have hqs:=(HLF.out q).1 hq1
     have hq12:q≤12:=by omega
     obtain ⟨hqa,hqb,hqc⟩:=hqp
     have hia:(q:Int)≤(p0:Int):=by omega
     have hib:(q:Int)≤(p1:Int):=by omega
     have hic:(q:Int)≤(p2:Int):=by omega
     have hmin:(q:Int)≤((sxHi a b c d e f:Nat):Int):=by omega
     have HF:=Lib.hid (fun W=>factorial_any (q+1) W (by omega))
     rw [show ((q+1:Nat):Int)=(q:Int)+1 by omega] at HF
     have hf1:=fac_13 (n:=q+1) (by omega)
     have HD0:Hid (fac (q+1)=divL (fac (q+1)) ((sxN a b c d e f q).take 0)):=rfl
     have HTE:Hid (((divL (fac (q+1)) ((sxN a b c d e f q).take 7):Nat):Int)=sxTm a b c d e f q):=by
      unfold Hid
      rw [show (sxN a b c d e f q).take 7=sxN a b c d e f q from rfl,divL_ways (sxN_sum h (by rw [HLOE.out];exact hq1) hq)]
      unfold sxTm
      rw [if_pos ⟨by rw [HLOE.out];exact hq1,hq⟩]
     have HDL:Hid (∀gs,divL (fac (q+1)) gs≤6227020800):=fun gs=>Nat.le_trans (divL_le gs _) hf1
     have HSTEP:=Lib.hid (fun k g (hg:(sxN a b c d e f q)[k]?=some g)=>divL_step (x:=fac (q+1)) hg)
     obtain ⟨F1,hF1⟩:∃F,fac (q+1)=F:=⟨_,rfl⟩
     rw [hF1] at HF HD0 HTE HDL HSTEP hf1
     clear hF1
     obtain ⟨wn,rfl⟩:∃wn:World,wn=wr:=⟨_,rfl⟩
     obtain ⟨⟨x0,x1,x2⟩,x3,x4,x5⟩:=blk6 HX.out
     go_wp2_with fail
     refine (HF.out _).mono ?_
     rintro en w' ⟨rfl,rfl⟩
     go_wp2_with fail
     refine (HT.out _).mono ?_
     rintro en w3 ⟨rfl,hb3⟩
     clear x0 x1 x2 x3 x4 x5
     have HB3:=Lib.hid (bel_sub HB.out hb3)
     have HX3:=Lib.hid (HX.out.sub hb3)
     have HP3:=Lib.hid (HP.out.sub hb3)
     clear hb3 HB HX HP z0 z1 z2 hPl hmin hia hib hic hmn
     go_wp2_with fail
     go_loopw [9,85] (fun tm i wr=>∃(k x:Nat),k≤4∧i=.int .i64 (k:Int)∧tm=.int .i64 (x:Int)∧Hid (x=divL F1 ((sxN a b c d e f q).take k))∧Hid (Blk wr w.heap.size 198 #[.int .i64 (a:Int),.int .i64 (b:Int),.int .i64 (c:Int),.int .i64 (d:Int),.int .i64 (e:Int),.int .i64 (f:Int)])∧Hid (Blk wr P 234 #[.int .i64 (p0:Int),.int .i64 (p1:Int),.int .i64 (p2:Int)])∧Hid (Below w.heap.size w wr)) (fun _ i _=>4-(RowKit.intOf i).toNat)
     case atStart=>exact ⟨0,F1,by omega,rfl,rfl,HD0.out,HX3.out,HP3.out,HB3.out⟩
     case round =>
      clear HX3 HP3 HB3 HD0
      obtain ⟨k,x,hk,rfl,rfl,HD,HX,HP,HB⟩:=hrel
      have hxb:x≤6227020800:=by rw [HD.out];exact HDL.out _
      have hk5:k=0∨k=1∨k=2∨k=3∨k=4:=by omega
      clear hk
      rcases hk5 with rfl | rfl | rfl | rfl | rfl
      ·have HB2:=Lib.hid (bel_alloc HB.out (.cells #[.int .i64 (a:Int),.int .i64 (b:Int),.int .i64 (c:Int)] 201))
       have HX2:=Lib.hid (HX.out.alloc (.cells #[.int .i64 (a:Int),.int .i64 (b:Int),.int .i64 (c:Int)] 201))
       have HP2:=Lib.hid (HP.out.alloc (.cells #[.int .i64 (a:Int),.int .i64 (b:Int),.int .i64 (c:Int)] 201))
       obtain ⟨y1,y2,y3,_,_,_⟩:=blk3 (Blk.new wr 201 #[.int .i64 (a:Int),.int .i64 (b:Int),.int .i64 (c:Int)])
       have hix:=ix4_0 (.int .i64 (a:Int)) (.int .i64 (b:Int)) (.int .i64 (c:Int)) (.int .i64 (a:Int)) (.int .i64 (e:Int)) (.int .i64 (f:Int)) (.int .i64 (d:Int)) (.int .i64 (b:Int)) (.int .i64 (f:Int)) (.int .i64 (d:Int)) (.int .i64 (e:Int)) (.int .i64 (c:Int))
       have HG:Hid ((sxN a b c d e f q)[0]?=some (q-(a+b+c) / 2)):=rfl
       obtain ⟨s,hs⟩:∃s,(a+b+c) / 2=s:=⟨_,rfl⟩
       have e1:(a:Int)+(b:Int)+(c:Int)=2*(s:Int):=by omega
       have u1:=td2 s
       have hsq:s≤q:=by omega
       rw [hs] at HG
       have HF:=Lib.hid (fun W=>factorial_any (q-s) W (by omega))
       rw [show ((q-s:Nat):Int)=(q:Int)-(s:Int) by omega] at HF
       have hfp:=fac_pos (q-s)
       have HST:=Lib.hid (HSTEP.out 0 (q-s) HG.out)
       obtain ⟨G,hG⟩:∃G,fac (q-s)=G:=⟨_,rfl⟩
       rw [hG] at HF hfp HST
       have HDX:Hid (x / G=divL F1 ((sxN a b c d e f q).take 1)):=by unfold Hid;rw [HST.out,←HD.out]
       have HDW:=Lib.hid (div_wrap (x:=x) (k:=G) (by omega))
       clear hs hG HG HST
       go_wp2_with fail
       refine (HF.out _).mono ?_
       rintro en w' ⟨rfl,rfl⟩
       go_wp2_with fail
       go_roundw
       case rel=>exact ⟨1,x / G,by omega,rfl,congrArg _ HDW.out,HDX.out,HX2.out,HP2.out,HB2.out⟩
       case measure=>simp [RowKit.intOf]
      ·have HB2:=Lib.hid (bel_alloc HB.out (.cells #[.int .i64 (a:Int),.int .i64 (e:Int),.int .i64 (f:Int)] 201))
       have HX2:=Lib.hid (HX.out.alloc (.cells #[.int .i64 (a:Int),.int .i64 (e:Int),.int .i64 (f:Int)] 201))
       have HP2:=Lib.hid (HP.out.alloc (.cells #[.int .i64 (a:Int),.int .i64 (e:Int),.int .i64 (f:Int)] 201))
       obtain ⟨y1,y2,y3,_,_,_⟩:=blk3 (Blk.new wr 201 #[.int .i64 (a:Int),.int .i64 (e:Int),.int .i64 (f:Int)])
       have hix:=ix4_1 (.int .i64 (a:Int)) (.int .i64 (b:Int)) (.int .i64 (c:Int)) (.int .i64 (a:Int)) (.int .i64 (e:Int)) (.int .i64 (f:Int)) (.int .i64 (d:Int)) (.int .i64 (b:Int)) (.int .i64 (f:Int)) (.int .i64 (d:Int)) (.int .i64 (e:Int)) (.int .i64 (c:Int))
       have HG:Hid ((sxN a b c d e f q)[1]?=some (q-(a+e+f) / 2)):=rfl
       obtain ⟨s,hs⟩:∃s,(a+e+f) / 2=s:=⟨_,rfl⟩
       have e1:(a:Int)+(e:Int)+(f:Int)=2*(s:Int):=by omega
       have u1:=td2 s
       have hsq:s≤q:=by omega
       rw [hs] at HG
       have HF:=Lib.hid (fun W=>factorial_any (q-s) W (by omega))
       rw [show ((q-s:Nat):Int)=(q:Int)-(s:Int) by omega] at HF
       have hfp:=fac_pos (q-s)
       have HST:=Lib.hid (HSTEP.out 1 (q-s) HG.out)
       obtain ⟨G,hG⟩:∃G,fac (q-s)=G:=⟨_,rfl⟩
       rw [hG] at HF hfp HST
       have HDX:Hid (x / G=divL F1 ((sxN a b c d e f q).take 2)):=by unfold Hid;rw [HST.out,←HD.out]
       have HDW:=Lib.hid (div_wrap (x:=x) (k:=G) (by omega))
       clear hs hG HG HST
       go_wp2_with fail
       refine (HF.out _).mono ?_
       rintro en w' ⟨rfl,rfl⟩
       go_wp2_with fail
       go_roundw
       case rel=>exact ⟨2,x / G,by omega,rfl,congrArg _ HDW.out,HDX.out,HX2.out,HP2.out,HB2.out⟩
       case measure=>simp [RowKit.intOf]
      ·have HB2:=Lib.hid (bel_alloc HB.out (.cells #[.int .i64 (d:Int),.int .i64 (b:Int),.int .i64 (f:Int)] 201))
       have HX2:=Lib.hid (HX.out.alloc (.cells #[.int .i64 (d:Int),.int .i64 (b:Int),.int .i64 (f:Int)] 201))
       have HP2:=Lib.hid (HP.out.alloc (.cells #[.int .i64 (d:Int),.int .i64 (b:Int),.int .i64 (f:Int)] 201))
       obtain ⟨y1,y2,y3,_,_,_⟩:=blk3 (Blk.new wr 201 #[.int .i64 (d:Int),.int .i64 (b:Int),.int .i64 (f:Int)])
       have hix:=ix4_2 (.int .i64 (a:Int)) (.int .i64 (b:Int)) (.int .i64 (c:Int)) (.int .i64 (a:Int)) (.int .i64 (e:Int)) (.int .i64 (f:Int)) (.int .i64 (d:Int)) (.int .i64 (b:Int)) (.int .i64 (f:Int)) (.int .i64 (d:Int)) (.int .i64 (e:Int)) (.int .i64 (c:Int))
       have HG:Hid ((sxN a b c d e f q)[2]?=some (q-(d+b+f) / 2)):=rfl
       obtain ⟨s,hs⟩:∃s,(d+b+f) / 2=s:=⟨_,rfl⟩
       have e1:(d:Int)+(b:Int)+(f:Int)=2*(s:Int):=by omega
       have u1:=td2 s
       have hsq:s≤q:=by omega
       rw [hs] at HG
       have HF:=Lib.hid (fun W=>factorial_any (q-s) W (by omega))
       rw [show ((q-s:Nat):Int)=(q:Int)-(s:Int) by omega] at HF
       have hfp:=fac_pos (q-s)
       have HST:=Lib.hid (HSTEP.out 2 (q-s) HG.out)
       obtain ⟨G,hG⟩:∃G,fac (q-s)=G:=⟨_,rfl⟩
       rw [hG] at HF hfp HST
       have HDX:Hid (x / G=divL F1 ((sxN a b c d e f q).take 3)):=by unfold Hid;rw [HST.out,←HD.out]
       have HDW:=Lib.hid (div_wrap (x:=x) (k:=G) (by omega))
       clear hs hG HG HST
       go_wp2_with fail
       refine (HF.out _).mono ?_
       rintro en w' ⟨rfl,rfl⟩
       go_wp2_with fail
       go_roundw
       case rel=>exact ⟨3,x / G,by omega,rfl,congrArg _ HDW.out,HDX.out,HX2.out,HP2.out,HB2.out⟩
       case measure=>simp [RowKit.intOf]
      ·have HB2:=Lib.hid (bel_alloc HB.out (.cells #[.int .i64 (d:Int),.int .i64 (e:Int),.int .i64 (c:Int)] 201))
       have HX2:=Lib.hid (HX.out.alloc (.cells #[.int .i64 (d:Int),.int .i64 (e:Int),.int .i64 (c:Int)] 201))
       have HP2:=Lib.hid (HP.out.alloc (.cells #[.int .i64 (d:Int),.int .i64 (e:Int),.int .i64 (c:Int)] 201))
       obtain ⟨y1,y2,y3,_,_,_⟩:=blk3 (Blk.new wr 201 #[.int .i64 (d:Int),.int .i64 (e:Int),.int .i64 (c:Int)])
       have hix:=ix4_3 (.int .i64 (a:Int)) (.int .i64 (b:Int)) (.int .i64 (c:Int)) (.int .i64 (a:Int)) (.int .i64 (e:Int)) (.int .i64 (f:Int)) (.int .i64 (d:Int)) (.int .i64 (b:Int)) (.int .i64 (f:Int)) (.int .i64 (d:Int)) (.int .i64 (e:Int)) (.int .i64 (c:Int))
       have HG:Hid ((sxN a b c d e f q)[3]?=some (q-(d+e+c) / 2)):=rfl
       obtain ⟨s,hs⟩:∃s,(d+e+c) / 2=s:=⟨_,rfl⟩
       have e1:(d:Int)+(e:Int)+(c:Int)=2*(s:Int):=by omega
       have u1:=td2 s
       have hsq:s≤q:=by omega
       rw [hs] at HG
       have HF:=Lib.hid (fun W=>factorial_any (q-s) W (by omega))
       rw [show ((q-s:Nat):Int)=(q:Int)-(s:Int) by omega] at HF
       have hfp:=fac_pos (q-s)
       have HST:=Lib.hid (HSTEP.out 3 (q-s) HG.out)
       obtain ⟨G,hG⟩:∃G,fac (q-s)=G:=⟨_,rfl⟩
       rw [hG] at HF hfp HST
       have HDX:Hid (x / G=divL F1 ((sxN a b c d e f q).take 4)):=by unfold Hid;rw [HST.out,←HD.out]
       have HDW:=Lib.hid (div_wrap (x:=x) (k:=G) (by omega))
       clear hs hG HG HST
       go_wp2_with fail
       refine (HF.out _).mono ?_
       rintro en w' ⟨rfl,rfl⟩
       go_wp2_with fail
       go_roundw
       case rel=>exact ⟨4,x / G,by omega,rfl,congrArg _ HDW.out,HDX.out,HX2.out,HP2.out,HB2.out⟩
       case measure=>simp [RowKit.intOf]
      ·have HD0:Hid (x=divL F1 ((sxN a b c d e f q).take (4+0))):=HD.out
       obtain ⟨z0,z1,z2,_,_,_⟩:=blk3 HP.out
       obtain ⟨wk,rfl⟩:∃wk:World,wk=wr:=⟨_,rfl⟩
       go_wp2_with fail
       clear z0 z1 z2
       go_loopw [9,104] (fun tm i wr=>∃(k x:Nat),k≤3∧i=.int .i64 (k:Int)∧tm=.int .i64 (x:Int)∧Hid (x=divL F1 ((sxN a b c d e f q).take (4+k)))∧Hid (Blk wr w.heap.size 198 #[.int .i64 (a:Int),.int .i64 (b:Int),.int .i64 (c:Int),.int .i64 (d:Int),.int .i64 (e:Int),.int .i64 (f:Int)])∧Hid (Blk wr P 234 #[.int .i64 (p0:Int),.int .i64 (p1:Int),.int .i64 (p2:Int)])∧Hid (Below w.heap.size w wr)) (fun _ i _=>3-(RowKit.intOf i).toNat)
       case atStart=>exact ⟨0,x,by omega,rfl,rfl,HD0.out,HX.out,HP.out,HB.out⟩
       case round =>
        clear HX HP HB HD0 HD hxb
        obtain ⟨k,x,hk,rfl,rfl,HD,HX,HP,HB⟩:=hrel
        have hxb:x≤6227020800:=by rw [HD.out];exact HDL.out _
        have hk5:k=0∨k=1∨k=2∨k=3:=by omega
        clear hk
        rcases hk5 with rfl | rfl | rfl | rfl
        ·have hix:=ix3_0 (.int .i64 (p0:Int)) (.int .i64 (p1:Int)) (.int .i64 (p2:Int))
         have HG:Hid ((sxN a b c d e f q)[4]?=some (p0-q)):=(HSN.out q).1
         have HF:=Lib.hid (fun W=>factorial_any (p0-q) W (by omega))
         rw [show ((p0-q:Nat):Int)=(p0:Int)-(q:Int) by omega] at HF
         have hfp:=fac_pos (p0-q)
         have HST:=Lib.hid (HSTEP.out 4 (p0-q) HG.out)
         obtain ⟨G,hG⟩:∃G,fac (p0-q)=G:=⟨_,rfl⟩
         rw [hG] at HF hfp HST
         have HDX:Hid (x / G=divL F1 ((sxN a b c d e f q).take (4+1))):=HST.out.symm ▸ (congrArg (· / G) HD.out)
         have HDW:=Lib.hid (div_wrap (x:=x) (k:=G) (by omega))
         clear hG HG HST
         go_wp2_with fail
         refine (HF.out _).mono ?_
         rintro en w' ⟨rfl,rfl⟩
         go_wp2_with fail
         refine ⟨?_,?measure⟩
         (repeat' apply Exists.intro)
         refine ⟨?rel,rfl⟩
         case rel=>exact ⟨1,x / G,by omega,rfl,congrArg _ HDW.out,HDX.out,HX.out,HP.out,HB.out⟩
         case measure=>simp [RowKit.intOf]
        ·have hix:=ix3_1 (.int .i64 (p0:Int)) (.int .i64 (p1:Int)) (.int .i64 (p2:Int))
         have HG:Hid ((sxN a b c d e f q)[5]?=some (p1-q)):=(HSN.out q).2.1
         have HF:=Lib.hid (fun W=>factorial_any (p1-q) W (by omega))
         rw [show ((p1-q:Nat):Int)=(p1:Int)-(q:Int) by omega] at HF
         have hfp:=fac_pos (p1-q)
         have HST:=Lib.hid (HSTEP.out 5 (p1-q) HG.out)
         obtain ⟨G,hG⟩:∃G,fac (p1-q)=G:=⟨_,rfl⟩
         rw [hG] at HF hfp HST
         have HDX:Hid (x / G=divL F1 ((sxN a b c d e f q).take (4+2))):=HST.out.symm ▸ (congrArg (· / G) HD.out)
         have HDW:=Lib.hid (div_wrap (x:=x) (k:=G) (by omega))
         clear hG HG HST
         go_wp2_with fail
         refine (HF.out _).mono ?_
         rintro en w' ⟨rfl,rfl⟩
         go_wp2_with fail
         refine ⟨?_,?measure⟩
         (repeat' apply Exists.intro)
         refine ⟨?rel,rfl⟩
         case rel=>exact ⟨2,x / G,by omega,rfl,congrArg _ HDW.out,HDX.out,HX.out,HP.out,HB.out⟩
         case measure=>simp [RowKit.intOf]
        ·have hix:=ix3_2 (.int .i64 (p0:Int)) (.int .i64 (p1:Int)) (.int .i64 (p2:Int))
         have HG:Hid ((sxN a b c d e f q)[6]?=some (p2-q)):=(HSN.out q).2.2
         have HF:=Lib.hid (fun W=>factorial_any (p2-q) W (by omega))
         rw [show ((p2-q:Nat):Int)=(p2:Int)-(q:Int) by omega] at HF
         have hfp:=fac_pos (p2-q)
         have HST:=Lib.hid (HSTEP.out 6 (p2-q) HG.out)
         obtain ⟨G,hG⟩:∃G,fac (p2-q)=G:=⟨_,rfl⟩
         rw [hG] at HF hfp HST
         have HDX:Hid (x / G=divL F1 ((sxN a b c d e f q).take (4+3))):=HST.out.symm ▸ (congrArg (· / G) HD.out)
         have HDW:=Lib.hid (div_wrap (x:=x) (k:=G) (by omega))
         clear hG HG HST
         go_wp2_with fail
         refine (HF.out _).mono ?_
         rintro en w' ⟨rfl,rfl⟩
         go_wp2_with fail
         refine ⟨?_,?measure⟩
         (repeat' apply Exists.intro)
         refine ⟨?rel,rfl⟩
         case rel=>exact ⟨3,x / G,by omega,rfl,congrArg _ HDW.out,HDX.out,HX.out,HP.out,HB.out⟩
         case measure=>simp [RowKit.intOf]
        ·have HTM:Hid ((x:Int)=sxTm a b c d e f q):=by unfold Hid;rw [HD.out];exact HTE.out
         have HNX:Hid (sxSum a b c d e f (q+1)=sxSum a b c d e f q+(if q % 2=1 then -(sxTm a b c d e f q) else sxTm a b c d e f q)):=rfl
         rw [←HTM.out] at HNX
         have hsb:=HSB.out q
         obtain ⟨S,hS⟩:∃S,sxSum a b c d e f q=S:=⟨_,rfl⟩
         rw [hS] at HNX hsb ⊢
         clear hS
         by_cases hodd:q % 2=1
         ·rw [if_pos hodd] at HNX
          have hrm:(q:Int).tmod 2=1:=by rw [Int.tmod_eq_emod_of_nonneg (by omega)];omega
          have hrm2:(q:Int) % 2=1:=by omega
          go_wp2_with fail
          refine ⟨?_,?measure⟩
          (repeat' apply Exists.intro)
          refine ⟨?rel,rfl⟩
          case rel=>exact ⟨q+1,by omega,by omega,by go_num,by first | (rw [HNX.out];done) | (rw [HNX.out];go_num) | (rw [HNX.out];rfl),HX.out,HP.out,HB.out⟩
          case measure=>simp [RowKit.intOf];omega
         ·rw [if_neg hodd] at HNX
          have hrm:(q:Int).tmod 2=0:=by rw [Int.tmod_eq_emod_of_nonneg (by omega)];omega
          have hrm2:(q:Int) % 2=0:=by omega
          go_wp2_with fail
          refine ⟨?_,?measure⟩
          (repeat' apply Exists.intro)
          refine ⟨?rel,rfl⟩
          case rel=>exact ⟨q+1,by omega,by omega,by go_num,by first | (rw [HNX.out];done) | (rw [HNX.out];go_num) | (rw [HNX.out];rfl),HX.out,HP.out,HB.out⟩
          case measure=>simp [RowKit.intOf];omega
    ·have hqp:¬(q≤p0∧q≤p1∧q≤p2):=fun hc=>hq ((HIF.out q).2 hc)
     have hmin:¬(q:Int)≤((sxHi a b c d e f:Nat):Int):=by omega
     have HE:Hid (sxSum a b c d e f 13=sxSum a b c d e f q):=sxSum_end (by omega) hq2
     go_wp2_with fail
     all_goals
      go_ret
      exact ⟨ret_int HE.out.symm,HB.out⟩
end
end Go.Proofs.YtjdfbnlaiiknpaaGreatDoor
