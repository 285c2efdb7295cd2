/- Parts of the proof of : Sx5. -/
import Derived.Test.YtjdfbnlaiiknpaaGreatDoorQ30
set_option maxHeartbeats 20000000
set_option maxRecDepth 1000000
set_option linter.unusedSimpArgs false
set_option linter.unusedVariables false
namespace Go.Proofs.YtjdfbnlaiiknpaaGreatDoor
section
open Go.RowKit
attribute [local go_sem ↓] Go.wp_at_zero Go.wp_at_succ
def denK (a b c d e f:Nat):Nat→Nat
 | 0=>1
 | 1=>1*dlt a b c
 | 2=>1*dlt a b c*dlt a e f
 | 3=>1*dlt a b c*dlt a e f*dlt d b f
 | _=>1*dlt a b c*dlt a e f*dlt d b f*dlt d e c
def sxN6 (a b c d e f:Nat):RT × Bool:=rootOf (sxSum a b c d e f 13) 1 ((denK a b c d e f 4:Nat):Int)
def sxJ (a b c d e f:Int):RT × Bool:=if sxB a b c d e f=true then sxN6 a.toNat b.toNat c.toNat d.toNat e.toNat f.toNat else ((0,(0,0)),false)
theorem tr6_iff {a b c:Int}:tr6 a b c=true↔((0≤a∧a≤6)∧(0≤b∧b≤6)∧(0≤c∧c≤6))∧triB a b c=true:=by
 unfold tr6
 simp only [Bool.and_eq_true,inB_iff,and_assoc]
theorem sxB_iff {a b c d e f:Int}:sxB a b c d e f=true↔((0≤a∧a≤6)∧(0≤b∧b≤6)∧(0≤c∧c≤6)∧(0≤d∧d≤6)∧(0≤e∧e≤6)∧(0≤f∧f≤6))∧triB a b c=true∧triB a e f=true∧triB d b f=true∧triB d e c=true:=by
 unfold sxB
 simp only [Bool.and_eq_true,tr6_iff]
 constructor
 ·rintro ⟨⟨⟨h1,h2,h3⟩,t1⟩,⟨⟨_,h5,h6⟩,t2⟩,⟨⟨h4,_,_⟩,t3⟩,_,t4⟩
  exact ⟨⟨h1,h2,h3,h4,h5,h6⟩,t1,t2,t3,t4⟩
 ·rintro ⟨⟨h1,h2,h3,h4,h5,h6⟩,t1,t2,t3,t4⟩
  exact ⟨⟨⟨h1,h2,h3⟩,t1⟩,⟨⟨h1,h5,h6⟩,t2⟩,⟨⟨h4,h2,h6⟩,t3⟩,⟨h4,h5,h3⟩,t4⟩
theorem sxB_nat {a b c d e f:Int} (h:sxB a b c d e f=true):∃a' b' c' d' e' f':Nat,(a=a'∧b=b'∧c=c'∧d=d'∧e=e'∧f=f')∧sxE a' b' c' d' e' f'∧triB (a':Int) (b':Int) (c':Int)=true∧triB (a':Int) (e':Int) (f':Int)=true∧triB (d':Int) (b':Int) (f':Int)=true∧triB (d':Int) (e':Int) (c':Int)=true:=by
 obtain ⟨⟨h1,h2,h3,h4,h5,h6⟩,t1,t2,t3,t4⟩:=sxB_iff.1 h
 obtain ⟨a,rfl⟩:=Int.eq_ofNat_of_zero_le h1.1
 obtain ⟨b,rfl⟩:=Int.eq_ofNat_of_zero_le h2.1
 obtain ⟨c,rfl⟩:=Int.eq_ofNat_of_zero_le h3.1
 obtain ⟨d,rfl⟩:=Int.eq_ofNat_of_zero_le h4.1
 obtain ⟨e,rfl⟩:=Int.eq_ofNat_of_zero_le h5.1
 obtain ⟨f,rfl⟩:=Int.eq_ofNat_of_zero_le h6.1
 refine ⟨a,b,c,d,e,f,⟨rfl,rfl,rfl,rfl,rfl,rfl⟩,⟨⟨⟨by omega,by omega,by omega⟩,by omega,by omega,by omega⟩,?_,?_,?_,?_⟩,t1,t2,t3,t4⟩
 ·have:=(triB_iff.1 t1).2.1;omega
 ·have:=(triB_iff.1 t2).2.1;omega
 ·have:=(triB_iff.1 t3).2.1;omega
 ·have:=(triB_iff.1 t4).2.1;omega
theorem denK_bd {a b c d e f:Nat} (hE:sxE a b c d e f) (t1:triB (a:Int) (b:Int) (c:Int)=true) (t2:triB (a:Int) (e:Int) (f:Int)=true) (t3:triB (d:Int) (b:Int) (f:Int)=true) (t4:triB (d:Int) (e:Int) (c:Int)=true) :
 (denK a b c d e f 0=1)∧(denK a b c d e f 1≤16800)∧(denK a b c d e f 2≤282240000)∧(denK a b c d e f 3≤4741632000000)∧denK a b c d e f 4≤79659417600000000:=by
 obtain ⟨⟨⟨ha,hb,hc⟩,hd,he,hf⟩,_⟩:=hE
 have d1:=(dlt_at ha hb hc t1).2.2.1
 have d2:=(dlt_at ha he hf t2).2.2.1
 have d3:=(dlt_at hd hb hf t3).2.2.1
 have d4:=(dlt_at hd he hc t4).2.2.1
 unfold denK
 have m1:1*dlt a b c≤16800:=by omega
 have m2:1*dlt a b c*dlt a e f≤16800*16800:=Nat.mul_le_mul m1 d2
 have m3:1*dlt a b c*dlt a e f*dlt d b f≤16800*16800*16800:=Nat.mul_le_mul m2 d3
 have m4:1*dlt a b c*dlt a e f*dlt d b f*dlt d e c≤16800*16800*16800*16800:=Nat.mul_le_mul m3 d4
 exact ⟨rfl,m1,by omega,by omega,by omega⟩
theorem implSixJ_any (a b c d e f:Int) (w:World) :
 Calls Tryz.prog 144 #[.int .i64 a,.int .i64 b,.int .i64 c,.int .i64 d,.int .i64 e,.int .i64 f] w fun en w'=>en=.returned (rtO (sxJ a b c d e f))∧Below w.heap.size w w':=by
 have HEX:=Lib.hid (fun W=>exists_any a b c d e f W)
 cases hv:sxB a b c d e f
 ·have he:sxJ a b c d e f=((0,(0,0)),false):=by unfold sxJ;rw [hv];simp
  rw [he];rw [hv] at HEX;clear he hv
  unfold rtO rtV
  have HB0:=Lib.hid (bel_alloc (bel_alloc (Below.refl w.heap.size w) (.cells #[.int .i64 0,.int .i64 0,.int .i64 0] 99)) (.cells #[.int .i64 a,.int .i64 b,.int .i64 c,.int .i64 d,.int .i64 e,.int .i64 f] 198))
  have HX0:=Lib.hid ((Blk.new w 99 #[.int .i64 0,.int .i64 0,.int .i64 0]).alloc (.cells #[.int .i64 a,.int .i64 b,.int .i64 c,.int .i64 d,.int .i64 e,.int .i64 f] 198))
  go_enter Tryz.func144,Tryz.ntmps144
  go_wp2_with fail
  refine (HEX.out _).mono ?_
  rintro en w1 ⟨rfl,hb1⟩
  have HB1:=Lib.hid (bel_sub HB0.out hb1)
  have HX1:=Lib.hid (HX0.out.sub hb1);clear hb1
  obtain ⟨x1,x2,x3,f1,f2,f3⟩:=blk3 HX1.out
  have HZ:=Lib.hid (((HX1.out.set 0 (.int .i64 0)).set 1 (.int .i64 0)).set 2 (.int .i64 0))
  have HBZ:=Lib.hid (bel_set (g:=w.heap.size) (i:=2) (u:=.int .i64 0) (bel_set2 (g:=w.heap.size) (x:=.int .i64 0) (y:=.int .i64 0) HB1.out (Nat.le_refl _)) (Nat.le_refl _))
  go_wp2_with fail
  refine bodyPost_ret (results_rt rfl _ _ w.heap.size _ _ rfl HZ.out Tryz.underlying99 rfl (by kernel_rfl)) rfl ?_
  exact ⟨rfl,HBZ.out⟩
 have he:sxJ a b c d e f=sxN6 a.toNat b.toNat c.toNat d.toNat e.toNat f.toNat:=by unfold sxJ;rw [hv,if_pos rfl]
 rw [he];rw [hv] at HEX;clear he
 obtain ⟨a,b,c,d,e,f,⟨rfl,rfl,rfl,rfl,rfl,rfl⟩,hE,t1,t2,t3,t4⟩:=sxB_nat hv
 simp only [Int.toNat_natCast]
 clear hv
 have HT:=Lib.hid (fun W=>triads_any (a:Int) (b:Int) (c:Int) (d:Int) (e:Int) (f:Int) W)
 have HSUM:=Lib.hid (fun W=>sum_any a b c d e f W hE)
 have HDN:=Lib.hid (denK_bd hE t1 t2 t3 t4)
 have HRO:=Lib.hid (fun W=>implRootOf_any (sxSum a b c d e f 13) 1 ((denK a b c d e f 4:Nat):Int) W)
 obtain ⟨⟨⟨ha,hb,hc⟩,hd,he,hf⟩,_⟩:=hE
 have HD0:=Lib.hid (fun W=>implDelta_any a b c W ha hb hc t1)
 have HD1:=Lib.hid (fun W=>implDelta_any a e f W ha he hf t2)
 have HD2:=Lib.hid (fun W=>implDelta_any d b f W hd hb hf t3)
 have HD3:=Lib.hid (fun W=>implDelta_any d e c W hd he hc t4)
 have HB0:=Lib.hid (bel_alloc (bel_alloc (Below.refl w.heap.size w) (.cells #[.int .i64 0,.int .i64 0,.int .i64 0] 99)) (.cells #[.int .i64 (a:Int),.int .i64 (b:Int),.int .i64 (c:Int),.int .i64 (d:Int),.int .i64 (e:Int),.int .i64 (f:Int)] 198))
 have HX0:=Lib.hid ((Blk.new w 99 #[.int .i64 0,.int .i64 0,.int .i64 0]).alloc (.cells #[.int .i64 (a:Int),.int .i64 (b:Int),.int .i64 (c:Int),.int .i64 (d:Int),.int .i64 (e:Int),.int .i64 (f:Int)] 198))
 have HS0:=Lib.hid (Blk.new (w.alloc (.cells #[.int .i64 0,.int .i64 0,.int .i64 0] 99)) 198 #[.int .i64 (a:Int),.int .i64 (b:Int),.int .i64 (c:Int),.int .i64 (d:Int),.int .i64 (e:Int),.int .i64 (f:Int)])
 rw [World.size_alloc] at HS0
 clear ha hb hc hd he hf t1 t2 t3 t4
 unfold sxN6
 obtain ⟨⟨⟨sg,⟨x,y⟩⟩,ok⟩,hr⟩:∃r,rootOf (sxSum a b c d e f 13) 1 ((denK a b c d e f 4:Nat):Int)=r:=⟨_,rfl⟩
 rw [hr] at HRO ⊢
 clear hr
 unfold rtO rtV at HRO ⊢
 simp only at HRO ⊢
 go_enter Tryz.func144,Tryz.ntmps144
 go_wp2_with fail
 refine (HEX.out _).mono ?_
 rintro en w1 ⟨rfl,hb1⟩
 have HB1:=Lib.hid (bel_sub HB0.out hb1)
 have HX1:=Lib.hid (HX0.out.sub hb1)
 have HS1:=Lib.hid (HS0.out.sub hb1);clear hb1 HB0 HX0 HS0 HEX
 obtain ⟨⟨x0,x1,x2⟩,x3,x4,x5⟩:=blk6 HS1.out
 go_wp2_with fail
 refine (HT.out _).mono ?_
 rintro en w2 ⟨rfl,hb2⟩
 clear x0 x1 x2 x3 x4 x5
 have HB2:=Lib.hid (bel_sub HB1.out hb2)
 have HX2:=Lib.hid (HX1.out.sub hb2)
 have HS2:=Lib.hid (HS1.out.sub hb2);clear hb2 HB1 HX1 HS1 HT
 go_wp2_with fail
 go_loopw [15,31] (fun den i wr=>∃(k D:Nat),k≤4∧i=.int .i64 (k:Int)∧den=.int .i64 (D:Int)∧Hid (D=denK a b c d e f k)∧Hid (Blk wr w.heap.size 99 #[.int .i64 0,.int .i64 0,.int .i64 0])∧Hid (Blk wr (w.heap.size+1) 198 #[.int .i64 (a:Int),.int .i64 (b:Int),.int .i64 (c:Int),.int .i64 (d:Int),.int .i64 (e:Int),.int .i64 (f:Int)])∧Hid (Below w.heap.size w wr)) (fun _ i _=>4-(RowKit.intOf i).toNat)
 case atStart=>exact ⟨0,1,by omega,rfl,rfl,rfl,HX2.out,HS2.out,HB2.out⟩
 case round =>
  clear HX2 HS2 HB2
  obtain ⟨k,D,hk,rfl,rfl,HD,HX,HS,HB⟩:=hrel
  have hk5:k=0∨k=1∨k=2∨k=3∨k=4:=by omega
  clear hk
  obtain ⟨n0,n1,n2,n3,n4⟩:=HDN.out
  rcases hk5 with rfl | rfl | rfl | rfl | rfl
  ·have HB2:=Lib.hid (bel_alloc HB.out (.cells #[.int .i64 (a:Int),.int .i64 (b:Int),.int .i64 (c:Int)] 201))
   have HX2:=Lib.hid (HX.out.alloc (.cells #[.int .i64 (a:Int),.int .i64 (b:Int),.int .i64 (c:Int)] 201))
   have HS2:=Lib.hid (HS.out.alloc (.cells #[.int .i64 (a:Int),.int .i64 (b:Int),.int .i64 (c:Int)] 201))
   obtain ⟨y1,y2,y3,_,_,_⟩:=blk3 (Blk.new wr 201 #[.int .i64 (a:Int),.int .i64 (b:Int),.int .i64 (c:Int)])
   have hix:=ix4_0 (.int .i64 (a:Int)) (.int .i64 (b:Int)) (.int .i64 (c:Int)) (.int .i64 (a:Int)) (.int .i64 (e:Int)) (.int .i64 (f:Int)) (.int .i64 (d:Int)) (.int .i64 (b:Int)) (.int .i64 (f:Int)) (.int .i64 (d:Int)) (.int .i64 (e:Int)) (.int .i64 (c:Int))
   have hnx:denK a b c d e f 1=D*dlt a b c:=by rw [HD.out];rfl
   have hbd:D*dlt a b c≤79659417600000000:=by rw [←hnx];omega
   have HNX:=Lib.hid hnx
   have HDL:=Lib.hid HD0.out
   obtain ⟨E,hE⟩:∃E,dlt a b c=E:=⟨_,rfl⟩
   rw [hE] at HNX HDL hbd
   clear hnx hE n0 n1 n2 n3 n4
   have w1:IntKind.i64.wrap ((D:Int)*(E:Int))=((D*E:Nat):Int):=by rw [←Int.natCast_mul];exact IntWalk.i64_in _ (by omega)
   have w2:0≤(D:Int)*(E:Int)∧(D:Int)*(E:Int)≤79659417600000000:=by rw [←Int.natCast_mul];omega
   go_wp2_with fail
   refine (HDL.out _).mono ?_
   rintro en w' ⟨rfl,rfl⟩
   go_wp2_with fail
   go_roundw
   case rel=>exact ⟨1,D*E,by omega,rfl,by first | rfl | (rw [Int.natCast_mul]),HNX.out.symm,HX2.out,HS2.out,HB2.out⟩
   case measure=>simp [RowKit.intOf]
  ·have HB2:=Lib.hid (bel_alloc HB.out (.cells #[.int .i64 (a:Int),.int .i64 (e:Int),.int .i64 (f:Int)] 201))
   have HX2:=Lib.hid (HX.out.alloc (.cells #[.int .i64 (a:Int),.int .i64 (e:Int),.int .i64 (f:Int)] 201))
   have HS2:=Lib.hid (HS.out.alloc (.cells #[.int .i64 (a:Int),.int .i64 (e:Int),.int .i64 (f:Int)] 201))
   obtain ⟨y1,y2,y3,_,_,_⟩:=blk3 (Blk.new wr 201 #[.int .i64 (a:Int),.int .i64 (e:Int),.int .i64 (f:Int)])
   have hix:=ix4_1 (.int .i64 (a:Int)) (.int .i64 (b:Int)) (.int .i64 (c:Int)) (.int .i64 (a:Int)) (.int .i64 (e:Int)) (.int .i64 (f:Int)) (.int .i64 (d:Int)) (.int .i64 (b:Int)) (.int .i64 (f:Int)) (.int .i64 (d:Int)) (.int .i64 (e:Int)) (.int .i64 (c:Int))
   have hnx:denK a b c d e f 2=D*dlt a e f:=by rw [HD.out];rfl
   have hbd:D*dlt a e f≤79659417600000000:=by rw [←hnx];omega
   have HNX:=Lib.hid hnx
   have HDL:=Lib.hid HD1.out
   obtain ⟨E,hE⟩:∃E,dlt a e f=E:=⟨_,rfl⟩
   rw [hE] at HNX HDL hbd
   clear hnx hE n0 n1 n2 n3 n4
   have w1:IntKind.i64.wrap ((D:Int)*(E:Int))=((D*E:Nat):Int):=by rw [←Int.natCast_mul];exact IntWalk.i64_in _ (by omega)
   have w2:0≤(D:Int)*(E:Int)∧(D:Int)*(E:Int)≤79659417600000000:=by rw [←Int.natCast_mul];omega
   go_wp2_with fail
   refine (HDL.out _).mono ?_
   rintro en w' ⟨rfl,rfl⟩
   go_wp2_with fail
   go_roundw
   case rel=>exact ⟨2,D*E,by omega,rfl,by first | rfl | (rw [Int.natCast_mul]),HNX.out.symm,HX2.out,HS2.out,HB2.out⟩
   case measure=>simp [RowKit.intOf]
  ·have HB2:=Lib.hid (bel_alloc HB.out (.cells #[.int .i64 (d:Int),.int .i64 (b:Int),.int .i64 (f:Int)] 201))
   have HX2:=Lib.hid (HX.out.alloc (.cells #[.int .i64 (d:Int),.int .i64 (b:Int),.int .i64 (f:Int)] 201))
   have HS2:=Lib.hid (HS.out.alloc (.cells #[.int .i64 (d:Int),.int .i64 (b:Int),.int .i64 (f:Int)] 201))
   obtain ⟨y1,y2,y3,_,_,_⟩:=blk3 (Blk.new wr 201 #[.int .i64 (d:Int),.int .i64 (b:Int),.int .i64 (f:Int)])
   have hix:=ix4_2 (.int .i64 (a:Int)) (.int .i64 (b:Int)) (.int .i64 (c:Int)) (.int .i64 (a:Int)) (.int .i64 (e:Int)) (.int .i64 (f:Int)) (.int .i64 (d:Int)) (.int .i64 (b:Int)) (.int .i64 (f:Int)) (.int .i64 (d:Int)) (.int .i64 (e:Int)) (.int .i64 (c:Int))
   have hnx:denK a b c d e f 3=D*dlt d b f:=by rw [HD.out];rfl
   have hbd:D*dlt d b f≤79659417600000000:=by rw [←hnx];omega
   have HNX:=Lib.hid hnx
   have HDL:=Lib.hid HD2.out
   obtain ⟨E,hE⟩:∃E,dlt d b f=E:=⟨_,rfl⟩
   rw [hE] at HNX HDL hbd
   clear hnx hE n0 n1 n2 n3 n4
   have w1:IntKind.i64.wrap ((D:Int)*(E:Int))=((D*E:Nat):Int):=by rw [←Int.natCast_mul];exact IntWalk.i64_in _ (by omega)
   have w2:0≤(D:Int)*(E:Int)∧(D:Int)*(E:Int)≤79659417600000000:=by rw [←Int.natCast_mul];omega
   go_wp2_with fail
   refine (HDL.out _).mono ?_
   rintro en w' ⟨rfl,rfl⟩
   go_wp2_with fail
   go_roundw
   case rel=>exact ⟨3,D*E,by omega,rfl,by first | rfl | (rw [Int.natCast_mul]),HNX.out.symm,HX2.out,HS2.out,HB2.out⟩
   case measure=>simp [RowKit.intOf]
  ·have HB2:=Lib.hid (bel_alloc HB.out (.cells #[.int .i64 (d:Int),.int .i64 (e:Int),.int .i64 (c:Int)] 201))
   have HX2:=Lib.hid (HX.out.alloc (.cells #[.int .i64 (d:Int),.int .i64 (e:Int),.int .i64 (c:Int)] 201))
   have HS2:=Lib.hid (HS.out.alloc (.cells #[.int .i64 (d:Int),.int .i64 (e:Int),.int .i64 (c:Int)] 201))
   obtain ⟨y1,y2,y3,_,_,_⟩:=blk3 (Blk.new wr 201 #[.int .i64 (d:Int),.int .i64 (e:Int),.int .i64 (c:Int)])
   have hix:=ix4_3 (.int .i64 (a:Int)) (.int .i64 (b:Int)) (.int .i64 (c:Int)) (.int .i64 (a:Int)) (.int .i64 (e:Int)) (.int .i64 (f:Int)) (.int .i64 (d:Int)) (.int .i64 (b:Int)) (.int .i64 (f:Int)) (.int .i64 (d:Int)) (.int .i64 (e:Int)) (.int .i64 (c:Int))
   have hnx:denK a b c d e f 4=D*dlt d e c:=by rw [HD.out];rfl
   have hbd:D*dlt d e c≤79659417600000000:=by rw [←hnx];omega
   have HNX:=Lib.hid hnx
   have HDL:=Lib.hid HD3.out
   obtain ⟨E,hE⟩:∃E,dlt d e c=E:=⟨_,rfl⟩
   rw [hE] at HNX HDL hbd
   clear hnx hE n0 n1 n2 n3 n4
   have w1:IntKind.i64.wrap ((D:Int)*(E:Int))=((D*E:Nat):Int):=by rw [←Int.natCast_mul];exact IntWalk.i64_in _ (by omega)
   have w2:0≤(D:Int)*(E:Int)∧(D:Int)*(E:Int)≤79659417600000000:=by rw [←Int.natCast_mul];omega
   go_wp2_with fail
   refine (HDL.out _).mono ?_
   rintro en w' ⟨rfl,rfl⟩
   go_wp2_with fail
   go_roundw
   case rel=>exact ⟨4,D*E,by omega,rfl,by first | rfl | (rw [Int.natCast_mul]),HNX.out.symm,HX2.out,HS2.out,HB2.out⟩
   case measure=>simp [RowKit.intOf]
  ·obtain ⟨⟨x0,x1,x2⟩,x3,x4,x5⟩:=blk6 HS.out
   have hde:=HD.out
   subst hde
   clear n0 n1 n2 n3 n4
   go_wp2_with fail
   refine (HSUM.out _).mono ?_
   rintro en w3 ⟨rfl,hb3⟩
   have HB3:=Lib.hid (bel_sub HB.out hb3)
   have HX3:=Lib.hid (HX.out.sub hb3);clear hb3 HB HX HS x0 x1 x2 x3 x4 x5
   go_wp2_with fail
   refine (HRO.out _).mono ?_
   rintro en w4 ⟨rfl,hb4⟩
   have HB4:=Lib.hid (bel_sub HB3.out hb4)
   have HX4:=Lib.hid (HX3.out.sub hb4);clear hb4 HB3 HX3
   obtain ⟨x1,x2,x3,f1,f2,f3⟩:=blk3 HX4.out
   have HZ:=Lib.hid (((HX4.out.set 0 (.int .i64 sg)).set 1 (.int .i64 x)).set 2 (.int .i64 y))
   have HBZ:=Lib.hid (bel_set (g:=w.heap.size) (i:=2) (u:=.int .i64 y) (bel_set2 (g:=w.heap.size) (x:=.int .i64 sg) (y:=.int .i64 x) HB4.out (Nat.le_refl _)) (Nat.le_refl _))
   go_wp2_with fail
   refine bodyPost_ret (results_rt rfl _ _ w.heap.size _ _ rfl HZ.out Tryz.underlying99 rfl (by kernel_rfl)) rfl ?_
   exact ⟨rfl,HBZ.out⟩
end
end Go.Proofs.YtjdfbnlaiiknpaaGreatDoor
