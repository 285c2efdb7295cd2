/- Parts of the proof of : Sx7 Sx8. -/
import Derived.Test.YtjdfbnlaiiknpaaGreatDoorQ35
set_option maxHeartbeats 20000000
set_option maxRecDepth 1000000
set_option linter.unusedSimpArgs false
set_option linter.unusedVariables false
namespace Go.Proofs.YtjdfbnlaiiknpaaGreatDoor
section
open Go.RowKit
attribute [local go_sem ↓] Go.wp_at_zero Go.wp_at_succ
theorem sumT_le {gs:List Int} (hb:∀g∈gs,-100≤g∧g≤100):∀k,k≤gs.length→sumT gs k≤100*k
 | 0,_=>by simp [sumT]
 | k+1,h=>by
  have ih:=sumT_le hb k (by omega)
  have:=hb (gs.getD k 0) (by rw [List.getD_eq_getElem?_getD,List.getElem?_eq_getElem (by omega)];exact List.getElem_mem _)
  rw [sumT_succ (by omega)]
  omega
theorem l23Ways_any (A:Option Addr) (n c:Nat) (gs:List Int) (w:World) (hn:n≤10) (hl:gs.length=n) (hb:∀g∈gs,-100≤g∧g≤100) (hs:gsNeg gs n→sumT gs n≤12) (hr:Reads w w.heap.size 1 A n (icells gs)) :
 Calls Tryz.prog 169 #[.slice A n c] w fun en w'=>en=.returned (.int .i64 (wyZ gs))∧w=w':=by
 have HR:=Lib.hid hr
 have HL:=Lib.hid hl
 have HSL:=Lib.hid (fun k hk=>sumT_le hb k hk)
 have HBD:=Lib.hid hb
 have HS:=Lib.hid hs
 have HNO:=Lib.hid (fun k hk h=>wyZ_no (gs:=gs) (k:=k) hk h)
 have HYE:=Lib.hid (wyZ_yes (gs:=gs))
 rw [hl] at HSL HNO HYE
 obtain ⟨r,hrr⟩:∃r,wyZ gs=r:=⟨_,rfl⟩
 rw [hrr] at HNO HYE ⊢
 clear hr hl hb hs hrr
 go_enter Tryz.func169,Tryz.ntmps169
 go_wp2_with fail
 go_loop [3,4] (fun v i=>∃(k:Nat),k≤n∧i=.int .i64 (k:Int)∧v=.int .i64 ((sumT gs k:Nat):Int)∧Hid (gsNeg gs k)) (fun _ i=>n-(RowKit.intOf i).toNat)
 case atStart=>exact ⟨0,Nat.zero_le _,rfl,rfl,fun j hj=>absurd hj (by omega)⟩
 case round =>
  obtain ⟨k,hk,rfl,rfl,HG⟩:=hrel
  have hsl:=HSL.out k hk
  by_cases hlt:k<n
  ·obtain ⟨b,off,x,rfl,hb,h1,H3,_⟩:=HR.out.int hlt
   have hxd:gs.getD k 0=x:=by rw [List.getD_eq_getElem?_getD,H3.out];rfl
   have hxb:=HBD.out x (List.mem_of_getElem? H3.out)
   have i1:(k:Int)<(n:Int):=by omega
   have i0:(0:Int)≤(k:Int):=by omega
   by_cases hx:x<0
   ·have HE:Hid (r=0):=HNO.out k hlt (by rw [hxd];exact hx)
    go_wp2_with fail
    go_ret
    exact ⟨ret_int HE.out.symm,rfl⟩
   ·have HG2:Hid (gsNeg gs (k+1)):=fun j hj=>by
     rcases Nat.lt_or_ge j k with h | h
     ·exact HG.out j h
     ·obtain rfl:j=k:=by omega
      rw [hxd];omega
    obtain ⟨y,rfl⟩:=Int.eq_ofNat_of_zero_le (a:=x) (by omega)
    have HSN:Hid (sumT gs (k+1)=sumT gs k+y):=by unfold Hid;rw [sumT_succ (by rw [HL.out];exact hlt),hxd];rfl
    generalize sumT gs k=S at *
    clear hxd hx
    go_wp2_with fail
    go_round
    case rel=>exact ⟨k+1,by omega,by go_num,by rw [HSN.out];go_num,HG2.out⟩
    case measure=>simp [RowKit.intOf];omega
  ·obtain rfl:k=n:=by omega
   have hse:=HYE.out HG.out
   have hs12:=HS.out HG.out
   have HSE:=Lib.hid hse
   have hall:((gs.drop 0).map Int.toNat).sum=sumT gs k:=by unfold sumT;rw [List.drop_zero,←HL.out,List.take_length]
   have HAL:=Lib.hid hall
   have hM:=mulN_le (gs:=gs.map Int.toNat) (t:=sumT gs k) (by rw [←hall,List.drop_zero]) hs12
   obtain ⟨M,hMe⟩:∃M,mulN (sumT gs k) (gs.map Int.toNat)=M:=⟨_,rfl⟩
   have HM0:Hid (1*mulN (sumT gs k) ((gs.drop 0).map Int.toNat)=M):=by unfold Hid;rw [List.drop_zero,hMe,Nat.one_mul]
   rw [hMe] at hM HSE
   have hM2:M≤6227020800:=Nat.le_trans (Nat.le_mul_of_pos_left _ (Nat.succ_pos _)) hM
   obtain ⟨S,hS⟩:∃S,sumT gs k=S:=⟨_,rfl⟩
   rw [hS] at HAL HM0 hs12 ⊢
   clear hse hall hM hMe hsl hS hlt
   go_wp2_with fail
   go_loop [3,5,6] (fun l v i=>∃(q L P:Nat),q≤k∧L≤12∧i=.int .i64 (q:Int)∧l=.int .i64 (L:Int)∧v=.int .i64 (P:Int)∧Hid (((gs.drop q).map Int.toNat).sum=L)∧Hid (P*mulN L ((gs.drop q).map Int.toNat)=M)) (fun _ _ i=>k-(RowKit.intOf i).toNat)
   case atStart=>exact ⟨0,S,1,Nat.zero_le _,hs12,rfl,rfl,rfl,HAL.out,HM0.out⟩
   case round =>
    clear HAL HM0 hs12
    obtain ⟨q,L,P,hq,hL,rfl,rfl,rfl,HSU,HMU⟩:=hrel
    have hPM:P≤M:=by
     have:=mulN_pos HSU.out
     rw [←HMU.out]
     exact Nat.le_mul_of_pos_right _ this
    by_cases hlt:q<k
    ·obtain ⟨b,off,x,rfl,hb,h1,H3,_⟩:=HR.out.int hlt
     have hxd:gs.getD q 0=x:=by rw [List.getD_eq_getElem?_getD,H3.out];rfl
     have hx0:=HG.out q hlt
     rw [hxd] at hx0
     obtain ⟨y,rfl⟩:=Int.eq_ofNat_of_zero_le hx0
     have hdr:gs.drop q=(y:Int) :: gs.drop (q+1):=by
      obtain ⟨hql,hqe⟩:=List.getElem?_eq_some_iff.1 H3.out
      rw [List.drop_eq_getElem_cons hql,hqe]
     have hsu:=HSU.out
     have hmu:=HMU.out
     rw [hdr,List.map_cons,List.sum_cons,Int.toNat_natCast] at hsu
     rw [hdr,List.map_cons,Int.toNat_natCast] at hmu
     have hyL:y≤L:=by omega
     have HSU2:Hid (((gs.drop (q+1)).map Int.toNat).sum=L-y):=by unfold Hid;omega
     have hmu2:P*pasc L y*mulN (L-y) ((gs.drop (q+1)).map Int.toNat)=M:=by rw [Nat.mul_assoc];exact hmu
     have hPM2:P*pasc L y≤M:=by
      have:=mulN_pos HSU2.out
      rw [←hmu2]
      exact Nat.le_mul_of_pos_right _ this
     have HMU2:=Lib.hid hmu2
     have HC:=Lib.hid (fun W=>specChoose_any (L:Int) (y:Int) W)
     rw [show ch (L:Int) (y:Int)=((pasc L y:Nat):Int) by unfold ch;rw [if_neg (by omega),if_neg (by omega)];simp] at HC
     obtain ⟨E,hE⟩:∃E,pasc L y=E:=⟨_,rfl⟩
     rw [hE] at HC HMU2 hPM2
     have w1:0≤(P:Int)*(E:Int)∧(P:Int)*(E:Int)≤6227020800:=by rw [←Int.natCast_mul];omega
     have i1:(q:Int)<(k:Int):=by omega
     have i0:(0:Int)≤(q:Int):=by omega
     clear hxd hx0 hdr hsu hmu hmu2 hE hPM2 hPM
     go_wp2_with fail
     refine (HC.out _).mono ?_
     rintro en w' ⟨rfl,rfl⟩
     go_wp2_with fail
     go_round
     case rel=>exact ⟨q+1,L-y,P*E,by omega,by omega,by go_num,by rw [show ((L-y:Nat):Int)=(L:Int)-(y:Int) by omega],by rw [Int.natCast_mul],HSU2.out,HMU2.out⟩
     case measure=>simp [RowKit.intOf];omega
    ·obtain rfl:q=k:=by omega
     have hde:gs.drop q=[]:=List.drop_of_length_le (by rw [HL.out];exact Nat.le_refl _)
     have HPE:Hid (r=((P:Nat):Int)):=by
      have:=HMU.out
      rw [hde] at this
      unfold Hid
      rw [HSE.out,←this]
      show ((P*1:Nat):Int)=_
      rw [Nat.mul_one]
     clear hde
     go_wp2_with fail
     go_ret
     exact ⟨ret_int HPE.out.symm,rfl⟩
end
section
open Go.RowKit
attribute [local go_sem ↓] Go.wp_at_zero Go.wp_at_succ
theorem reads_lit {w:World} {g:Nat} {t:TypeId} {cs:Array Value} {n:Nat} {xs:List Value} (h:Blk w g t cs) (hx:cs.toList=xs) (hn:xs.length=n*1):Reads w w.heap.size 1 (some ⟨g,0,none⟩) n xs :=
 ⟨hn,fun _=>⟨g,0,rfl,h.lt,fun j u hu=>by rw [Nat.zero_add,h.cell,←hu,←hx];simp⟩⟩
theorem specSixSum_any (a b c d e f:Nat) (w:World) (hE:sxE a b c d e f) (hB:sxB (a:Int) (b:Int) (c:Int) (d:Int) (e:Int) (f:Int)=true) :
 Calls Tryz.prog 116 #[.int .i64 (a:Int),.int .i64 (b:Int),.int .i64 (c:Int),.int .i64 (d:Int),.int .i64 (e:Int),.int .i64 (f:Int)] w fun en w'=>en=.returned (.int .i64 (sxSum a b c d e f 13))∧Below w.heap.size w w':=by
 have HOK:=Lib.hid (fun W=>l23Ok_any (a:Int) (b:Int) (c:Int) (d:Int) (e:Int) (f:Int) W)
 rw [hB] at HOK
 have HBD:=Lib.hid (fun t=>sxTm_bd hE t)
 have HSB:=Lib.hid (fun t=>sxSum_bd hE t)
 have HWY:=Lib.hid (fun t=>wyZ_six (t:=t) hE)
 obtain ⟨q1,q2,q3,q4,q5,q6,q7⟩:=sx_halves hE
 have HSU:Hid (∀t:Nat,gsNeg (sxG a b c d e f t) 7→sumT (sxG a b c d e f t) 7≤12):=fun t hg=>by
  have g0:=hg 0 (by omega);have g1:=hg 1 (by omega);have g2:=hg 2 (by omega);have g3:=hg 3 (by omega);have g4:=hg 4 (by omega);have g5:=hg 5 (by omega);have g6:=hg 6 (by omega)
  unfold sxG at g0 g1 g2 g3 g4 g5 g6
  simp only [List.getD_cons_zero,List.getD_cons_succ] at g0 g1 g2 g3 g4 g5 g6
  have h1:sxLow a b c d e f≤t:=sxLow_iff.2 (by omega)
  have h2:t≤sxHi a b c d e f:=sxHi_iff.2 (by omega)
  have hs:=sxN_sum hE h1 h2
  have h12:=sxHi_12 hE
  have em:(sxG a b c d e f t).map Int.toNat=sxN a b c d e f t:=by
   unfold sxG sxN
   simp only [List.map_cons,List.map_nil,List.cons.injEq,and_true]
   clear h1 h2 hs h12 q1 q2 q3 q4 q5 q6 q7
   generalize (a+b+c) / 2=r0 at *
   generalize (a+e+f) / 2=r1 at *
   generalize (d+b+f) / 2=r2 at *
   generalize (d+e+c) / 2=r3 at *
   generalize (a+b+d+e) / 2=r4 at *
   generalize (b+c+e+f) / 2=r5 at *
   generalize (a+c+d+f) / 2=r6 at *
   omega
  unfold sumT
  rw [show (sxG a b c d e f t).take 7=sxG a b c d e f t from rfl,em,hs]
  omega
 obtain ⟨⟨⟨ha,hb,hc⟩,hd,he,hf⟩,_⟩:=hE
 obtain ⟨s0,hs0⟩:∃s,(a+b+c) / 2=s:=⟨_,rfl⟩
 obtain ⟨s1,hs1⟩:∃s,(a+e+f) / 2=s:=⟨_,rfl⟩
 obtain ⟨s2,hs2⟩:∃s,(d+b+f) / 2=s:=⟨_,rfl⟩
 obtain ⟨s3,hs3⟩:∃s,(d+e+c) / 2=s:=⟨_,rfl⟩
 obtain ⟨p0,hp0⟩:∃s,(a+b+d+e) / 2=s:=⟨_,rfl⟩
 obtain ⟨p1,hp1⟩:∃s,(b+c+e+f) / 2=s:=⟨_,rfl⟩
 obtain ⟨p2,hp2⟩:∃s,(a+c+d+f) / 2=s:=⟨_,rfl⟩
 have e0:(a:Int)+(b:Int)+(c:Int)=2*(s0:Int):=by omega
 have u0:=td2 s0
 have e1:(a:Int)+(e:Int)+(f:Int)=2*(s1:Int):=by omega
 have u1:=td2 s1
 have e2:(d:Int)+(b:Int)+(f:Int)=2*(s2:Int):=by omega
 have u2:=td2 s2
 have e3:(d:Int)+(e:Int)+(c:Int)=2*(s3:Int):=by omega
 have u3:=td2 s3
 have e4:(a:Int)+(b:Int)+(d:Int)+(e:Int)=2*(p0:Int):=by omega
 have u4:=td2 p0
 have e5:(b:Int)+(c:Int)+(e:Int)+(f:Int)=2*(p1:Int):=by omega
 have u5:=td2 p1
 have e6:(a:Int)+(c:Int)+(d:Int)+(f:Int)=2*(p2:Int):=by omega
 have u6:=td2 p2
 have HSG:Hid (∀t:Nat,sxG a b c d e f t=[(t:Int)-(s0:Int),(t:Int)-(s1:Int),(t:Int)-(s2:Int),(t:Int)-(s3:Int),(p0:Int)-(t:Int),(p1:Int)-(t:Int),(p2:Int)-(t:Int)]):=fun t=>by unfold sxG;rw [hs0,hs1,hs2,hs3,hp0,hp1,hp2]
 have hsb:(s0≤9∧s1≤9∧s2≤9∧s3≤9)∧p0≤12∧p1≤12∧p2≤12:=by omega
 clear hs0 hs1 hs2 hs3 hp0 hp1 hp2 q1 q2 q3 q4 q5 q6 q7 hB
 have HEU:=Lib.hid (And.intro e0 (And.intro e1 (And.intro e2 (And.intro e3 (And.intro e4 (And.intro e5 e6))))))
 clear e0 e1 e2 e3 e4 e5 e6
 go_enter Tryz.func116,Tryz.ntmps116
 go_wp2_with fail
 refine (HOK.out _).mono ?_
 rintro en w1 ⟨rfl,hb1⟩
 have HB1:=Lib.hid hb1;clear hb1 HOK
 go_wp2_with fail
 go_loopw [13,14] (fun v i wr=>∃(t:Nat),t≤13∧i=.int .i64 (t:Int)∧v=.int .i64 (sxSum a b c d e f t)∧Hid (Below w.heap.size w wr)) (fun _ i _=>13-(RowKit.intOf i).toNat)
 case atStart=>exact ⟨0,Nat.zero_le _,rfl,rfl,HB1.out⟩
 case round =>
  clear HB1
  obtain ⟨t,ht,rfl,rfl,HB⟩:=hrel
  have hsm:=HSB.out t
  by_cases hlt:t≤12
  ·obtain ⟨e0,e1,e2,e3,e4,e5,e6⟩:=HEU.out
   have htb:=HBD.out t
   have hwy:=HWY.out t
   rw [HSG.out t] at hwy
   have HNX:Hid (sxSum a b c d e f (t+1)=sxSum a b c d e f t+(if t % 2=1 then -(sxTm a b c d e f t) else sxTm a b c d e f t)):=rfl
   have HB2:=Lib.hid (bel_alloc HB.out (.cells #[.int .i64 ((t:Int)-(s0:Int)),.int .i64 ((t:Int)-(s1:Int)),.int .i64 ((t:Int)-(s2:Int)),.int .i64 ((t:Int)-(s3:Int)),.int .i64 ((p0:Int)-(t:Int)),.int .i64 ((p1:Int)-(t:Int)),.int .i64 ((p2:Int)-(t:Int))] 3))
   have HRD:=Lib.hid (reads_lit (n:=7) (xs:=icells [(t:Int)-(s0:Int),(t:Int)-(s1:Int),(t:Int)-(s2:Int),(t:Int)-(s3:Int),(p0:Int)-(t:Int),(p1:Int)-(t:Int),(p2:Int)-(t:Int)]) (Blk.new wr 3 #[.int .i64 ((t:Int)-(s0:Int)),.int .i64 ((t:Int)-(s1:Int)),.int .i64 ((t:Int)-(s2:Int)),.int .i64 ((t:Int)-(s3:Int)),.int .i64 ((p0:Int)-(t:Int)),.int .i64 ((p1:Int)-(t:Int)),.int .i64 ((p2:Int)-(t:Int))]) rfl rfl)
   have HW:=Lib.hid (l23Ways_any (some ⟨wr.heap.size,0,none⟩) 7 7 [(t:Int)-(s0:Int),(t:Int)-(s1:Int),(t:Int)-(s2:Int),(t:Int)-(s3:Int),(p0:Int)-(t:Int),(p1:Int)-(t:Int),(p2:Int)-(t:Int)] (wr.alloc (.cells #[.int .i64 ((t:Int)-(s0:Int)),.int .i64 ((t:Int)-(s1:Int)),.int .i64 ((t:Int)-(s2:Int)),.int .i64 ((t:Int)-(s3:Int)),.int .i64 ((p0:Int)-(t:Int)),.int .i64 ((p1:Int)-(t:Int)),.int .i64 ((p2:Int)-(t:Int))] 3)) (by omega) rfl (fun g hg=>by
    simp only [List.mem_cons,List.not_mem_nil,or_false] at hg
    omega) (by rw [←HSG.out t];exact HSU.out t) HRD.out)
   obtain ⟨y,hy⟩:∃y,wyZ [(t:Int)-(s0:Int),(t:Int)-(s1:Int),(t:Int)-(s2:Int),(t:Int)-(s3:Int),(p0:Int)-(t:Int),(p1:Int)-(t:Int),(p2:Int)-(t:Int)]=y:=⟨_,rfl⟩
   rw [hy] at HW hwy
   obtain ⟨X,hX⟩:∃X,sxTm a b c d e f t=X:=⟨_,rfl⟩
   rw [hX] at HNX htb hwy
   obtain ⟨S,hS⟩:∃S,sxSum a b c d e f t=S:=⟨_,rfl⟩
   rw [hS] at HNX hsm ⊢
   have hy0:0≤y∧y≤6227020800:=by
    constructor
    ·by_cases h:y<0
     ·have:((t:Int)+1)*y<0:=Int.mul_neg_of_pos_of_neg (by omega) h
      omega
     ·omega
    ·by_cases h:6227020800<y
     ·have:y≤((t:Int)+1)*y:=by
       have h1:1*y≤((t:Int)+1)*y:=Int.mul_le_mul_of_nonneg_right (by omega) (by omega)
       omega
      omega
     ·omega
   have w1:IntKind.i64.wrap (((t:Int)+1)*y)=X:=by rw [hwy];exact IntWalk.i64_in _ (by omega)
   have w2:0≤((t:Int)+1)*y∧((t:Int)+1)*y≤6227020800:=by omega
   clear hX hS hy HRD
   by_cases hodd:t % 2=1
   ·rw [if_pos hodd] at HNX
    have hrm:(t:Int).tmod 2=1:=by rw [Int.tmod_eq_emod_of_nonneg (by omega)];omega
    have hrm2:(t:Int) % 2=1:=by omega
    go_wp2_with fail
    refine HW.out.mono ?_
    rintro en w' ⟨rfl,rfl⟩
    go_wp2_with fail
    go_roundw
    case rel=>exact ⟨t+1,by omega,by go_num,by first | (rw [HNX.out];done) | (rw [HNX.out];go_num) | (rw [HNX.out,hwy];go_num) | (rw [HNX.out,←hwy];go_num),HB2.out⟩
    case measure=>simp [RowKit.intOf];omega
   ·rw [if_neg hodd] at HNX
    have hrm:(t:Int).tmod 2=0:=by rw [Int.tmod_eq_emod_of_nonneg (by omega)];omega
    have hrm2:(t:Int) % 2=0:=by omega
    go_wp2_with fail
    refine HW.out.mono ?_
    rintro en w' ⟨rfl,rfl⟩
    go_wp2_with fail
    go_roundw
    case rel=>exact ⟨t+1,by omega,by go_num,by first | (rw [HNX.out];done) | (rw [HNX.out];go_num) | (rw [HNX.out,hwy];go_num) | (rw [HNX.out,←hwy];go_num),HB2.out⟩
    case measure=>simp [RowKit.intOf];omega
  ·obtain rfl:t=13:=by omega
   go_wp2_with fail
   go_ret
   exact ⟨rfl,HB.out⟩
end
end Go.Proofs.YtjdfbnlaiiknpaaGreatDoor
