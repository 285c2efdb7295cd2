/- Parts of the proof of : TxS Cs1. -/
import Derived.Test.YtjdfbnlaiiknpaaGreatDoorQ22
set_option maxHeartbeats 20000000
set_option maxRecDepth 1000000
set_option linter.unusedSimpArgs false
set_option linter.unusedVariables false
namespace Go.Proofs.YtjdfbnlaiiknpaaGreatDoor
section
open Go.RowKit
attribute [local go_sem ↓] Go.wp_at_zero Go.wp_at_succ
theorem l6Dec_any (n:Nat):n≤1000000→∀w:World,Calls Tryz.prog 34 #[.int .i64 n] w fun e w'=>e=.returned (.string (bs (Lib.decDigits n)))∧Below w.heap.size w w':=by
 induction n using Nat.strongRecOn with
 | ind n ih =>
  intro hn w
  have d0:decide ((n:Int) < -9223372036854775807)=false:=decide_eq_false (by omega)
  have d1:decide ((n:Int)<0)=false:=decide_eq_false (by omega)
  have HB1:=Lib.hid (fun o=>(Below.refl w.heap.size w).alloc (Nat.le_refl _) o)
  by_cases h:n<10
  ·have hcv:=fun W=>conv_new W (48+(n:Int)) (by omega) (by omega)
   have HE:Hid (Lib.decDigits n=[UInt8.ofNat (48+(n:Int)).toNat]):=by unfold Hid;rw [Lib.decDigits_one h,show (48+(n:Int)).toNat=48+n by omega]
   generalize Lib.decDigits n=D at *
   clear ih
   generalize [UInt8.ofNat (48+(n:Int)).toNat]=V at *
   go_enter Tryz.func34,Tryz.ntmps34
   go_wp2_with fail
   clear hcv
   go_ret
   exact ⟨ret_str (by rw [HE.out]),HB1.out _⟩
  ·have hc:=ih (n / 10) (by omega) (by omega)
   rw [show (((n / 10:Nat):Int))=(n:Int) / 10 by omega] at hc
   have HC:=Lib.hid hc;clear hc ih
   have hl:=dig_len7 (n:=n / 10) (by omega)
   obtain ⟨m,hm9,hm⟩:∃m:Nat,m≤9∧n % 10=m:=⟨n % 10,by omega,rfl⟩
   have HE:Hid (Lib.decDigits n=Lib.decDigits (n / 10)++[UInt8.ofNat (48+(m:Int)).toNat]):=by
    unfold Hid;rw [dig_step (by omega),show (48+(m:Int)).toNat=48+n % 10 by omega]
   have hz:(bs (Lib.decDigits (n / 10))).size≤7:=by rw [bs_size];exact hl
   have hv1:(bs [UInt8.ofNat (48+(m:Int)).toNat]).size≤1:=Nat.le_of_eq (bs_size _)
   have HCV:=Lib.hid (fun W=>conv_new W (48+(m:Int)) (by omega) (by omega))
   have HCW:=Lib.hid (fun W g=>conv_at W g (48+(m:Int)) (by omega) (by omega))
   generalize Lib.decDigits n=D at *
   generalize Lib.decDigits (n / 10)=D1 at *
   generalize [UInt8.ofNat (48+(m:Int)).toNat]=V at *
   clear hl
   have u1:IntKind.i64.wrap ((n:Int) / 10)=(n:Int) / 10:=IntWalk.i64_in _ (by omega)
   have u2:(n:Int).tmod 10=(m:Int):=by rw [Int.tmod_eq_emod_of_nonneg (by omega)];omega
   have u3:IntKind.i64.wrap (48+(m:Int))=48+(m:Int):=IntWalk.i64_in _ (by omega)
   have u4:IntKind.u8.wrap (48+(m:Int))=48+(m:Int):=IntWalk.u8_in _ (by omega)
   have HU:=Lib.hid (And.intro u1 (And.intro u2 (And.intro u3 u4)))
   clear u1 u2 u3 u4 hm
   go_enter Tryz.func34,Tryz.ntmps34
   go_wp2_with fail
   obtain ⟨u1,u2,u3,u4⟩:=HU.out
   have k1:=HCV.out
   have k2:=fun W:World=>HCW.out (W.alloc (.cells #[.int .u8 (48+(m:Int))] 5)).drew W.heap.size (Blk.new _ _ _)
   go_region_with (go_at_call 34;refine (HC.out _).mono ?_;rintro e w1 ⟨rfl,hb1⟩;try (have k3:=HCW.out w1 w.heap.size ((Blk.drew (Blk.new w _ _)).sub hb1)))
   all_goals
    clear k1 k2
    have hbe:bs D1++bs V=bs D:=by rw [HE.out,bs_append]
    have HBE:=Lib.hid hbe;clear hbe
    have HB9:=Lib.hid hb1;clear hb1
    go_wp2_with fail
    go_ret
    refine ⟨ret_str HBE.out,?_⟩
    first
     | exact (((Below.refl w.heap.size w).drew).trans (HB9.out.mono (Nat.le_refl _))).alloc HB9.out.size _
     | exact ((HB1.out _).drew).trans (HB9.out.mono (by simp))
theorem specSpinText_any (j:Int) (w:World):Calls Tryz.prog 159 #[.int .i64 j] w fun e w'=>e=.returned (.string (bs (spT j)))∧Below w.heap.size w w':=by
 have HV:=Lib.hid (fun W=>specSpinValid_any j W)
 cases hv:inB j 0 24
 ·have he:spT j=[]:=by unfold spT;rw [hv];simp
  rw [he,bs_nil];rw [hv] at HV;clear hv he
  go_enter Tryz.func159,Tryz.ntmps159
  go_wp2_with fail
  refine (HV.out _).mono ?_
  rintro e w1 ⟨rfl,rfl⟩
  go_wp2_with fail
  go_ret
  exact ⟨rfl,Below.refl _ _⟩
 have hb:=inB_iff.1 hv
 rw [hv] at HV
 obtain ⟨n,rfl⟩:=Int.eq_ofNat_of_zero_le hb.1
 by_cases h2:n % 2=0
 ·have he:spT (n:Int)=Lib.decDigits (n / 2):=by unfold spT;rw [hv,if_pos rfl,if_pos (by omega),show ((n:Int) / 2).toNat=n / 2 by omega]
  rw [he];clear hv he
  have hi:=fun W=>l6Dec_any (n / 2) (by omega) W
  rw [show (((n / 2:Nat):Int))=(n:Int) / 2 by omega] at hi
  have HI:=Lib.hid hi;clear hi
  have e1:((n:Int) % 2==0)=true:=by simp;omega
  generalize Lib.decDigits (n / 2)=D at *
  go_enter Tryz.func159,Tryz.ntmps159
  go_wp2_with fail
  refine (HV.out _).mono ?_
  rintro e w1 ⟨rfl,rfl⟩
  go_wp2_with fail
  refine (HI.out _).mono ?_
  rintro e w1 ⟨rfl,hb1⟩
  have HB:=Lib.hid hb1;clear hb1
  go_wp2_with fail
  go_ret
  exact ⟨rfl,HB.out⟩
 ·have he:spT (n:Int)=Lib.decDigits n++[47,50]:=by unfold spT;rw [hv,if_pos rfl,if_neg (by omega),Int.toNat_natCast]
  rw [he,←bs_append];clear hv he
  have HI:=Lib.hid (fun W=>l6Dec_any n (by omega) W)
  have e1:((n:Int) % 2==0)=false:=by simp;omega
  have hz:(bs (Lib.decDigits n)).size≤7:=by rw [bs_size];exact dig_len7 (by omega)
  generalize bs (Lib.decDigits n)=D at *
  go_enter Tryz.func159,Tryz.ntmps159
  go_wp2_with fail
  refine (HV.out _).mono ?_
  rintro e w1 ⟨rfl,rfl⟩
  go_wp2_with fail
  refine (HI.out _).mono ?_
  rintro e w1 ⟨rfl,hb1⟩
  have HB:=Lib.hid hb1;clear hb1
  go_wp2_with fail
  go_ret
  exact ⟨rfl,HB.out⟩
theorem specTermText_any (t:T2) (w:World) :
 Calls Tryz.prog 158 #[.agg #[.int .i64 t.1,.int .i64 t.2]] w fun e w'=>e=.returned (.string (bs (tmT t)))∧Below w.heap.size w w':=by
 have HB0:=Lib.hid ((Below.refl w.heap.size w).alloc (Nat.le_refl _) (.cells #[.int .i64 t.1,.int .i64 t.2] 39))
 have HX0:=Lib.hid (Blk.new w 39 #[.int .i64 t.1,.int .i64 t.2])
 have HV:=Lib.hid (fun W=>specTermValid_any t W)
 cases hv:tvB t
 ·have he:tmT t=[]:=by unfold tmT;rw [hv];simp
  rw [he,bs_nil];rw [hv] at HV;clear hv he
  go_enter Tryz.func158,Tryz.ntmps158
  go_wp2_with fail
  refine (HV.out _).mono ?_
  rintro e w1 ⟨rfl,hb1⟩
  have HB:=Lib.hid (HB0.out.trans (hb1.mono HB0.out.size));clear hb1
  go_wp2_with fail
  go_ret
  exact ⟨rfl,HB.out⟩
 have hb:=tvB_iff.1 hv
 have he:bs (tmT t)=bs (Lib.decDigits (t.1.toNat+1))++bs [lts.getD t.2.toNat 0]:=by unfold tmT;rw [if_pos hv,bs_append]
 rw [he];rw [hv] at HV;clear hv he
 obtain ⟨a,b⟩:=t
 simp only at *
 obtain ⟨s,rfl⟩:=Int.eq_ofNat_of_zero_le hb.1.1
 obtain ⟨l,rfl⟩:=Int.eq_ofNat_of_zero_le hb.2.1
 simp only [Int.toNat_natCast]
 have hi:=fun W=>l6Dec_any (s+1) (by omega) W
 rw [show (((s+1:Nat):Int))=(s:Int)+1 by omega] at hi
 have HI:=Lib.hid hi;clear hi
 have hz1:(bs (Lib.decDigits (s+1))).size≤7:=by rw [bs_size];exact dig_len7 (by omega)
 have hz2:(bs [lts.getD l 0]).size≤1:=Nat.le_of_eq (bs_size _)
 have HSL:=Lib.hid (fun W=>slice_lts l (by omega) W)
 generalize bs (Lib.decDigits (s+1))=D at *
 generalize bs [lts.getD l 0]=V at *
 have u1:IntKind.i64.wrap ((s:Int)+1)=(s:Int)+1:=IntWalk.i64_in _ (by omega)
 have u2:IntKind.i64.wrap ((l:Int)+1)=(l:Int)+1:=IntWalk.i64_in _ (by omega)
 have HU:=Lib.hid (And.intro u1 u2);clear u1 u2
 go_enter Tryz.func158,Tryz.ntmps158
 go_wp2_with fail
 refine (HV.out _).mono ?_
 rintro e w1 ⟨rfl,hb1⟩
 have HB:=Lib.hid (HB0.out.trans (hb1.mono HB0.out.size))
 obtain ⟨x1,x2,_,_⟩:=blk2 (HX0.out.sub hb1)
 clear hb1
 have k1:=After.cell x1
 have k2:=After.cell x2
 have k3:=HSL.out
 obtain ⟨u1,u2⟩:=HU.out
 go_wp2_with fail
 refine wp_region_after (by kernel_rfl) (by kernel_rfl) ?_
 repeat (go_big_quiet_step ((go_at_call 34;exact after_call _ (HI.out _))))
 refine wpQuiet_nil ?_
 intro w9 hw'
 obtain ⟨⟨w9',hb9⟩,hw''⟩:=hw'
 subst hw''
 have HB9:=Lib.hid (HB.out.trans (hb9.mono HB.out.size));clear hb9 k3 u1 u2
 go_wp2_with fail
 go_ret
 exact ⟨rfl,HB9.out⟩
theorem specTermsText_any (A:Option Addr) (n c:Nat) (ts:List T2) (w:World) (hn:n≤1048576) (hts:ts.length=n) (hr:Reads w w.heap.size 2 A n (tcells ts)) :
 Calls Tryz.prog 102 #[.slice A n c] w fun e w'=>e=.returned (.string (bs (tsT ts)))∧Below w.heap.size w w':=by
 have HR:=Lib.hid (fun W (hB:Below w.heap.size w W)=>(hr.below hB).more hB.size);clear hr
 have HT:=Lib.hid hts;clear hts
 have hB0:=Below.refl w.heap.size w
 go_enter Tryz.func102,Tryz.ntmps102
 go_wp2_with fail
 go_loopw [3,4] (fun v i wr=>∃k:Nat,k≤n∧i=.int .i64 k∧v=.string (bs (jn ts k))∧Hid (∀i,i<k→tvB (ts.getD i (0,0))=true)∧Hid (Below w.heap.size w wr)) (fun _ i _=>n-(intOf i).toNat)
 case atStart=>exact ⟨0,Nat.zero_le _,rfl,rfl,fun i hi=>absurd hi (Nat.not_lt_zero _),hB0⟩
 case round =>
  clear hB0
  obtain ⟨k,hk,rfl,rfl,HOK,HB⟩:=hrel
  have hz:=jn_le ts k HOK.out (by rw [HT.out];exact hk)
  rw [←bs_size] at hz
  by_cases hlt:k<n
  ·obtain ⟨b,off,rfl,hb,h1,h2⟩:=(HR.out wr HB.out).trm hlt
   have HV:=Lib.hid (fun W=>specTermValid_any (ts.getD k (0,0)) W)
   have HX:=Lib.hid (fun W=>specTermText_any (ts.getD k (0,0)) W)
   cases hv:tvB (ts.getD k (0,0))
   ·have he:=tsT_bad (by rw [HT.out];exact hlt) hv
    have HE:=Lib.hid he
    rw [hv] at HV
    clear hv he HX
    generalize (ts.getD k (0,0)).1=x at *
    generalize (ts.getD k (0,0)).2=y at *
    go_wp2_with fail
    refine (HV.out _).mono ?_
    rintro e w1 ⟨rfl,hb1⟩
    have HB1:=Lib.hid (HB.out.trans (hb1.mono HB.out.size));clear hb1
    go_wp2_with fail
    go_ret
    exact ⟨ret_str (by rw [HE.out,bs_nil]),HB1.out⟩
   have HOK2:Hid (∀i,i<k+1→tvB (ts.getD i (0,0))=true):=fun i hi=>by
    rcases Nat.lt_or_ge i k with h | h
    ·exact HOK.out i h
    ·obtain rfl:i=k:=by omega
     exact hv
   have hz2:(bs (tmT (ts.getD k (0,0)))).size≤2:=by rw [bs_size,tmT_len hv];exact Nat.le_refl _
   rw [hv] at HV
   have HJ:Hid (bs (jn ts (k+1))=(if k=0 then bs [] else bs (jn ts k)++⟨#[32]⟩)++bs (tmT (ts.getD k (0,0)))):=by
    unfold Hid
    show bs ((if k=0 then [] else jn ts k++[32])++tmT (ts.getD k (0,0)))=_
    rw [←bs_append]
    split
    ·rfl
    ·rw [←bs_append];rfl
   have HJ0:Hid (k=0→bs (jn ts k)=⟨#[]⟩):=fun h=>by subst h;rfl
   clear hv
   generalize bs (jn ts k)=J at *
   generalize bs (tmT (ts.getD k (0,0)))=T at *
   generalize (ts.getD k (0,0)).1=x at *
   generalize (ts.getD k (0,0)).2=y at *
   by_cases h0:k=0
   ·have d0:decide (0<k)=false:=decide_eq_false (by omega)
    have H0:=Lib.hid h0;clear h0
    go_wp2_with fail
    refine (HV.out _).mono ?_
    rintro e w1 ⟨rfl,hb1⟩
    have HB1:=Lib.hid (HB.out.trans (hb1.mono HB.out.size))
    replace h1:=(hb1.cell (p:=⟨b,off+k*2,none⟩) hb).trans h1
    replace h2:=(hb1.cell (p:=⟨b,off+k*2+1,none⟩) hb).trans h2
    clear hb1
    go_wp2_with fail
    refine (HX.out _).mono ?_
    rintro e w2 ⟨rfl,hb2⟩
    have HB2:=Lib.hid (HB1.out.trans (hb2.mono HB1.out.size));clear hb2
    go_wp2_with fail
    go_roundw
    case rel=>exact ⟨k+1,by omega,by go_num,by have:=HJ.out;rw [if_pos H0.out] at this;rw [this,HJ0.out H0.out];rfl,HOK2,HB2⟩
    case measure=>simp [intOf];omega
   ·have d0:decide (0<k)=true:=decide_eq_true (by omega)
    go_wp2_with fail
    refine (HV.out _).mono ?_
    rintro e w1 ⟨rfl,hb1⟩
    have HB1:=Lib.hid (HB.out.trans (hb1.mono HB.out.size))
    replace h1:=(hb1.cell (p:=⟨b,off+k*2,none⟩) hb).trans h1
    replace h2:=(hb1.cell (p:=⟨b,off+k*2+1,none⟩) hb).trans h2
    clear hb1
    go_wp2_with fail
    refine (HX.out _).mono ?_
    rintro e w2 ⟨rfl,hb2⟩
    have HB2:=Lib.hid (HB1.out.trans (hb2.mono HB1.out.size));clear hb2
    go_wp2_with fail
    go_roundw
    case rel=>exact ⟨k+1,by omega,by go_num,by have:=HJ.out;rw [if_neg h0] at this;rw [this],HOK2,HB2⟩
    case measure=>simp [intOf];omega
  ·obtain rfl:k=n:=by omega
   by_cases h0:k=0
   ·subst h0
    have HE:=Lib.hid (tsT_none HT.out)
    go_wp2_with fail
    go_ret
    exact ⟨ret_str (by rw [HE.out];rfl),HB.out⟩
   ·have he:=tsT_all (ts:=ts) (by rw [HT.out];exact h0) (fun i hi=>HOK.out i (by rw [HT.out] at hi;exact hi))
    rw [HT.out] at he
    have HE:=Lib.hid he;clear he
    have e0:((k:Int)==0)=false:=by simp;omega
    go_wp2_with fail
    go_ret
    exact ⟨ret_str (by rw [HE.out]),HB.out⟩
end
section
open Go.RowKit
attribute [local go_sem ↓] Go.wp_at_zero Go.wp_at_succ
theorem specShellText_any (s:S3) (w:World) (hs:Sm s) :
 Calls Tryz.prog 154 #[.agg #[.int .i64 s.1,.int .i64 s.2.1,.int .i64 s.2.2]] w fun e w'=>e=.returned (.string (bs (shT s)))∧Below w.heap.size w w':=by
 have HV:=Lib.hid (fun W=>specShellValid_any s.1 s.2.1 s.2.2 W hs)
 rw [show ((s.1,s.2.1,s.2.2):S3)=s from rfl] at HV
 clear hs
 cases hv:shvB s
 ·have he:shT s=[]:=by unfold shT;rw [hv];simp
  rw [he,bs_nil];rw [hv] at HV;clear hv he
  have HB0:=Lib.hid (bel_alloc (Below.refl w.heap.size w) (.cells #[.int .i64 s.1,.int .i64 s.2.1,.int .i64 s.2.2] 42))
  obtain ⟨s1,s2,s3⟩:=s
  simp only at *
  go_enter Tryz.func154,Tryz.ntmps154
  go_wp2_with fail
  refine (HV.out _).mono ?_
  rintro e w1 ⟨rfl,hb1⟩
  have HB:=Lib.hid (bel_sub HB0.out hb1);clear hb1
  go_wp2_with fail
  go_ret
  exact ⟨rfl,HB.out⟩
 obtain ⟨n,l,c,rfl,h1,h2,h3,h4,h5,h6⟩:=shv_nat hv
 have he:bs (shT ((n:Int),(l:Int),(c:Int)))=bs (Lib.decDigits n)++bs [sLs.getD l 0]++bs (Lib.decDigits c):=by unfold shT;rw [if_pos hv,bs_append,bs_append];rfl
 rw [he];rw [hv] at HV;clear hv he
 have HI1:=Lib.hid (fun W=>l6Dec_any n (by omega) W)
 have HI2:=Lib.hid (fun W=>l6Dec_any c (by omega) W)
 have hz1:(bs (Lib.decDigits n)).size≤7:=by rw [bs_size];exact dig_len7 (by omega)
 have hz2:(bs (Lib.decDigits c)).size≤7:=by rw [bs_size];exact dig_len7 (by omega)
 have hz3:(bs [sLs.getD l 0]).size≤1:=Nat.le_of_eq (bs_size _)
 have hsl:=fun W=>slice_sLs l (by omega) W
 generalize bs (Lib.decDigits n)=D1 at *
 generalize bs (Lib.decDigits c)=D2 at *
 generalize bs [sLs.getD l 0]=V at *
 have u2:IntKind.i64.wrap ((l:Int)+1)=(l:Int)+1:=IntWalk.i64_in _ (by omega)
 have HB0:=Lib.hid (bel_alloc (Below.refl w.heap.size w) (.cells #[.int .i64 (n:Int),.int .i64 (l:Int),.int .i64 (c:Int)] 42))
 have HX:=Lib.hid (Blk.new w 42 #[.int .i64 (n:Int),.int .i64 (l:Int),.int .i64 (c:Int)])
 simp only at HV ⊢
 go_enter Tryz.func154,Tryz.ntmps154
 go_wp2_with fail
 refine (HV.out _).mono ?_
 rintro e w1 ⟨rfl,hb1⟩
 have HB:=Lib.hid (bel_sub HB0.out hb1)
 obtain ⟨x1,x2,x3⟩:=Level3 (HX.out.sub hb1)
 clear hb1 HB0 HX
 have k1:=After.cell x1
 have k2:=After.cell x2
 have k3:=After.cell x3
 go_wp2_with fail
 refine wp_region_after (by kernel_rfl) (by kernel_rfl) ?_
 repeat (go_big_quiet_step ((go_at_call 34;first | (with_reducible exact after_call _ (HI1.out _)) | (with_reducible exact after_call _ (HI2.out _)))))
 refine wpQuiet_nil ?_
 intro w9 hw'
 obtain ⟨⟨w9',hb9⟩,hw''⟩:=hw'
 subst hw''
 have HB9:=Lib.hid (bel_sub HB.out hb9);clear hb9
 go_wp2_with fail
 go_ret
 exact ⟨rfl,HB9.out⟩
theorem join_step (L:List (List UInt8)) (k:Nat) (h:k<L.length):Lib.join (L.take (k+1)) [32]=(if k=0 then [] else Lib.join (L.take k) [32]++[32])++L.getD k []:=by
 rw [List.take_succ_eq_append_getElem h,join_snoc]
 have e:(L.take k=[])↔k=0:=by
  rw [List.take_eq_nil_iff]
  constructor
  ·rintro (h1 | h1)
   ·exact h1
   ·subst h1;simp at h
  ·exact .inl
 rw [List.getD_eq_getElem?_getD,List.getElem?_eq_getElem h]
 by_cases hk:k=0
 ·rw [if_pos (e.2 hk),if_pos hk];rfl
 ·rw [if_neg (fun hc=>hk (e.1 hc)),if_neg hk];rfl
theorem specConfigText_any (A:Option Addr) (n c:Nat) (ss:List S3) (w:World) (hn:n≤1000) (hl:ss.length=n) (hs:∀s∈ss,Sm s) (hr:Reads w w.heap.size 3 A n (scellsS ss)) :
 Calls Tryz.prog 97 #[.slice A n c] w fun e w'=>e=.returned (.string (bs (cfgT ss)))∧Below w.heap.size w w':=by
 have HV:=Lib.hid (specConfigValid_any A n c ss w (by omega) hl hs hr)
 have HST:Hid (∀k,k<n→∀W,Calls Tryz.prog 154 #[.agg #[.int .i64 (gS ss k).1,.int .i64 (gS ss k).2.1,.int .i64 (gS ss k).2.2]] W fun e w'=>e=.returned (.string (bs (shT (gS ss k))))∧Below W.heap.size W w'):=fun k hk W=>specShellText_any (gS ss k) W (hs _ (gS_mem (by rw [hl];exact hk)))
 have HJL:=Lib.hid (join_leCk (m:=4) (L:=ss.map shT) (fun x hx=>by obtain ⟨s,_,rfl⟩:=List.mem_map.1 hx;exact shT_len s))
 have HJS:=Lib.hid (join_step (ss.map shT))
 have HGD:Hid (∀k,k<n→(ss.map shT).getD k []=shT (gS ss k)):=fun k hk=>by
  have hk':k<ss.length:=by rw [hl];exact hk
  rw [List.getD_eq_getElem?_getD,List.getElem?_map,List.getElem?_eq_getElem hk',gS_lt hk'];rfl
 have hml:(ss.map shT).length=n:=by rw [List.length_map,hl]
 rw [hml] at HJS HJL
 have HML:=Lib.hid hml
 have HR:=Lib.hid hr
 clear hr hl hs hml
 cases hv:cvB ss
 ·have he:cfgT ss=[]:=by unfold cfgT;rw [hv];simp
  rw [he,bs_nil];rw [hv] at HV;clear hv he
  go_enter Tryz.func97,Tryz.ntmps97
  go_wp2_with fail
  refine HV.out.mono ?_
  rintro e w1 ⟨rfl,hb1⟩
  have HB:=Lib.hid hb1;clear hb1
  go_wp2_with fail
  go_ret
  exact ⟨rfl,HB.out⟩
 have he:cfgT ss=Lib.join (ss.map shT) [32]:=by unfold cfgT;rw [hv,if_pos rfl]
 rw [he];rw [hv] at HV;clear hv he
 obtain ⟨L,hL⟩:∃L,ss.map shT=L:=⟨_,rfl⟩
 rw [hL] at HJL HJS HGD HML ⊢
 clear hL
 go_enter Tryz.func97,Tryz.ntmps97
 go_wp2_with fail
 refine HV.out.mono ?_
 rintro e w1 ⟨rfl,hb1⟩
 have HB1:=Lib.hid hb1;clear hb1 HV
 go_wp2_with fail
 go_loopw [3,4] (fun v i wr=>∃(k:Nat) (X:ByteArray),k≤n∧i=.int .i64 (k:Int)∧v=.string X∧Hid (X=bs (Lib.join (L.take k) [32]))∧Hid (Below w.heap.size w wr)) (fun _ i _=>n-(RowKit.intOf i).toNat)
 case atStart=>exact ⟨0,_,Nat.zero_le _,rfl,rfl,rfl,HB1.out⟩
 case round =>
  clear HB1
  obtain ⟨k,X,hk,rfl,rfl,HX,HB⟩:=hrel
  have hxs:X.size≤5*k:=by rw [HX.out,bs_size];exact HJL.out k hk
  by_cases hlt:k<n
  ·obtain ⟨b,off,rfl,hb,hc⟩:=(HR.out.below HB.out).shl hlt
   obtain ⟨r1,r2,r3⟩:=hc k hlt
   have HS:=Lib.hid (HST.out k hlt)
   have hj:=HJS.out k hlt
   rw [HGD.out k hlt] at hj
   have i1:(k:Int)<(n:Int):=by omega
   have i0:(0:Int)≤(k:Int):=by omega
   have hys:(bs (shT (gS ss k))).size≤4:=by rw [bs_size];exact shT_len _
   obtain ⟨t,ht⟩:∃t,shT (gS ss k)=t:=⟨_,rfl⟩
   rw [ht] at HS hj hys
   obtain ⟨⟨s1,s2,s3⟩,hsx⟩:∃s,gS ss k=s:=⟨_,rfl⟩
   rw [hsx] at HS r1 r2 r3
   simp only at HS r1 r2 r3
   clear hc ht hsx
   by_cases h0:k=0
   ·have HN:Hid (bs t=bs (Lib.join (L.take (k+1)) [32])):=by unfold Hid;rw [hj,if_pos h0,List.nil_append]
    have hxe:X=⟨#[]⟩:=by rw [HX.out,h0];rfl
    have HN2:Hid ((⟨#[]⟩:ByteArray)++bs t=bs (Lib.join (L.take (k+1)) [32])):=by unfold Hid;rw [←HN.out];show bs ([]:List UInt8)++bs t=_;rw [bs_append,List.nil_append]
    have d0:decide (0<k)=false:=decide_eq_false (by omega)
    subst hxe
    obtain ⟨T,hT⟩:∃T,bs t=T:=⟨_,rfl⟩
    rw [hT] at HS HN HN2 hys
    clear hT hj h0
    go_wp2_with fail
    refine (HS.out _).mono ?_
    rintro e w2 ⟨rfl,hb2⟩
    have HB2:=Lib.hid (bel_sub HB.out hb2);clear hb2
    go_wp2_with fail
    go_roundw
    case rel=>exact ⟨k+1,_,by omega,by go_num,rfl,by first | exact HN2.out | exact HN.out,HB2.out⟩
    case measure=>simp [RowKit.intOf];omega
   ·have HN:Hid (X++(⟨#[32]⟩:ByteArray)++bs t=bs (Lib.join (L.take (k+1)) [32])):=by unfold Hid;rw [hj,if_neg h0,HX.out,←bs_append,←bs_append];rfl
    have d0:decide (0<k)=true:=decide_eq_true (by omega)
    obtain ⟨T,hT⟩:∃T,bs t=T:=⟨_,rfl⟩
    rw [hT] at HS HN hys
    clear hT hj h0
    go_wp2_with fail
    refine (HS.out _).mono ?_
    rintro e w2 ⟨rfl,hb2⟩
    have HB2:=Lib.hid (bel_sub HB.out hb2);clear hb2
    go_wp2_with fail
    go_roundw
    case rel=>exact ⟨k+1,_,by omega,by go_num,rfl,HN.out,HB2.out⟩
    case measure=>simp [RowKit.intOf];omega
  ·obtain rfl:k=n:=by omega
   have HE:Hid (X=bs (Lib.join L [32])):=by unfold Hid;rw [HX.out,List.take_of_length_le (by rw [HML.out];exact Nat.le_refl _)]
   go_wp2_with fail
   go_ret
   exact ⟨by rw [←HE.out];rfl,HB.out⟩
end
end Go.Proofs.YtjdfbnlaiiknpaaGreatDoor
