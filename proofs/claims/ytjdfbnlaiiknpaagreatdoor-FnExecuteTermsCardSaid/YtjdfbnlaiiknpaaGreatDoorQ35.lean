/- Parts of the proof of : SpL Sx6. -/
import Derived.Test.YtjdfbnlaiiknpaaGreatDoorQ31
set_option maxHeartbeats 20000000
set_option maxRecDepth 1000000
set_option linter.unusedSimpArgs false
set_option linter.unusedVariables false
namespace Go.Proofs.YtjdfbnlaiiknpaaGreatDoor
section
open Go.RowKit
attribute [local go_sem ↓] Go.wp_at_zero Go.wp_at_succ
theorem specLevelText_any (t:T2) (j:Int) (w:World) :
 Calls Tryz.prog 101 #[.agg #[.int .i64 t.1,.int .i64 t.2,.int .i64 j]] w fun e w'=>e=.returned (.string (bs (if lvB t j=true then l1T t j else [])))∧Below w.heap.size w w':=by
 have HV:=Lib.hid (fun W=>specLevelValid_all t j W)
 have HX:=Lib.hid (fun W=>specTermText_any t W)
 have HY:=Lib.hid (fun W=>specSpinText_any j W)
 have HB:=Lib.hid ((Below.refl w.heap.size w).alloc (Nat.le_refl _) (.cells #[.int .i64 t.1,.int .i64 t.2,.int .i64 j] 131))
 have HD:=Lib.hid (Blk.new w 131 #[.int .i64 t.1,.int .i64 t.2,.int .i64 j])
 cases hv:lvB t j
 ·rw [hv] at HV
  rw [if_neg (by simp),bs_nil]
  clear hv
  obtain ⟨s,l⟩:=t
  simp only at *
  go_enter Tryz.func101,Tryz.ntmps101
  go_wp2_with fail
  refine (HV.out _).mono ?_
  rintro e w1 ⟨rfl,hb1⟩
  have HB1:=Lib.hid (HB.out.trans (hb1.mono HB.out.size));clear hb1
  go_wp2_with fail
  go_ret
  exact ⟨rfl,HB1.out⟩
 rw [hv] at HV
 have hv1:=(lvB_iff.1 hv).1
 rw [if_pos rfl]
 have hz1:(bs (tmT t)).size≤2:=by rw [bs_size,tmT_len hv1];exact Nat.le_refl _
 have hz2:(bs (spT j)).size≤9:=by rw [bs_size];exact spT_len j
 have hl1:bs (l1T t j)=bs (tmT t)++bs (spT j):=(bs_append _ _).symm
 rw [hl1]
 clear hv hv1 hl1
 generalize bs (tmT t)=X at *
 generalize bs (spT j)=Y at *
 obtain ⟨s,l⟩:=t
 simp only at *
 go_enter Tryz.func101,Tryz.ntmps101
 go_wp2_with fail
 refine (HV.out _).mono ?_
 rintro e w1 ⟨rfl,hb1⟩
 have HB1:=Lib.hid (HB.out.trans (hb1.mono HB.out.size))
 obtain ⟨d1,d2,d3⟩:=Level3 (HD.out.sub hb1);clear hb1
 have k1:=After.cell d1
 have k2:=After.cell d2
 have k3:=After.cell d3
 clear d1 d2 d3
 go_wp2_with fail
 refine wp_region_after (by kernel_rfl) (by kernel_rfl) ?_
 repeat (go_big_quiet_step ((first | (go_at_call 158;exact after_call _ (HX.out _)) | (go_at_call 159;exact after_call _ (HY.out _)))))
 refine wpQuiet_nil ?_
 intro w9 hw'
 obtain ⟨⟨w9',hb9⟩,hw''⟩:=hw'
 subst hw''
 have HB9:=Lib.hid (HB1.out.trans (hb9.mono HB1.out.size));clear hb9
 go_wp2_with fail
 go_ret
 exact ⟨rfl,HB9.out⟩
theorem tmF_text (q:List UInt8) (h:(tmF q).2=true):tmT (tmF q).1=q:=by
 unfold tmF at h ⊢
 split
 ·rename_i hc;exact hc.2
 ·rename_i hc;rw [if_neg hc] at h;cases h
theorem specLevelFrom_all (s:List UInt8) (w:World) (hl:s.length≤1000000) :
 Calls Tryz.prog 105 #[.string (bs s)] w fun e w'=>e=.returned (lvV (lvF s))∧Below w.heap.size w w':=by
 have HB0:=Lib.hid (bel_alloc (Below.refl w.heap.size w) (.cells #[.int .i64 0,.int .i64 0,.int .i64 0] 131))
 have HX0:=Lib.hid (Blk.new w 131 #[.int .i64 0,.int .i64 0,.int .i64 0])
 have hzs:(bs s).size≤1000000:=by rw [bs_size];exact hl
 by_cases hn:3≤s.length
 case neg =>
  have he:lvF s=(((0,0),0),false):=by unfold lvF;rw [if_neg (fun h=>hn h.1)]
  have hn2:(bs s).size<3:=by rw [bs_size];omega
  rw [he];clear he hn
  unfold lvV
  generalize bs s=X at *
  go_enter Tryz.func105,Tryz.ntmps105
  go_wp2_with fail
  refine bodyPost_ret (results_ct3 rfl _ _ w.heap.size _ _ rfl HX0.out Tryz.underlying131 rfl (by kernel_rfl)) rfl ?_
  exact ⟨rfl,HB0.out⟩
 have hn2:3≤(bs s).size:=by rw [bs_size];exact hn
 have HTF:=Lib.hid (fun W=>specTermFrom_all (s.take 2) W (by rw [List.length_take];omega))
 have HS1:=Lib.hid (sl_head s 2 (by omega))
 obtain ⟨r,hr⟩:∃r,tmF (s.take 2)=r:=⟨_,rfl⟩
 rw [hr] at HTF
 have HE0:Hid (lvF s=if r.2=true then (match lvJ r.1 (s.drop 2) with | some j=>((r.1,j),true) | none=>(((0,0),0),false)) else (((0,0),0),false)):=by
  unfold Hid lvF
  rw [hr]
  cases r.2
  ·rw [if_neg (by simp),if_neg (by simp)]
  ·rw [if_pos ⟨hn,rfl⟩,if_pos rfl];rfl
 have htm:=hr
 rw [HE0.out];clear HE0 hr hl
 obtain ⟨⟨a,b⟩,ok⟩:=r
 unfold tmV at HTF
 simp only at HTF
 cases ok
 ·rw [if_neg (by simp)]
  unfold lvV
  generalize bs s=X at *
  generalize bs (s.take 2)=Y at *
  have hs1:∀W:World,(Instr.slice 9 (.string X) none (some (.int .i64 2)) none).run Tryz.prog W=.ok (.string Y) W:=fun W=>HS1.out W
  go_enter Tryz.func105,Tryz.ntmps105
  go_wp2_with fail
  refine (HTF.out _).mono ?_
  rintro e w1 ⟨rfl,hb1⟩
  have HX1:=Lib.hid (HX0.out.sub hb1)
  have HB1:=Lib.hid (bel_sub HB0.out hb1)
  have hlt:=HX1.out.lt
  obtain ⟨x1,x2,x3,f1,f2,f3⟩:=blk3 HX1.out
  clear hb1
  have HZ:=Lib.hid ((((HX1.out.set 0 (.int .i64 0)).set 1 (.int .i64 0)).set 2 (.int .i64 0)).alloc (.cells #[.int .i64 a,.int .i64 b] 39))
  have HBZ:=Lib.hid (bel_alloc (bel_set (g:=w.heap.size) (i:=2) (u:=.int .i64 0) (bel_set2 (g:=w.heap.size) (x:=.int .i64 0) (y:=.int .i64 0) HB1.out (Nat.le_refl _)) (Nat.le_refl _)) (.cells #[.int .i64 a,.int .i64 b] 39))
  go_wp2_with fail
  refine bodyPost_ret (results_ct3 rfl _ _ w.heap.size _ _ rfl HZ.out Tryz.underlying131 rfl (by kernel_rfl)) rfl ?_
  exact ⟨rfl,HBZ.out⟩
 ·rw [if_pos rfl]
  have HLO:=Lib.hid (fun W=>specLevelsOf_any (a,b) W)
  have htx:=tmF_text (s.take 2) (by rw [htm])
  rw [htm] at htx
  simp only at htx
  have HTX:Hid (∀j,j∈lvJs (a,b)→∀W,Calls Tryz.prog 101 #[.agg #[.int .i64 a,.int .i64 b,.int .i64 j]] W fun e w'=>e=.returned (.string (bs (l1T (a,b) j)))∧Below W.heap.size W w'):=fun j hj W=>by
   have:=specLevelText_any (a,b) j W
   rwa [lvB_mem.2 hj,if_pos rfl] at this
  have HBE:Hid (∀j,((bs (l1T (a,b) j)).toList==(bs s).toList)=decide (spT j=s.drop 2)):=fun j=>by
   rw [bs_eq]
   rw [Bool.eq_iff_iff,decide_eq_true_eq,decide_eq_true_eq]
   unfold l1T
   rw [htx]
   constructor
   ·intro h
    have h2:=congrArg (List.drop 2) h
    rwa [List.drop_append_of_le_length (by rw [List.length_take];omega),List.drop_of_length_le (by rw [List.length_take];omega),List.nil_append] at h2
   ·intro h
    rw [h,List.take_append_drop]
  have HZZ:Hid (∀j,j∈lvJs (a,b)→(bs (l1T (a,b) j)).size≤11):=fun j hj=>by rw [bs_size];exact l1T_len (lv_valid hj) j
  unfold LevelsPost at HLO
  have hlv:lvJ (a,b) (s.drop 2)=(lvJs (a,b)).find? fun j=>decide (spT j=s.drop 2):=rfl
  rw [hlv];clear hlv htx htm
  have hlen:(lvJs (a,b)).length≤1000:=by
   cases hv:tvB (a,b)
   ·unfold lvJs;rw [hv];simp
   ·exact Nat.le_trans (lv_len hv).2 (by omega)
  obtain ⟨js,hjs⟩:∃js,lvJs (a,b)=js:=⟨_,rfl⟩
  obtain ⟨n,hnn⟩:∃n,js.length=n:=⟨_,rfl⟩
  rw [hjs] at HLO hlen HTX HZZ ⊢
  rw [hnn] at HLO hlen
  have HN:=Lib.hid hnn;clear hjs hnn
  obtain ⟨R,hR⟩:∃R,s.drop 2=R:=⟨_,rfl⟩
  rw [hR] at HBE ⊢
  obtain ⟨rv,hrv⟩:∃rv:(T2 × Int) × Bool,(match js.find? fun j=>decide (spT j=R) with | some j=>(((a,b),j),true) | none=>(((0,0),0),false))=rv:=⟨_,rfl⟩
  have HRV:=Lib.hid hrv
  rw [hrv];clear hrv hR
  generalize bs s=X at *
  generalize bs (s.take 2)=Y at *
  have hs1:∀W:World,(Instr.slice 9 (.string X) none (some (.int .i64 2)) none).run Tryz.prog W=.ok (.string Y) W:=fun W=>HS1.out W
  go_enter Tryz.func105,Tryz.ntmps105
  go_wp2_with fail
  refine (HTF.out _).mono ?_
  rintro e w1 ⟨rfl,hb1⟩
  clear hs1 HS1
  have HX1:=Lib.hid ((HX0.out.sub hb1).alloc (.cells #[.int .i64 a,.int .i64 b] 39))
  have HB1:=Lib.hid (bel_alloc (bel_sub HB0.out hb1) (.cells #[.int .i64 a,.int .i64 b] 39))
  have HT1:=Lib.hid (Blk.new w1 39 #[.int .i64 a,.int .i64 b])
  clear hb1 HX0 HB0
  obtain ⟨x1,x2,_,_⟩:=blk2 HT1.out
  go_wp2_with fail
  refine (HLO.out _).mono ?_
  rintro e w2 ⟨⟨A,c,rfl,hr2⟩,hb2⟩
  have HX2:=Lib.hid (HX1.out.sub hb2)
  have HB2:=Lib.hid (bel_sub HB1.out hb2)
  have HR2:=Lib.hid (own_reads hr2)
  have hlt:=HX2.out.lt
  clear hb2 HX1 HB1 hr2 HT1 HLO HTF x1 x2
  go_wp2_with fail
  go_loopw [7] (fun i wr=>∃(k:Nat),k≤n∧i=.int .i64 k∧Hid (Below w2.heap.size w2 wr)∧Hid (∀j∈js.take k,decide (spT j=R)=false)) (fun i _=>n-(RowKit.intOf i).toNat)
  case atStart=>exact ⟨0,Nat.zero_le _,rfl,Below.refl _ _,fun j hj=>by simp at hj⟩
  case round =>
   obtain ⟨k,hk,rfl,HB,HNO⟩:=hrel
   by_cases hlt':k<n
   ·obtain ⟨b',off,j,rfl,hb',r1,r2,r3,hg⟩:=(HR2.out.below HB.out).lev HN.out hlt'
    have hjm:j∈js:=List.mem_of_getElem? hg.out
    have HG:=Lib.hid hg;clear hg
    have i1:(k:Int)<(n:Int):=by omega
    have i0:(0:Int)≤(k:Int):=by omega
    have hz1:=HZZ.out j hjm
    have hsp:=fun W=>HTX.out j hjm W
    have HQ:=Lib.hid hsp;clear hsp hjm
    obtain ⟨q,hq⟩:∃q:Bool,decide (spT j=R)=q:=⟨_,rfl⟩
    have hbe:=HBE.out j
    rw [hq] at hbe
    have HQE:=Lib.hid hq;clear hq
    generalize bs (l1T (a,b) j)=D at *
    have HBW:=Lib.hid (bel_sub HB2.out HB.out)
    have HXW:=Lib.hid (HX2.out.sub HB.out)
    have hsz:=HB.out.size
    go_wp2_with fail
    refine (HQ.out _).mono ?_
    rintro e w9 ⟨rfl,hb9⟩
    have q1:=(hb9.cell (p:=⟨b',off+k*3,none⟩) (Nat.lt_of_lt_of_le hb' hsz)).trans r1
    have q2:=(hb9.cell (p:=⟨b',off+k*3+1,none⟩) (Nat.lt_of_lt_of_le hb' hsz)).trans r2
    have q3:=(hb9.cell (p:=⟨b',off+k*3+2,none⟩) (Nat.lt_of_lt_of_le hb' hsz)).trans r3
    have HX9:=Lib.hid (HXW.out.sub hb9)
    have HB9:=Lib.hid (bel_sub HBW.out hb9)
    have HBR9:=Lib.hid (bel_sub HB.out hb9)
    clear hb9 r1 r2 r3
    cases q
    ·have HNN:Hid (∀j∈js.take (k+1),decide (spT j=R)=false):=by
      intro i hi
      have hkl:k<js.length:=by rw [HN.out];exact hlt'
      rw [List.take_succ_eq_append_getElem hkl] at hi
      rcases List.mem_append.1 hi with hi | hi
      ·exact HNO.out i hi
      ·have:js[k]=j:=by have:=HG.out;rw [List.getElem?_eq_getElem hkl] at this;injection this
       simp only [List.mem_singleton] at hi
       rw [hi,this];exact HQE.out
     go_wp2_with fail
     go_roundw
     case rel=>exact ⟨k+1,by omega,by go_num,HBR9.out,HNN.out⟩
     case measure=>simp [RowKit.intOf];omega
    ·have HF:Hid (js.find? (fun j=>decide (spT j=R))=some j):=find_take (k:=k) HNO.out HG.out HQE.out
     obtain ⟨x1,x2,x3,f1,f2,f3⟩:=blk3 HX9.out
     have HZ:=Lib.hid (((HX9.out.set 0 (.int .i64 a)).set 1 (.int .i64 b)).set 2 (.int .i64 j))
     have HBZ:=Lib.hid (bel_set (g:=w.heap.size) (i:=2) (u:=.int .i64 j) (bel_set2 (g:=w.heap.size) (x:=.int .i64 a) (y:=.int .i64 b) HB9.out (Nat.le_refl _)) (Nat.le_refl _))
     go_wp2_with fail
     refine bodyPost_ret (results_ct3 rfl _ _ w.heap.size _ _ rfl HZ.out Tryz.underlying131 rfl (by kernel_rfl)) rfl ?_
     exact ⟨by rw [←HRV.out,HF.out];rfl,HBZ.out⟩
   ·obtain rfl:k=n:=by omega
    have HF:Hid (js.find? (fun j=>decide (spT j=R))=none):=by
     refine List.find?_eq_none.2 fun j hj=>?_
     have:=HNO.out j (by rw [List.take_of_length_le (by rw [HN.out];exact Nat.le_refl _)];exact hj)
     rw [this];simp
    have HX9:=Lib.hid (HX2.out.sub HB.out)
    have HB9:=Lib.hid (bel_sub HB2.out HB.out)
    obtain ⟨x1,x2,x3,f1,f2,f3⟩:=blk3 HX9.out
    have HZ:=Lib.hid (((HX9.out.set 0 (.int .i64 0)).set 1 (.int .i64 0)).set 2 (.int .i64 0))
    have HBZ:=Lib.hid (bel_set (g:=w.heap.size) (i:=2) (u:=.int .i64 0) (bel_set2 (g:=w.heap.size) (x:=.int .i64 0) (y:=.int .i64 0) HB9.out (Nat.le_refl _)) (Nat.le_refl _))
    go_wp2_with fail
    refine bodyPost_ret (results_ct3 rfl _ _ w.heap.size _ _ rfl HZ.out Tryz.underlying131 rfl (by kernel_rfl)) rfl ?_
    exact ⟨by rw [←HRV.out,HF.out];rfl,HBZ.out⟩
end
section
open Go.RowKit
attribute [local go_sem ↓] Go.wp_at_zero Go.wp_at_succ
theorem sxB_in {a b c d e f:Int} (h:inB a 0 6=false∨inB b 0 6=false∨inB c 0 6=false∨inB d 0 6=false∨inB e 0 6=false∨inB f 0 6=false):sxB a b c d e f=false:=by
 cases hb:sxB a b c d e f
 ·rfl
 ·obtain ⟨⟨h1,h2,h3,h4,h5,h6⟩,_⟩:=sxB_iff.1 hb
  simp only [inB_not] at h
  omega
theorem sxB_tr {a b c d e f:Int} (h:triB a b c=false∨triB a e f=false∨triB d b f=false∨triB d e c=false):sxB a b c d e f=false:=by
 cases hb:sxB a b c d e f
 ·rfl
 ·obtain ⟨_,t1,t2,t3,t4⟩:=sxB_iff.1 hb
  rw [t1,t2,t3,t4] at h
  simp at h
def inK (a b c d e f:Int):Nat→Prop
 | 0=>True
 | 1=>inB a 0 6=true
 | 2=>inB a 0 6=true∧inB b 0 6=true
 | 3=>inB a 0 6=true∧inB b 0 6=true∧inB c 0 6=true
 | 4=>inB a 0 6=true∧inB b 0 6=true∧inB c 0 6=true∧inB d 0 6=true
 | 5=>inB a 0 6=true∧inB b 0 6=true∧inB c 0 6=true∧inB d 0 6=true∧inB e 0 6=true
 | _=>inB a 0 6=true∧inB b 0 6=true∧inB c 0 6=true∧inB d 0 6=true∧inB e 0 6=true∧inB f 0 6=true
theorem l23Ok_any (a b c d e f:Int) (w:World) :
 Calls Tryz.prog 114 #[.int .i64 a,.int .i64 b,.int .i64 c,.int .i64 d,.int .i64 e,.int .i64 f] w fun en w'=>en=.returned (.bool (sxB a b c d e f))∧Below w.heap.size w w':=by
 have HT1:=Lib.hid (fun W=>specTriangle_all a b c W)
 have HT2:=Lib.hid (fun W=>specTriangle_all a e f W)
 have HT3:=Lib.hid (fun W=>specTriangle_all d b f W)
 have HT4:=Lib.hid (fun W=>specTriangle_all d e c W)
 have HB0:=Lib.hid (bel_alloc (Below.refl w.heap.size w) (.cells #[.int .i64 a,.int .i64 b,.int .i64 c,.int .i64 d,.int .i64 e,.int .i64 f] 3))
 have HX0:=Lib.hid (Blk.new w 3 #[.int .i64 a,.int .i64 b,.int .i64 c,.int .i64 d,.int .i64 e,.int .i64 f])
 have HIN:=Lib.hid (sxB_in (a:=a) (b:=b) (c:=c) (d:=d) (e:=e) (f:=f))
 have HTR:=Lib.hid (sxB_tr (a:=a) (b:=b) (c:=c) (d:=d) (e:=e) (f:=f))
 have HYE:Hid (inK a b c d e f 6→triB a b c=true→triB a e f=true→triB d b f=true→triB d e c=true→sxB a b c d e f=true):=fun hi t1 t2 t3 t4=>by
  obtain ⟨h1,h2,h3,h4,h5,h6⟩:=hi
  rw [sxB_iff]
  simp only [inB_iff] at h1 h2 h3 h4 h5 h6
  exact ⟨⟨h1,h2,h3,h4,h5,h6⟩,t1,t2,t3,t4⟩
 obtain ⟨r,hr⟩:∃r,sxB a b c d e f=r:=⟨_,rfl⟩
 rw [hr] at HIN HTR HYE ⊢
 clear hr
 go_enter Tryz.func114,Tryz.ntmps114
 go_wp2_with fail
 go_loopw [14] (fun i wr=>∃(k:Nat),k≤6∧i=.int .i64 (k:Int)∧Hid (inK a b c d e f k)∧Hid (Blk wr w.heap.size 3 #[.int .i64 a,.int .i64 b,.int .i64 c,.int .i64 d,.int .i64 e,.int .i64 f])∧Hid (Below w.heap.size w wr)) (fun i _=>6-(RowKit.intOf i).toNat)
 case atStart=>exact ⟨0,by omega,rfl,trivial,HX0.out,HB0.out⟩
 case round =>
  clear HX0 HB0
  obtain ⟨k,hk,rfl,HO,HX,HB⟩:=hrel
  have hk7:k=0∨k=1∨k=2∨k=3∨k=4∨k=5∨k=6:=by omega
  clear hk
  obtain ⟨⟨x0,x1,x2⟩,x3,x4,x5⟩:=blk6 HX.out
  rcases hk7 with rfl | rfl | rfl | rfl | rfl | rfl | rfl
  ·have HI:=Lib.hid (fun W=>l6In_any a 0 6 W)
   have ho:=HO.out
   unfold inK at ho
   cases hv:inB a 0 6
   ·rw [hv] at HI
    have HE:Hid (r=false):=HIN.out (by simp [hv])
    clear hv ho
    go_wp2_with fail
    refine (HI.out _).mono ?_
    rintro en w' ⟨rfl,rfl⟩
    go_wp2_with fail
    go_ret
    exact ⟨ret_bool HE.out.symm,HB.out⟩
   ·rw [hv] at HI
    have HO2:Hid (inK a b c d e f 1):=hv
    clear hv ho
    go_wp2_with fail
    refine (HI.out _).mono ?_
    rintro en w' ⟨rfl,rfl⟩
    go_wp2_with fail
    go_roundw
    case rel=>exact ⟨1,by omega,rfl,HO2.out,HX.out,HB.out⟩
    case measure=>simp [RowKit.intOf]
  ·have HI:=Lib.hid (fun W=>l6In_any b 0 6 W)
   have ho:=HO.out
   unfold inK at ho
   cases hv:inB b 0 6
   ·rw [hv] at HI
    have HE:Hid (r=false):=HIN.out (by simp [hv])
    clear hv ho
    go_wp2_with fail
    refine (HI.out _).mono ?_
    rintro en w' ⟨rfl,rfl⟩
    go_wp2_with fail
    go_ret
    exact ⟨ret_bool HE.out.symm,HB.out⟩
   ·rw [hv] at HI
    have HO2:Hid (inK a b c d e f 2):=⟨ho,hv⟩
    clear hv ho
    go_wp2_with fail
    refine (HI.out _).mono ?_
    rintro en w' ⟨rfl,rfl⟩
    go_wp2_with fail
    go_roundw
    case rel=>exact ⟨2,by omega,rfl,HO2.out,HX.out,HB.out⟩
    case measure=>simp [RowKit.intOf]
  ·have HI:=Lib.hid (fun W=>l6In_any c 0 6 W)
   have ho:=HO.out
   unfold inK at ho
   cases hv:inB c 0 6
   ·rw [hv] at HI
    have HE:Hid (r=false):=HIN.out (by simp [hv])
    clear hv ho
    go_wp2_with fail
    refine (HI.out _).mono ?_
    rintro en w' ⟨rfl,rfl⟩
    go_wp2_with fail
    go_ret
    exact ⟨ret_bool HE.out.symm,HB.out⟩
   ·rw [hv] at HI
    have HO2:Hid (inK a b c d e f 3):=⟨ho.1,ho.2,hv⟩
    clear hv ho
    go_wp2_with fail
    refine (HI.out _).mono ?_
    rintro en w' ⟨rfl,rfl⟩
    go_wp2_with fail
    go_roundw
    case rel=>exact ⟨3,by omega,rfl,HO2.out,HX.out,HB.out⟩
    case measure=>simp [RowKit.intOf]
  ·have HI:=Lib.hid (fun W=>l6In_any d 0 6 W)
   have ho:=HO.out
   unfold inK at ho
   cases hv:inB d 0 6
   ·rw [hv] at HI
    have HE:Hid (r=false):=HIN.out (by simp [hv])
    clear hv ho
    go_wp2_with fail
    refine (HI.out _).mono ?_
    rintro en w' ⟨rfl,rfl⟩
    go_wp2_with fail
    go_ret
    exact ⟨ret_bool HE.out.symm,HB.out⟩
   ·rw [hv] at HI
    have HO2:Hid (inK a b c d e f 4):=⟨ho.1,ho.2.1,ho.2.2,hv⟩
    clear hv ho
    go_wp2_with fail
    refine (HI.out _).mono ?_
    rintro en w' ⟨rfl,rfl⟩
    go_wp2_with fail
    go_roundw
    case rel=>exact ⟨4,by omega,rfl,HO2.out,HX.out,HB.out⟩
    case measure=>simp [RowKit.intOf]
  ·have HI:=Lib.hid (fun W=>l6In_any e 0 6 W)
   have ho:=HO.out
   unfold inK at ho
   cases hv:inB e 0 6
   ·rw [hv] at HI
    have HE:Hid (r=false):=HIN.out (by simp [hv])
    clear hv ho
    go_wp2_with fail
    refine (HI.out _).mono ?_
    rintro en w' ⟨rfl,rfl⟩
    go_wp2_with fail
    go_ret
    exact ⟨ret_bool HE.out.symm,HB.out⟩
   ·rw [hv] at HI
    have HO2:Hid (inK a b c d e f 5):=⟨ho.1,ho.2.1,ho.2.2.1,ho.2.2.2,hv⟩
    clear hv ho
    go_wp2_with fail
    refine (HI.out _).mono ?_
    rintro en w' ⟨rfl,rfl⟩
    go_wp2_with fail
    go_roundw
    case rel=>exact ⟨5,by omega,rfl,HO2.out,HX.out,HB.out⟩
    case measure=>simp [RowKit.intOf]
  ·have HI:=Lib.hid (fun W=>l6In_any f 0 6 W)
   have ho:=HO.out
   unfold inK at ho
   cases hv:inB f 0 6
   ·rw [hv] at HI
    have HE:Hid (r=false):=HIN.out (by simp [hv])
    clear hv ho
    go_wp2_with fail
    refine (HI.out _).mono ?_
    rintro en w' ⟨rfl,rfl⟩
    go_wp2_with fail
    go_ret
    exact ⟨ret_bool HE.out.symm,HB.out⟩
   ·rw [hv] at HI
    have HO2:Hid (inK a b c d e f 6):=⟨ho.1,ho.2.1,ho.2.2.1,ho.2.2.2.1,ho.2.2.2.2,hv⟩
    clear hv ho
    go_wp2_with fail
    refine (HI.out _).mono ?_
    rintro en w' ⟨rfl,rfl⟩
    go_wp2_with fail
    go_roundw
    case rel=>exact ⟨6,by omega,rfl,HO2.out,HX.out,HB.out⟩
    case measure=>simp [RowKit.intOf]
  ·clear x0 x1 x2 x3 x4 x5
   cases h1:triB a b c
   ·rw [h1] at HT1
    have HE:Hid (r=false):=HTR.out (by simp [h1])
    go_wp2_with fail
    refine (HT1.out _).mono ?_
    rintro en w' ⟨rfl,rfl⟩
    go_wp2_with fail
    go_ret
    exact ⟨ret_bool HE.out.symm,HB.out⟩
   rw [h1] at HT1
   cases h2:triB a e f
   ·rw [h2] at HT2
    have HE:Hid (r=false):=HTR.out (by simp [h2])
    go_wp2_with fail
    refine (HT1.out _).mono ?_
    rintro en w' ⟨rfl,rfl⟩
    go_wp2_with fail
    refine (HT2.out _).mono ?_
    rintro en w' ⟨rfl,rfl⟩
    go_wp2_with fail
    go_ret
    exact ⟨ret_bool HE.out.symm,HB.out⟩
   rw [h2] at HT2
   cases h3:triB d b f
   ·rw [h3] at HT3
    have HE:Hid (r=false):=HTR.out (by simp [h3])
    go_wp2_with fail
    refine (HT1.out _).mono ?_
    rintro en w' ⟨rfl,rfl⟩
    go_wp2_with fail
    refine (HT2.out _).mono ?_
    rintro en w' ⟨rfl,rfl⟩
    go_wp2_with fail
    refine (HT3.out _).mono ?_
    rintro en w' ⟨rfl,rfl⟩
    go_wp2_with fail
    go_ret
    exact ⟨ret_bool HE.out.symm,HB.out⟩
   rw [h3] at HT3
   cases h4:triB d e c
   ·rw [h4] at HT4
    have HE:Hid (r=false):=HTR.out (by simp [h4])
    go_wp2_with fail
    refine (HT1.out _).mono ?_
    rintro en w' ⟨rfl,rfl⟩
    go_wp2_with fail
    refine (HT2.out _).mono ?_
    rintro en w' ⟨rfl,rfl⟩
    go_wp2_with fail
    refine (HT3.out _).mono ?_
    rintro en w' ⟨rfl,rfl⟩
    go_wp2_with fail
    refine (HT4.out _).mono ?_
    rintro en w' ⟨rfl,rfl⟩
    go_wp2_with fail
    go_ret
    exact ⟨ret_bool HE.out.symm,HB.out⟩
   rw [h4] at HT4
   have HE:Hid (r=true):=HYE.out HO.out h1 h2 h3 h4
   go_wp2_with fail
   refine (HT1.out _).mono ?_
   rintro en w' ⟨rfl,rfl⟩
   go_wp2_with fail
   refine (HT2.out _).mono ?_
   rintro en w' ⟨rfl,rfl⟩
   go_wp2_with fail
   refine (HT3.out _).mono ?_
   rintro en w' ⟨rfl,rfl⟩
   go_wp2_with fail
   refine (HT4.out _).mono ?_
   rintro en w' ⟨rfl,rfl⟩
   go_wp2_with fail
   go_ret
   exact ⟨ret_bool HE.out.symm,HB.out⟩
theorem mulN_pos {gs:List Nat} {t:Nat} (h:gs.sum=t):1≤mulN t gs:=by
 have:=mulN_fac gs t h
 rcases Nat.eq_zero_or_pos (mulN t gs) with h0 | h0
 ·rw [h0,Nat.zero_mul] at this
  have:=fac_pos t;omega
 ·exact h0
def gsNeg (gs:List Int) (k:Nat):Prop:=∀j,j<k→0≤gs.getD j 0
def sumT (gs:List Int) (k:Nat):Nat:=((gs.take k).map Int.toNat).sum
theorem sumT_succ {gs:List Int} {k:Nat} (h:k<gs.length):sumT gs (k+1)=sumT gs k+(gs.getD k 0).toNat:=by
 unfold sumT
 rw [List.take_succ_eq_append_getElem h,List.map_append,List.sum_append,List.getD_eq_getElem?_getD,List.getElem?_eq_getElem h]
 simp
theorem wyZ_no {gs:List Int} {k:Nat} (hk:k<gs.length) (h:gs.getD k 0<0):wyZ gs=0:=by
 unfold wyZ
 rw [if_neg]
 intro hall
 have:=List.all_eq_true.1 hall (gs.getD k 0) (by rw [List.getD_eq_getElem?_getD,List.getElem?_eq_getElem hk];exact List.getElem_mem _)
 simp at this;simp at h;omega
theorem wyZ_yes {gs:List Int} (h:gsNeg gs gs.length):wyZ gs=((mulN (sumT gs gs.length) (gs.map Int.toNat):Nat):Int):=by
 unfold wyZ sumT
 rw [if_pos,List.take_length]
 rw [List.all_eq_true]
 intro x hx
 obtain ⟨j,hj⟩:=List.mem_iff_getElem?.1 hx
 have hjl:=(List.getElem?_eq_some_iff.1 hj).1
 have:=h j hjl
 rw [List.getD_eq_getElem?_getD,hj] at this
 simpa using this
end
end Go.Proofs.YtjdfbnlaiiknpaaGreatDoor
