/- Parts of the proof of : Cs3 Cs4. -/
import Derived.Test.YtjdfbnlaiiknpaaGreatDoorQ25
set_option maxHeartbeats 20000000
set_option maxRecDepth 1000000
set_option linter.unusedSimpArgs false
set_option linter.unusedVariables false
namespace Go.Proofs.YtjdfbnlaiiknpaaGreatDoor
section
open Go.RowKit
attribute [local go_sem ↓] Go.wp_at_zero Go.wp_at_succ
theorem shv_sm {s:S3} (h:shvB s=true):Sm s:=by
 obtain ⟨n,l,c,rfl,h1,h2,h3,h4,h5,h6⟩:=shv_nat h
 unfold Sm
 simp only
 omega
theorem specConfigFrom_all (s:List UInt8) (hs:s.length≤900) (w:World) :
 Calls Tryz.prog 98 #[.string (bs s)] w (CFPost (cfF s) w):=by
 have HSP:=Lib.hid (l11Words_any s w (by omega))
 have hlen:=spl_len 32 s
 have HSF:Hid (∀k,k<(spl 32 s).length→∀W,Calls Tryz.prog 155 #[.string (bs ((spl 32 s).getD k []))] W fun e w'=>e=.returned (shO (shF ((spl 32 s).getD k [])))∧Below W.heap.size W w'):=by
  intro k hk W
  have hmem:(spl 32 s).getD k []∈spl 32 s:=by rw [List.getD_eq_getElem?_getD,List.getElem?_eq_getElem hk];exact List.getElem_mem _
  have:=spl_sub 32 s _ hmem
  exact specShellFrom_all _ W (by omega)
 have HNO:Hid (∀k,k<(spl 32 s).length→(shF ((spl 32 s).getD k [])).2=false→cfF s=([],false)):=fun k hk h=>cfF_no hk h
 have HYES:Hid ((spl 32 s).all (fun x=>(shF x).2)=true→cfF s=if cvB ((spl 32 s).map fun x=>(shF x).1)=true then ((spl 32 s).map fun x=>(shF x).1,true) else ([],false)):=fun h=>by unfold cfF;rw [if_pos h]
 obtain ⟨r,hr⟩:∃r,cfF s=r:=⟨_,rfl⟩
 rw [hr] at HNO HYES ⊢
 clear hr
 obtain ⟨ws,hws⟩:∃ws,spl 32 s=ws:=⟨_,rfl⟩
 rw [hws] at HSP hlen HSF HNO HYES
 clear hws
 obtain ⟨n,hn⟩:∃n,ws.length=n:=⟨_,rfl⟩
 rw [hn] at HSP hlen HSF HNO
 have HN:=Lib.hid hn
 clear hn
 generalize bs s=X at *
 go_enter Tryz.func98,Tryz.ntmps98
 go_wp2_with fail
 refine HSP.out.mono ?_
 rintro e w1 ⟨⟨AW,cW,rfl,_,hrw⟩,hb1⟩
 have HRW0:=Lib.hid hrw
 have HB1:=Lib.hid hb1
 have HB0:=Lib.hid (bel_alloc hb1 (.cells #[] 42))
 have HO0:=Lib.hid (own_empty w1 42 3)
 have HW0:=Lib.hid (bel_alloc (Below.refl w1.heap.size w1) (.cells #[] 42))
 have hbase:w.heap.size≤w1.heap.size:=hb1.size
 clear hrw hb1 HSP
 go_wp2_with fail
 go_loopw [5,6,7,8] (fun v i _ _ wr=>∃(k:Nat) (A:Option Addr) (c:Nat),k≤n∧i=.int .i64 k∧v=.slice A k c∧Hid (wr.ownsRow w1.heap.size 42 3 (.slice A k c) k (scellsS ((ws.map fun x=>(shF x).1).take k)))∧Hid (∀j,j<k→(shF (ws.getD j [])).2=true)∧Hid (Below w1.heap.size w1 wr)) (fun _ i _ _ _=>n-(RowKit.intOf i).toNat)
 case atStart=>exact ⟨0,_,_,Nat.zero_le _,rfl,rfl,HO0.out,fun j hj=>absurd hj (by omega),HW0.out⟩
 case round =>
  obtain ⟨k,A,c,hk,rfl,rfl,HO,HOK,HB⟩:=hrel
  clear HO0 HW0 HB0
  by_cases hlt:k<n
  ·have hkl:k<ws.length:=by rw [HN.out];exact hlt
   obtain ⟨gb,off,rfl,hgb,hcw⟩:=(HRW0.out.below HB.out).str HN.out hlt
   have HT:Hid (ws.take (k+1)=ws.take k++[ws.getD k []]):=by unfold Hid;rw [List.getD_eq_getElem?_getD,List.getElem?_eq_getElem hkl,List.take_succ_eq_append_getElem hkl];rfl
   have HS:=Lib.hid (HSF.out k hlt)
   have HNK:=Lib.hid (HNO.out k hlt)
   have HBR:=Lib.hid (bel_sub HB1.out HB.out)
   have hlw:=HB.out.size
   clear hkl
   obtain ⟨q,hq⟩:∃q,ws.getD k []=q:=⟨_,rfl⟩
   rw [hq] at HT HS HNK hcw
   have HQ:=Lib.hid hq
   clear hq
   obtain ⟨⟨⟨x1,x2,x3⟩,ok⟩,hx⟩:∃x,shF q=x:=⟨_,rfl⟩
   rw [hx] at HS HNK
   have HXQ:=Lib.hid hx
   clear hx
   unfold shO at HS
   simp only at HS HNK
   generalize bs q=D at *
   go_wp2_with fail
   refine (HS.out _).mono ?_
   rintro e w3 ⟨rfl,hb3⟩
   have HB3:=Lib.hid (bel_alloc (bel_sub HB.out hb3) (.cells #[.int .i64 x1,.int .i64 x2,.int .i64 x3] 42))
   have HO3:=Lib.hid ((own_below HO.out hb3).alloc (.cells #[.int .i64 x1,.int .i64 x2,.int .i64 x3] 42))
   have hlw3:w1.heap.size≤w3.heap.size:=Nat.le_trans hlw hb3.size
   clear hb3 hcw HO HB HBR HS
   cases ok
   ·have HRE:=Lib.hid (HNK.out rfl)
    have HBF:=Lib.hid (bel_sub HB1.out HB3.out)
    go_wp2_with fail
    go_ret2
    refine ⟨?_,bel_alloc HBF.out _⟩
    rw [HRE.out]
    exact ⟨_,_,rfl,Reads.none_⟩
   ·have HLS:Hid (scellsS ((ws.map fun x=>(shF x).1).take (k+1))=scellsS ((ws.map fun x=>(shF x).1).take k)++[.int .i64 x1,.int .i64 x2,.int .i64 x3]):=by
     unfold Hid;rw [←List.map_take,HT.out,List.map_append,List.map_singleton,HXQ.out,scellsS_snoc,List.map_take]
    have HOK2:Hid (∀j,j<k+1→(shF (ws.getD j [])).2=true):=fun j hj=>by
     by_cases h:j=k
     ·subst h;rw [HQ.out,HXQ.out]
     ·exact HOK.out j (by omega)
    go_wp2_with (at_builtin;refine wpList_app1b _ rfl (.tmp 29) (.tmp 31) _ rfl w1.heap.size 42 3 24 elShell A c k (scellsS ((ws.map fun x=>(shF x).1).take k)) rfl (HO3.out.alloc _) (w3.heap.size+1) #[.int .i64 x1,.int .i64 x2,.int .i64 x3] rfl ?hblk rfl ?h1 (by omega) (by omega) (by simp;omega) ?_)
    case hblk=>have:=Blk.new (w3.alloc (.cells #[.int .i64 x1,.int .i64 x2,.int .i64 x3] 42)) 42 #[.int .i64 x1,.int .i64 x2,.int .i64 x3];rw [World.size_alloc] at this;exact this
    case h1=>simp [Value.oneCell']
    intro A8 c8 w8 hown8 hc8 hb8
    have HW8:=Lib.hid hown8
    have HB8:Hid (Below w1.heap.size w1 w8):=(bel_alloc HB3.out _).trans hb8
    clear hown8 hb8
    go_wp2_with fail
    go_roundw
    case rel=>exact ⟨k+1,A8,c8,by omega,by go_num,rfl,by rw [HLS.out];exact HW8.out,HOK2.out,HB8.out⟩
    case measure=>simp [RowKit.intOf];omega
  ·obtain rfl:k=n:=by omega
   have hall:ws.all (fun x=>(shF x).2)=true:=by
    rw [List.all_eq_true]
    intro x hx
    obtain ⟨j,hj⟩:=List.mem_iff_getElem?.1 hx
    have hjl:j<ws.length:=by
     rcases Nat.lt_or_ge j ws.length with h | h
     ·exact h
     ·rw [List.getElem?_eq_none h] at hj;cases hj
    have:=HOK.out j (by rw [←HN.out];exact hjl)
    rw [List.getD_eq_getElem?_getD,hj] at this
    exact this
   have hsm:∀x∈ws.map fun x=>(shF x).1,Sm x:=by
    intro x hx
    obtain ⟨y,hy,rfl⟩:=List.mem_map.1 hx
    exact shv_sm (shF_yes (List.all_eq_true.1 hall y hy)).1
   have HRE:=Lib.hid (HYES.out hall)
   have htk:(ws.map fun x=>(shF x).1).take k=ws.map fun x=>(shF x).1:=List.take_of_length_le (by rw [List.length_map,HN.out];exact Nat.le_refl _)
   rw [htk] at HO
   obtain ⟨ss,hss⟩:∃ss,(ws.map fun x=>(shF x).1)=ss:=⟨_,rfl⟩
   rw [hss] at HO HRE hsm
   have hsl:ss.length=k:=by rw [←hss,List.length_map,HN.out]
   have HSL:=Lib.hid hsl
   have HCV:=Lib.hid (specConfigValid_any A k c ss wr (by omega) hsl hsm (own_reads HO.out))
   have HBR:=Lib.hid (bel_sub HB1.out HB.out)
   clear hall htk hss hsl hsm
   go_wp2_with fail
   refine HCV.out.mono ?_
   rintro e w6 ⟨rfl,hb6⟩
   have HBF:=Lib.hid (bel_sub HBR.out hb6)
   have HOF:=Lib.hid (own_below HO.out hb6)
   clear hb6
   cases hv:cvB ss
   ·rw [hv] at HRE
    have HRE2:Hid (r=([],false)):=HRE.out.trans (if_neg (by simp))
    clear hv HRE
    go_wp2_with fail
    go_ret2
    refine ⟨?_,bel_alloc HBF.out _⟩
    rw [HRE2.out]
    exact ⟨_,_,rfl,Reads.none_⟩
   ·rw [hv] at HRE
    have HRE2:Hid (r=(ss,true)):=HRE.out.trans (if_pos rfl)
    clear hv HRE
    go_wp2_with fail
    go_ret2
    refine ⟨?_,HBF.out⟩
    rw [HRE2.out]
    simp only
    rw [HSL.out]
    exact ⟨A,c,rfl,own_reads HOF.out⟩
end
section
open Go.RowKit Go.Lib
attribute [local go_sem ↓] Go.wp_at_zero Go.wp_at_succ
theorem trms_hd:∀l:Fin 3,∀n:Fin 11,n.val≤4*l.val+2→0<(Mi.trms l.val n.val).length∧(Mi.trms l.val n.val).getD 0 (0,0)=hundT l.val n.val:=by decide +kernel
theorem specTermsOf_no (l n:Int) (hl:-100≤l∧l≤100) (w:World) (h:evB l n=false) :
 Calls Tryz.prog 22 #[.int .i64 l,.int .i64 n] w fun e w'=>(∃A c,e=.returned (.slice A 0 c))∧Below w.heap.size w w':=by
 have HOK:=Lib.hid (fun W=>Mi.l12Ok_any l n hl W)
 have h2:(inB l 0 2 && inB n 0 (4*l+2))=false:=h
 rw [h2] at HOK
 clear h h2
 have HB0:=Lib.hid (bel_alloc (Below.refl w.heap.size w) (.cells #[] 39))
 go_enter Tryz.func22,Tryz.ntmps22
 go_wp2_with fail
 refine (HOK.out _).mono ?_
 rintro e w1 ⟨rfl,rfl⟩
 go_wp2_with fail
 go_ret
 exact ⟨⟨_,_,rfl⟩,HB0.out⟩
theorem specHundTerm_no (l n:Int) (hl:-100≤l∧l≤100) (w:World) (h:evB l n=false) :
 Calls Tryz.prog 215 #[.int .i64 l,.int .i64 n] w fun e w'=>e=.returned (.tuple #[.agg #[.int .i64 0,.int .i64 0],.bool false])∧Below w.heap.size w w':=by
 have HEV:=Lib.hid (fun W=>specTermsOf_no l n hl W h)
 clear h
 have HX:=Lib.hid (Blk.new w 39 #[.int .i64 0,.int .i64 0])
 have HB:=Lib.hid (bel_alloc (Below.refl w.heap.size w) (.cells #[.int .i64 0,.int .i64 0] 39))
 go_enter Tryz.func215,Tryz.ntmps215
 go_wp2_with fail
 refine (HEV.out _).mono ?_
 rintro e w1 ⟨⟨A,c,rfl⟩,hb1⟩
 have HX1:=Lib.hid (HX.out.sub hb1)
 have HB1:=Lib.hid (bel_sub HB.out hb1)
 clear hb1
 have HZ:=Lib.hid ((HX1.out.set 0 (.int .i64 0)).set 1 (.int .i64 0))
 have HBZ:=Lib.hid (bel_set2 (g:=w.heap.size) (x:=.int .i64 0) (y:=.int .i64 0) HB1.out (Nat.le_refl _))
 obtain ⟨x1,x2,f1,f2⟩:=blk2 HX1.out
 go_wp2_with fail
 refine bodyPost_ret (results_cell2_tmp rfl _ _ w.heap.size _ _ rfl HZ.out Tryz.underlying39 rfl (by kernel_rfl)) rfl ?_
 exact ⟨rfl,HBZ.out⟩
theorem specHundTerm_any (l n:Nat) (w:World) (hl:l≤2) (hn:n≤4*l+2) :
 Calls Tryz.prog 215 #[.int .i64 l,.int .i64 n] w (HundPost w l n):=by
 have HEV:=Lib.hid (fun W=>Mi.specTermsOf_any l n hl hn W)
 have hh:=trms_hd ⟨l,by omega⟩ ⟨n,by omega⟩ hn
 simp only at hh
 unfold Mi.TlPost at HEV
 unfold HundPost
 obtain ⟨ts,hts⟩:∃ts,Mi.trms l n=ts:=⟨_,rfl⟩
 rw [hts] at HEV hh
 clear hts
 obtain ⟨h0,h1⟩:=hh
 obtain ⟨⟨a,b⟩,hab⟩:∃t,hundT l n=t:=⟨_,rfl⟩
 rw [hab] at h1 ⊢
 have H0:=Lib.hid h0;have H1:=Lib.hid h1
 clear h0 h1 hab
 have HX:=Lib.hid (Blk.new w 39 #[.int .i64 0,.int .i64 0])
 have HB:=Lib.hid (bel_alloc (Below.refl w.heap.size w) (.cells #[.int .i64 0,.int .i64 0] 39))
 go_enter Tryz.func215,Tryz.ntmps215
 go_wp2_with fail
 refine (HEV.out _).mono ?_
 rintro e w1 ⟨A,c,m,rfl,hmc,hm,hr,hb1⟩
 have HX1:=Lib.hid (HX.out.sub hb1)
 have HB1:=Lib.hid (bel_sub HB.out hb1)
 clear hb1
 have hm0:0<m:=by rw [←hm];exact H0.out
 obtain ⟨bk,off,rfl,hbk,r1,r2⟩:=hr.trm hm0
 rw [H1.out] at r1 r2
 simp only [Nat.zero_mul,Nat.add_zero] at r1 r2
 have HZ:=Lib.hid ((HX1.out.set 0 (.int .i64 a)).set 1 (.int .i64 b))
 have HBZ:=Lib.hid (bel_set2 (g:=w.heap.size) (x:=.int .i64 a) (y:=.int .i64 b) HB1.out (Nat.le_refl _))
 have dm:((m:Int)==0)=false:=by simp;omega
 clear hr hm
 obtain ⟨x1,x2,f1,f2⟩:=blk2 HX1.out
 go_wp2_with fail
 refine bodyPost_ret (results_cell2_tmp rfl _ _ w.heap.size _ _ rfl HZ.out Tryz.underlying39 rfl (by kernel_rfl)) rfl ?_
 exact ⟨rfl,HBZ.out⟩
theorem specHundLevel_any (l n:Int) (hl:-100≤l∧l≤100) (w:World) :
 Calls Tryz.prog 156 #[.int .i64 l,.int .i64 n] w fun e w'=>e=.returned (lvV (hdLv l n))∧Below w.heap.size w w':=by
 have HX0:=Lib.hid (Blk.new w 131 #[.int .i64 0,.int .i64 0,.int .i64 0])
 have HB0:=Lib.hid (bel_alloc (Below.refl w.heap.size w) (.cells #[.int .i64 0,.int .i64 0,.int .i64 0] 131))
 cases hv:evB l n
 ·have he:hdLv l n=(((0,0),0),false):=by unfold hdLv;rw [hv];rfl
  rw [he]
  have HT:=Lib.hid (fun W=>specHundTerm_no l n hl W hv)
  clear he hv
  unfold lvV
  go_enter Tryz.func156,Tryz.ntmps156
  go_wp2_with fail
  refine (HT.out _).mono ?_
  rintro e w1 ⟨rfl,hb1⟩
  have HX1:=Lib.hid (HX0.out.sub hb1)
  have HB1:=Lib.hid (bel_sub HB0.out hb1)
  have hs1:=HX1.out.lt
  clear hb1
  obtain ⟨x1,x2,x3,f1,f2,f3⟩:=blk3 HX1.out
  have HBZ:=Lib.hid (bel_alloc (bel_set (g:=w.heap.size) (i:=2) (u:=.int .i64 0) (bel_set2 (g:=w.heap.size) (x:=.int .i64 0) (y:=.int .i64 0) HB1.out (Nat.le_refl _)) (Nat.le_refl _)) (.cells #[.int .i64 0,.int .i64 0] 39))
  have HZ:=Lib.hid ((((HX1.out.set 0 (.int .i64 0)).set 1 (.int .i64 0)).set 2 (.int .i64 0)).alloc (.cells #[.int .i64 0,.int .i64 0] 39))
  go_wp2_with fail
  refine bodyPost_ret (results_ct3 rfl _ _ w.heap.size _ _ rfl HZ.out Tryz.underlying131 rfl (by kernel_rfl)) rfl ?_
  exact ⟨rfl,HBZ.out⟩
 have he:hdLv l n=((hundT l.toNat n.toNat,(lvJs (hundT l.toNat n.toNat)).getD (if n≤2*l+1 then 0 else (lvJs (hundT l.toNat n.toNat)).length-1) 0),true):=by unfold hdLv;rw [if_pos hv]
 rw [he]
 have hb:=evB_iff.1 hv
 obtain ⟨p,rfl⟩:∃p:Nat,l=p:=⟨l.toNat,by omega⟩
 obtain ⟨q,rfl⟩:∃q:Nat,n=q:=⟨n.toNat,by omega⟩
 simp only [Int.toNat_natCast]
 have HT:=Lib.hid (fun W=>specHundTerm_any p q W (by omega) (by omega))
 have htv:tvB (hundT p q)=true:=hundT_valid ⟨p,by omega⟩ ⟨q,by omega⟩ (by show q≤4*p+2;omega)
 have hlen:=lv_len htv
 have HLO:=Lib.hid (fun W=>specLevelsOf_any (hundT p q) W)
 unfold HundPost at HT
 unfold LevelsPost at HLO
 obtain ⟨m,hm⟩:∃m,(lvJs (hundT p q)).length=m:=⟨_,rfl⟩
 rw [hm] at HLO hlen ⊢
 obtain ⟨js,hjs⟩:∃js,lvJs (hundT p q)=js:=⟨_,rfl⟩
 rw [hjs] at HLO hm ⊢
 have HM:=Lib.hid hm
 clear he hv htv hjs hm
 obtain ⟨⟨a,b⟩,ht⟩:∃t,hundT p q=t:=⟨_,rfl⟩
 rw [ht] at HT HLO ⊢
 clear ht
 unfold lvV
 simp only at HT HLO ⊢
 have u1:IntKind.i64.wrap (2*(p:Int))=2*(p:Int):=IntWalk.i64_in _ (by omega)
 have u2:IntKind.i64.wrap (2*(p:Int)+1)=2*(p:Int)+1:=IntWalk.i64_in _ (by omega)
 have u3:IntKind.i64.wrap ((m:Int)-1)=(m:Int)-1:=IntWalk.i64_in _ (by omega)
 go_enter Tryz.func156,Tryz.ntmps156
 go_wp2_with fail
 refine (HT.out _).mono ?_
 rintro e w1 ⟨rfl,hb1⟩
 have HX1:=Lib.hid ((HX0.out.sub hb1).alloc (.cells #[.int .i64 a,.int .i64 b] 39))
 have HB1:=Lib.hid (bel_alloc (bel_sub HB0.out hb1) (.cells #[.int .i64 a,.int .i64 b] 39))
 have hs1:=(HX0.out.sub hb1).lt
 clear hb1 HX0 HB0
 go_wp2_with fail
 refine (HLO.out _).mono ?_
 rintro e w2 ⟨⟨A,c,rfl,hr2⟩,hb2⟩
 have HX2:=Lib.hid (HX1.out.sub hb2)
 have HB2:=Lib.hid (bel_sub HB1.out hb2)
 have HR2:=Lib.hid (own_reads hr2)
 clear hb2 hr2 HX1 HB1
 obtain ⟨x1,x2,x3,f1,f2,f3⟩:=blk3 HX2.out
 have hlt:=HX2.out.lt
 by_cases hc:q≤2*p+1
 ·have hi:(if (q:Int)≤2*(p:Int)+1 then 0 else m-1)=0:=if_pos (by omega)
  have dc:decide ((q:Int)≤2*(p:Int)+1)=true:=decide_eq_true (by omega)
  obtain ⟨b',off,j,rfl,hb',r1,r2,r3,hg⟩:=HR2.out.lev HM.out (show 0<m by omega)
  simp only [Nat.zero_mul,Nat.add_zero] at r1 r2 r3
  have HG:=Lib.hid hg
  clear hi hg
  have HBZ:=Lib.hid (bel_set (g:=w.heap.size) (i:=2) (u:=.int .i64 j) (bel_set2 (g:=w.heap.size) (x:=.int .i64 a) (y:=.int .i64 b) HB2.out (Nat.le_refl _)) (Nat.le_refl _))
  have HZ:=Lib.hid (((HX2.out.set 0 (.int .i64 a)).set 1 (.int .i64 b)).set 2 (.int .i64 j))
  go_wp2_with fail
  refine bodyPost_ret (results_ct3 rfl _ _ w.heap.size _ _ rfl HZ.out Tryz.underlying131 rfl (by kernel_rfl)) rfl ?_
  exact ⟨by rw [HG.out];rfl,HBZ.out⟩
 ·have hi:(if (q:Int)≤2*(p:Int)+1 then 0 else m-1)=m-1:=if_neg (by omega)
  have dc:decide ((q:Int)≤2*(p:Int)+1)=false:=decide_eq_false (by omega)
  obtain ⟨b',off,j,rfl,hb',r1,r2,r3,hg⟩:=HR2.out.lev HM.out (show m-1<m by omega)
  have HG:=Lib.hid hg
  clear hi hg
  have hmm:((m:Int)-1)=((m-1:Nat):Int):=by omega
  have i0:(0:Int)≤((m-1:Nat):Int):=by omega
  have i1:((m-1:Nat):Int)<(m:Int):=by omega
  rw [hmm] at u3
  have HBZ:=Lib.hid (bel_set (g:=w.heap.size) (i:=2) (u:=.int .i64 j) (bel_set2 (g:=w.heap.size) (x:=.int .i64 a) (y:=.int .i64 b) HB2.out (Nat.le_refl _)) (Nat.le_refl _))
  have HZ:=Lib.hid (((HX2.out.set 0 (.int .i64 a)).set 1 (.int .i64 b)).set 2 (.int .i64 j))
  go_wp2_with fail
  refine bodyPost_ret (results_ct3 rfl _ _ w.heap.size _ _ rfl HZ.out Tryz.underlying131 rfl (by kernel_rfl)) rfl ?_
  exact ⟨by rw [HG.out];rfl,HBZ.out⟩
theorem specHundConfig_any (A0:Option Addr) (n c0:Nat) (cs:List S3) (w:World) (hn:n≤1000) (hl:cs.length=n) (hsm:∀s∈cs,Sm s) (hr:Reads w w.heap.size 3 A0 n (scellsS cs)) :
 Calls Tryz.prog 100 #[.slice A0 n c0] w fun e w'=>e=.returned (lvV (hdC cs))∧Below w.heap.size w w':=by
 have HR:=Lib.hid (fun W (hW:Below w.heap.size w W)=>(hr.below hW).more hW.size)
 have HOP:=Lib.hid (fun W (hW:Below w.heap.size w W)=>specConfigOpen_any A0 n c0 cs W hn hl hsm (HR.out W hW))
 have HV:=Lib.hid (fun W (hW:Below w.heap.size w W)=>specConfigValid_any A0 n c0 cs W (by omega) hl hsm (HR.out W hW))
 have hol:=opS_len cs
 rw [hl] at hol
 have HX0:=Lib.hid (Blk.new w 131 #[.int .i64 0,.int .i64 0,.int .i64 0])
 have HB0:=Lib.hid (bel_alloc (Below.refl w.heap.size w) (.cells #[.int .i64 0,.int .i64 0,.int .i64 0] 131))
 have HDC:Hid (hdC cs=if cvB cs=false∨1<(opS cs).length then (((0,0),0),false) else if (opS cs).length=0 then (((0,0),0),true) else hdLv (gS (opS cs) 0).2.1 (gS (opS cs) 0).2.2):=rfl
 have HLB:Hid (cvB cs=true→∀k,k<(opS cs).length→-100≤(gS (opS cs) k).2.1∧(gS (opS cs) k).2.1≤100):=fun hv k hk=>by
  have hm:=gS_mem hk
  have hm2:gS (opS cs) k∈cs:=by
   have h3:opS cs=cs.filter (fun s=>decide (s.2.2<capB s.2.1)):=by unfold opS;rw [if_pos hv]
   rw [h3] at hm ⊢
   exact (List.mem_filter.1 hm).1
  obtain ⟨_,_,_,he,_,_,_,_,_,_⟩:=shv_nat ((cv_all hv).1 _ hm2)
  rw [he];simp only;omega
 obtain ⟨r,hrr⟩:∃r,hdC cs=r:=⟨_,rfl⟩
 rw [hrr] at HDC ⊢
 unfold OpSPost at HOP
 obtain ⟨os,hos⟩:∃os,opS cs=os:=⟨_,rfl⟩
 rw [hos] at HOP HDC hol HLB
 obtain ⟨m,hm⟩:∃m,os.length=m:=⟨_,rfl⟩
 rw [hm] at HOP HDC hol HLB
 clear hl hr hos hrr hm HR hsm
 go_enter Tryz.func100,Tryz.ntmps100
 go_wp2_with fail
 refine (HOP.out _ HB0.out).mono ?_
 rintro e w1 ⟨⟨A,c,rfl,ho1⟩,hb1⟩
 have HX1:=Lib.hid (HX0.out.sub hb1)
 have HB1:=Lib.hid (bel_sub HB0.out hb1)
 have HR1:=Lib.hid (own_reads ho1)
 have HGB:Hid (∀b off,A=some ⟨b,off,none⟩→0<m→w.heap.size+1≤b):=by
  intro b off hA hm
  obtain ⟨g,cur,e,hg,_⟩:=own_blk2 ho1 hm
  rw [World.size_alloc] at hg
  rw [hA] at e
  injection e with e
  injection e with e
  omega
 clear hb1 ho1 HX0 HB0
 go_wp2_with fail
 refine (HV.out _ HB1.out).mono ?_
 rintro e w2 ⟨rfl,hb2⟩
 have HX2:=Lib.hid (HX1.out.sub hb2)
 have HB2:=Lib.hid (bel_sub HB1.out hb2)
 have HR2:=Lib.hid ((HR1.out.below hb2).more hb2.size)
 clear hb2 HX1 HB1 HR1
 obtain ⟨x1,x2,x3,f1,f2,f3⟩:=blk3 HX2.out
 have hlt:=HX2.out.lt
 have HBZ:=Lib.hid (bel_set (g:=w.heap.size) (i:=2) (u:=.int .i64 0) (bel_set2 (g:=w.heap.size) (x:=.int .i64 0) (y:=.int .i64 0) HB2.out (Nat.le_refl _)) (Nat.le_refl _))
 have HZ:=Lib.hid (((HX2.out.set 0 (.int .i64 0)).set 1 (.int .i64 0)).set 2 (.int .i64 0))
 cases hv:cvB cs
 ·have HRE:Hid (r=(((0,0),0),false)):=by unfold Hid;rw [HDC.out,hv,if_pos (.inl rfl)]
  clear HDC hv
  go_wp2_with fail
  refine bodyPost_ret (results_ct3 rfl _ _ w.heap.size _ _ rfl HZ.out Tryz.underlying131 rfl (by kernel_rfl)) rfl ?_
  exact ⟨by rw [HRE.out];rfl,HBZ.out⟩
 by_cases h1:1<m
 ·have HRE:Hid (r=(((0,0),0),false)):=by unfold Hid;rw [HDC.out,if_pos (.inr h1)]
  have d1:decide ((1:Int)<(m:Int))=true:=decide_eq_true (by omega)
  clear HDC hv
  go_wp2_with fail
  refine bodyPost_ret (results_ct3 rfl _ _ w.heap.size _ _ rfl HZ.out Tryz.underlying131 rfl (by kernel_rfl)) rfl ?_
  exact ⟨by rw [HRE.out];rfl,HBZ.out⟩
 have d1:decide ((1:Int)<(m:Int))=false:=decide_eq_false (by omega)
 by_cases h0:m=0
 ·have HRE:Hid (r=(((0,0),0),true)):=by unfold Hid;rw [HDC.out,hv,if_neg (by simp;omega),if_pos h0]
  subst h0
  clear HDC hv
  go_wp2_with fail
  refine bodyPost_ret (results_ct3 rfl _ _ w.heap.size _ _ rfl HZ.out Tryz.underlying131 rfl (by kernel_rfl)) rfl ?_
  exact ⟨by rw [HRE.out];rfl,HBZ.out⟩
 obtain rfl:m=1:=by omega
 have hlb:=HLB.out hv 0 (by omega)
 have hre:r=hdLv (gS os 0).2.1 (gS os 0).2.2:=by rw [HDC.out,hv,if_neg (by simp),if_neg (by simp)]
 obtain ⟨b,off,hA,hb,hc⟩:=HR2.out.shl (show 0<1 by omega)
 have hbn:=HGB.out b off hA (by omega)
 subst hA
 obtain ⟨r1,r2,r3⟩:=hc 0 (by omega)
 simp only [Nat.zero_mul,Nat.add_zero] at r1 r2 r3
 obtain ⟨⟨s1,s2,s3⟩,hs⟩:∃s,gS os 0=s:=⟨_,rfl⟩
 rw [hs] at r1 r2 r3 hre hlb
 simp only at r1 r2 r3 hre hlb
 have HHL:=Lib.hid (fun W=>specHundLevel_any s2 s3 hlb W)
 obtain ⟨⟨⟨⟨a1,a2⟩,a3⟩,ok⟩,hh⟩:∃q,hdLv s2 s3=q:=⟨_,rfl⟩
 rw [hh] at HHL hre
 have HRE:=Lib.hid hre
 clear hre hh hs hc HDC hv HZ HBZ
 unfold lvV at HHL
 simp only at HHL
 have e10:((1:Int)==0)=false:=rfl
 go_wp2_with fail
 go_region_held3 (fun w'=>w'.cell? ⟨b,off+1,none⟩=some (.int .i64 s2)∧w'.cell? ⟨b,off+2,none⟩=some (.int .i64 s3))
  (first | (refine ⟨?_,?_⟩ <;> ((repeat (first | assumption | apply cell_past | rw [World.cell?_drew] | refine cell_sub hb9 ?_ | refine cell_far (by simp <;> omega) ?_));done)) | go_keep)
  (first | (go_at_call 156;refine (HHL.out _).mono ?_;rintro e w9 ⟨rfl,hb9⟩;have hy9:=HX2.out.drew.sub hb9;obtain ⟨y1,y2,y3,g1,g2,g3⟩:=blk3 hy9))
 all_goals
  have HZ:=Lib.hid (((hy9.set 0 (.int .i64 a1)).set 1 (.int .i64 a2)).set 2 (.int .i64 a3))
  have HBZ:=Lib.hid (bel_set (g:=w.heap.size) (i:=2) (u:=.int .i64 a3) (bel_set2 (g:=w.heap.size) (x:=.int .i64 a1) (y:=.int .i64 a2) (bel_sub (bel_drew HB2.out) hb9) (Nat.le_refl _)) (Nat.le_refl _))
  go_wp2_with fail
  refine bodyPost_ret (results_ct3 rfl _ _ w.heap.size _ _ rfl HZ.out Tryz.underlying131 rfl (by kernel_rfl)) rfl ?_
  exact ⟨by rw [HRE.out];rfl,HBZ.out⟩
end
end Go.Proofs.YtjdfbnlaiiknpaaGreatDoor
