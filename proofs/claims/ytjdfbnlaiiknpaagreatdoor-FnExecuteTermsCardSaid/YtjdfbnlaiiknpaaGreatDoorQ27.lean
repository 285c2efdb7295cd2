/- Parts of the proof of : RqA. -/
import Derived.Test.YtjdfbnlaiiknpaaGreatDoorQ26
set_option maxHeartbeats 20000000
set_option maxRecDepth 1000000
set_option linter.unusedSimpArgs false
set_option linter.unusedVariables false
namespace Go.Proofs.YtjdfbnlaiiknpaaGreatDoor
section
open Go.RowKit Go.Lib
attribute [local go_sem ↓] Go.wp_at_zero Go.wp_at_succ
theorem ConfigFrom_all (s:List UInt8) (hs:s.length≤900) (w:World) (he:Er w) (hm:Mx w) :
 Calls Tryz.prog 188 #[.string (bs s)] w (CFPost (cfF s) w):=by
 have HSP:=Lib.hid (split_any s 32 w hm (by omega))
 have hlen:=spl_len 32 s
 have HSF:Hid (∀k,k<(spl 32 s).length→∀W,Below w.heap.size w W→Calls Tryz.prog 235 #[.string (bs ((spl 32 s).getD k []))] W fun e w'=>e=.returned (shO (shF ((spl 32 s).getD k [])))∧Below W.heap.size W w'):=by
  intro k hk W hW
  have hmem:(spl 32 s).getD k []∈spl 32 s:=by rw [List.getD_eq_getElem?_getD,List.getElem?_eq_getElem hk];exact List.getElem_mem _
  have:=spl_sub 32 s _ hmem
  exact ShellFrom_all _ (by omega) W (he.on hW)
 have HNO:Hid (∀k,k<(spl 32 s).length→(shF ((spl 32 s).getD k [])).2=false→cfF s=([],false)):=fun k hk h=>cfF_no hk h
 have HYES:Hid ((spl 32 s).all (fun x=>(shF x).2)=true→cfF s=if cvB ((spl 32 s).map fun x=>(shF x).1)=true then ((spl 32 s).map fun x=>(shF x).1,true) else ([],false)):=fun h=>by unfold cfF;rw [if_pos h]
 obtain ⟨r,hr⟩:∃r,cfF s=r:=⟨_,rfl⟩
 rw [hr] at HNO HYES ⊢
 clear hr
 obtain ⟨ws,hws⟩:∃ws,spl 32 s=ws:=⟨_,rfl⟩
 rw [hws] at HSP hlen HSF HNO HYES
 clear hws
 obtain ⟨n,hn⟩:∃n,ws.length=n:=⟨_,rfl⟩
 rw [hn] at HSP hlen HSF HNO
 have HN:=Lib.hid hn
 clear hn
 rw [show bs [32]=⟨#[32]⟩ from rfl] at HSP
 generalize bs s=X at *
 have HBL:=Lib.hid (Blk.new w 9 (ws.map fun x=>Value.string (bs x)).toArray)
 have HBW:=Lib.hid (bel_alloc (Below.refl w.heap.size w) (.cells (ws.map fun x=>Value.string (bs x)).toArray 9))
 go_enter Tryz.func188,Tryz.ntmps188
 go_wp2_with fail
 refine HSP.out.mono ?_
 rintro e w1 ⟨rfl,hw1⟩
 rw [←hw1] at HBL HBW
 have hbase:w.heap.size<w1.heap.size:=HBL.out.lt
 have hbase2:w1.heap.size=w.heap.size+1:=by rw [hw1];simp
 clear hw1 HSP
 go_wp2_with fail
 go_loopw [4,6,7,8,12] (fun v _ _ _ i wr=>∃(k:Nat) (A:Option Addr) (c:Nat),k≤n∧i=.int .i64 k∧v=.slice A k c∧Hid (wr.ownsRow (w.heap.size+1) 42 3 (.slice A k c) k (scellsS ((ws.map fun x=>(shF x).1).take k)))∧Hid (∀j,j<k→(shF (ws.getD j [])).2=true)∧Hid (Below w1.heap.size w1 wr)) (fun _ _ _ _ i _=>n-(RowKit.intOf i).toNat)
 case atStart=>exact ⟨0,none,0,Nat.zero_le _,rfl,rfl,World.ownsRow_nil _ _ _ _,fun j hj=>absurd hj (by omega),Below.refl _ _⟩
 case round =>
  obtain ⟨k,A,c,hk,rfl,rfl,HO,HOK,HB⟩:=hrel
  by_cases hlt:k<n
  ·have hkl:k<ws.length:=by rw [HN.out];exact hlt
   have hcw:=(HBL.out.sub HB.out).cell k
   have hgw:(ws.map fun x=>Value.string (bs x)).toArray[k]?=some (.string (bs (ws.getD k []))):=by
    rw [List.getElem?_toArray,List.getElem?_map,List.getD_eq_getElem?_getD,List.getElem?_eq_getElem hkl];rfl
   rw [hgw] at hcw
   have HT:Hid (ws.take (k+1)=ws.take k++[ws.getD k []]):=by unfold Hid;rw [List.getD_eq_getElem?_getD,List.getElem?_eq_getElem hkl,List.take_succ_eq_append_getElem hkl];rfl
   have HS:=Lib.hid (HSF.out k hlt)
   have hlw:w.heap.size<wr.heap.size:=Nat.lt_of_lt_of_le hbase HB.out.size
   have HNK:=Lib.hid (HNO.out k hlt)
   have HBR:=Lib.hid (bel_sub HBW.out HB.out)
   clear hgw hkl
   obtain ⟨q,hq⟩:∃q,ws.getD k []=q:=⟨_,rfl⟩
   rw [hq] at HT HS HNK hcw
   have HQ:=Lib.hid hq
   clear hq
   obtain ⟨⟨⟨x1,x2,x3⟩,ok⟩,hx⟩:∃x,shF q=x:=⟨_,rfl⟩
   rw [hx] at HS HNK
   have HXQ:=Lib.hid hx
   clear hx
   unfold shO at HS
   simp only at HS HNK
   generalize bs q=D at *
   go_wp2_with fail
   refine (HS.out _ HBR.out).mono ?_
   rintro e w3 ⟨rfl,hb3⟩
   have HB3:=Lib.hid (bel_alloc (bel_sub HB.out hb3) (.cells #[.int .i64 x1,.int .i64 x2,.int .i64 x3] 42))
   have HO3:=Lib.hid ((own_below HO.out hb3).alloc (.cells #[.int .i64 x1,.int .i64 x2,.int .i64 x3] 42))
   have hlw3:w.heap.size+1≤w3.heap.size:=Nat.le_trans hlw hb3.size
   clear hb3 hcw HO HB HBR HS
   cases ok
   ·have HRE:=Lib.hid (HNK.out rfl)
    have HBF:=Lib.hid (bel_sub HBW.out HB3.out)
    go_wp2_with fail
    go_ret2
    refine ⟨?_,HBF.out⟩
    rw [HRE.out]
    exact ⟨none,0,rfl,Reads.none_⟩
   ·have HLS:Hid (scellsS ((ws.map fun x=>(shF x).1).take (k+1))=scellsS ((ws.map fun x=>(shF x).1).take k)++[.int .i64 x1,.int .i64 x2,.int .i64 x3]):=by
     unfold Hid;rw [←List.map_take,HT.out,List.map_append,List.map_singleton,HXQ.out,scellsS_snoc,List.map_take]
    have HOK2:Hid (∀j,j<k+1→(shF (ws.getD j [])).2=true):=fun j hj=>by
     by_cases h:j=k
     ·subst h;rw [HQ.out,HXQ.out]
     ·exact HOK.out j (by omega)
    go_wp2_with (at_builtin;refine wpList_app1b _ rfl (.tmp 23) (.tmp 25) _ rfl (w.heap.size+1) 42 3 24 elShell A c k (scellsS ((ws.map fun x=>(shF x).1).take k)) rfl (HO3.out.alloc _) (w3.heap.size+1) #[.int .i64 x1,.int .i64 x2,.int .i64 x3] rfl ?hblk rfl ?h1 (by omega) (by omega) (by simp;omega) ?_)
    case hblk=>have:=Blk.new (w3.alloc (.cells #[.int .i64 x1,.int .i64 x2,.int .i64 x3] 42)) 42 #[.int .i64 x1,.int .i64 x2,.int .i64 x3];rw [World.size_alloc] at this;exact this
    case h1=>simp [Value.oneCell']
    intro A8 c8 w8 hown8 hc8 hb8
    have HW8:=Lib.hid hown8
    have HB8:Hid (Below w1.heap.size w1 w8):=(bel_alloc HB3.out _).trans (hb8.mono (by omega))
    clear hown8 hb8
    go_wp2_with fail
    go_roundw
    case rel=>exact ⟨k+1,A8,c8,by omega,by go_num,rfl,by rw [HLS.out];exact HW8.out,HOK2.out,HB8.out⟩
    case measure=>simp [RowKit.intOf];omega
  ·obtain rfl:k=n:=by omega
   have hall:ws.all (fun x=>(shF x).2)=true:=by
    rw [List.all_eq_true]
    intro x hx
    obtain ⟨j,hj⟩:=List.mem_iff_getElem?.1 hx
    have hjl:j<ws.length:=by
     rcases Nat.lt_or_ge j ws.length with h | h
     ·exact h
     ·rw [List.getElem?_eq_none h] at hj;cases hj
    have:=HOK.out j (by rw [←HN.out];exact hjl)
    rw [List.getD_eq_getElem?_getD,hj] at this
    exact this
   have HRE:=Lib.hid (HYES.out hall)
   have htk:(ws.map fun x=>(shF x).1).take k=ws.map fun x=>(shF x).1:=List.take_of_length_le (by rw [List.length_map,HN.out];exact Nat.le_refl _)
   rw [htk] at HO
   obtain ⟨ss,hss⟩:∃ss,(ws.map fun x=>(shF x).1)=ss:=⟨_,rfl⟩
   rw [hss] at HO HRE
   have hsl:ss.length=k:=by rw [←hss,List.length_map,HN.out]
   have HSL:=Lib.hid hsl
   have HCV:=Lib.hid (ConfigValid_any A k c ss wr (by omega) hsl (own_reads HO.out))
   have HBR:=Lib.hid (bel_sub HBW.out HB.out)
   clear hall htk hss hsl
   go_wp2_with fail
   refine HCV.out.mono ?_
   rintro e w6 ⟨rfl,hb6⟩
   have HBF:=Lib.hid (bel_sub HBR.out hb6)
   have HOF:=Lib.hid (own_below HO.out hb6)
   clear hb6
   cases hv:cvB ss
   ·rw [hv] at HRE
    have HRE2:Hid (r=([],false)):=HRE.out.trans (if_neg (by simp))
    clear hv HRE
    go_wp2_with fail
    go_ret2
    refine ⟨?_,HBF.out⟩
    rw [HRE2.out]
    exact ⟨none,0,rfl,Reads.none_⟩
   ·rw [hv] at HRE
    have HRE2:Hid (r=(ss,true)):=HRE.out.trans (if_pos rfl)
    clear hv HRE
    go_wp2_with fail
    go_ret2
    refine ⟨?_,HBF.out⟩
    rw [HRE2.out]
    simp only
    rw [HSL.out]
    exact ⟨A,c,rfl,own_reads HOF.out⟩
theorem reqConfig_all (g n:Nat) (L:List (List UInt8)) (w:World) (hl:L.length=n) (h1:1≤n) (hn:n≤1000) (hj:(Lib.join L [32]).length≤900) (hg:g<w.heap.size)
 (hc:∀i,i<n→w.cell? ⟨g,1+i,none⟩=some (.string (bs (L.getD i [])))) (he:Er w) (hm:Mx w) :
 Calls Tryz.prog 134 #[.agg #[.slice (some ⟨g,1,none⟩) n n]] w (CFPost (cfF (Lib.join L [32])) w):=by
 have HB0:=Lib.hid (bel_alloc (Below.refl w.heap.size w) (.cells #[.slice (some ⟨g,1,none⟩) n n] 91))
 have HQ0:=Lib.hid (Blk.new w 91 #[.slice (some ⟨g,1,none⟩) n n])
 have c0:(w.alloc (.cells #[.slice (some ⟨g,1,none⟩) n n] 91)).cell? ⟨w.heap.size,0,none⟩=some (.slice (some ⟨g,1,none⟩) n n):=HQ0.out.cell 0
 have HJ:=Lib.hid (join_at g 1 n n L (w.alloc (.cells #[.slice (some ⟨g,1,none⟩) n n] 91)) hl (Nat.le_refl _) (by omega) (by omega) (Nat.lt_of_lt_of_le hg HB0.out.size) (fun i hi=>cell_sub (bel_alloc (Below.refl w.heap.size w) _) (hc i hi)))
 have HCF:=Lib.hid (fun W (hW:Below w.heap.size w W)=>ConfigFrom_all (Lib.join L [32]) hj W (he.on hW) (hm.on hW))
 clear hl hj hg hc he hm
 obtain ⟨⟨ss,ok⟩,hr⟩:∃r,cfF (Lib.join L [32])=r:=⟨_,rfl⟩
 rw [hr] at HCF ⊢
 clear hr
 generalize Lib.join L [32]=J at *
 unfold CFPost at *
 simp only at HCF ⊢
 generalize bs J=X at *
 go_enter Tryz.func134,Tryz.ntmps134
 go_wp2_with fail
 refine HJ.out.mono ?_
 rintro e w2 ⟨rfl,hb2⟩
 have HB2:=Lib.hid (bel_sub HB0.out hb2)
 clear hb2 HB0 HQ0
 go_wp2_with fail
 refine (HCF.out _ HB2.out).mono ?_
 rintro e w3 ⟨⟨A,c,rfl,hr3⟩,hb3⟩
 have HR3:=Lib.hid hr3
 have HB3:=Lib.hid (bel_sub HB2.out hb3)
 clear hr3 hb3 HB2 HCF
 go_wp2_with fail
 go_ret2
 exact ⟨⟨A,c,rfl,HR3.out⟩,HB3.out⟩
theorem reqHund_all (g n:Nat) (L:List (List UInt8)) (w:World) (hl:L.length=n) (h1:1≤n) (hn:n≤1000) (hj:(Lib.join L [32]).length≤900) (hg:g<w.heap.size)
 (hc:∀i,i<n→w.cell? ⟨g,1+i,none⟩=some (.string (bs (L.getD i [])))) (he:Er w) (hm:Mx w) :
 Calls Tryz.prog 87 #[.agg #[.slice (some ⟨g,1,none⟩) n n]] w fun e w'=>e=.returned (.tuple #[.string (bs (rqHu (Lib.join L [32])).1),.bool (rqHu (Lib.join L [32])).2])∧Below w.heap.size w w':=by
 have HB0:=Lib.hid (bel_alloc (Below.refl w.heap.size w) (.cells #[.slice (some ⟨g,1,none⟩) n n] 91))
 have HQ0:=Lib.hid (Blk.new w 91 #[.slice (some ⟨g,1,none⟩) n n])
 have c0:(w.alloc (.cells #[.slice (some ⟨g,1,none⟩) n n] 91)).cell? ⟨w.heap.size,0,none⟩=some (.slice (some ⟨g,1,none⟩) n n):=HQ0.out.cell 0
 have HCF:=Lib.hid (reqConfig_all g n L (w.alloc (.cells #[.slice (some ⟨g,1,none⟩) n n] 91)) hl h1 hn hj (Nat.lt_of_lt_of_le hg HB0.out.size) (fun i hi=>cell_sub (bel_alloc (Below.refl w.heap.size w) _) (hc i hi)) (he.on HB0.out) (hm.on HB0.out))
 have hcl:=cfF_len (Lib.join L [32])
 unfold rqHu
 generalize Lib.join L [32]=J at *
 obtain ⟨⟨ss,ok⟩,hr⟩:∃r,cfF J=r:=⟨_,rfl⟩
 rw [hr] at HCF hcl ⊢
 unfold CFPost at HCF
 simp only at HCF hcl ⊢
 obtain ⟨m,hm2⟩:∃m,ss.length=m:=⟨_,rfl⟩
 rw [hm2] at HCF hcl
 have HM:=Lib.hid hm2
 have HMEM:=Lib.hid (hdC_mem ss)
 obtain ⟨⟨⟨⟨t1,t2⟩,j⟩,fine⟩,hq⟩:∃q,hdC ss=q:=⟨_,rfl⟩
 rw [hq] at HMEM ⊢
 have HQ:=Lib.hid hq
 simp only at HMEM ⊢
 have HLT:=Lib.hid (fun W=>LevelText_any (t1,t2) j W HMEM.out)
 clear hr hl hg hc he hm hm2 hq HMEM
 have hlv:l1T (t1,t2) j=tmT (t1,t2)++spT j:=rfl
 rw [hlv]
 clear hlv
 simp only at HLT
 generalize bs (tmT (t1,t2)++spT j)=Y at *
 go_enter Tryz.func87,Tryz.ntmps87
 go_wp2_with fail
 refine HCF.out.mono ?_
 rintro e w2 ⟨⟨A,c,rfl,hr2⟩,hb2⟩
 have HR2:=Lib.hid hr2
 have HB2:=Lib.hid (bel_sub HB0.out hb2)
 clear hb2 hr2 HB0 HQ0 HCF
 go_wp2_with fail
 refine (HundConfig_any A m c ss w2 (by omega) HM.out HR2.out).mono ?_
 rintro e w3 ⟨rfl,hb3⟩
 rw [HQ.out]
 unfold lvV
 simp only
 have HB3:=Lib.hid (bel_alloc (bel_sub HB2.out hb3) (.cells #[.int .i64 t1,.int .i64 t2,.int .i64 j] 131))
 clear hb3 HB2 HR2
 go_wp2_with fail
 refine (HLT.out _).mono ?_
 rintro e w4 ⟨rfl,hb4⟩
 have HB4:=Lib.hid (bel_sub HB3.out hb4)
 clear hb4 HB3
 cases ok
 ·go_wp2_with fail
  go_ret2
  exact ⟨rfl,HB4.out⟩
 ·go_wp2_with fail
  go_ret2
  exact ⟨rfl,HB4.out⟩
theorem reqTerms_all (g n:Nat) (L:List (List UInt8)) (w:World) (hl:L.length=n) (h1:1≤n) (hn:n≤1000) (hj:(Lib.join L [32]).length≤900) (hg:g<w.heap.size)
 (hc:∀i,i<n→w.cell? ⟨g,1+i,none⟩=some (.string (bs (L.getD i [])))) (he:Er w) (hm:Mx w) (hd:Mi.Dbt w) :
 Calls Tryz.prog 86 #[.agg #[.slice (some ⟨g,1,none⟩) n n]] w fun e w'=>e=.returned (.tuple #[.string (bs (rqTe (Lib.join L [32])).1),.bool (rqTe (Lib.join L [32])).2])∧Below w.heap.size w w':=by
 have HB0:=Lib.hid (bel_alloc (Below.refl w.heap.size w) (.cells #[.slice (some ⟨g,1,none⟩) n n] 91))
 have HQ0:=Lib.hid (Blk.new w 91 #[.slice (some ⟨g,1,none⟩) n n])
 have c0:(w.alloc (.cells #[.slice (some ⟨g,1,none⟩) n n] 91)).cell? ⟨w.heap.size,0,none⟩=some (.slice (some ⟨g,1,none⟩) n n):=HQ0.out.cell 0
 have HCF:=Lib.hid (reqConfig_all g n L (w.alloc (.cells #[.slice (some ⟨g,1,none⟩) n n] 91)) hl h1 hn hj (Nat.lt_of_lt_of_le hg HB0.out.size) (fun i hi=>cell_sub (bel_alloc (Below.refl w.heap.size w) _) (hc i hi)) (he.on HB0.out) (hm.on HB0.out))
 have HDB:=Lib.hid (fun W (hB:Below w.heap.size w W)=>hd.on hB)
 have hcl:=cfF_len (Lib.join L [32])
 unfold rqTe
 generalize Lib.join L [32]=J at *
 obtain ⟨⟨ss,ok⟩,hr⟩:∃r,cfF J=r:=⟨_,rfl⟩
 rw [hr] at HCF hcl ⊢
 unfold CFPost at HCF
 simp only at HCF hcl ⊢
 obtain ⟨m,hm2⟩:∃m,ss.length=m:=⟨_,rfl⟩
 rw [hm2] at HCF hcl
 have HM:=Lib.hid hm2
 have HTF:=Lib.hid (fun A c W hn hr hd=>implTermsConfig_any A m c ss W hn HM.out hr hd)
 unfold TCPost at HTF
 have hlen:=tcF_len ss
 obtain ⟨⟨ts,fine⟩,hq⟩:∃q,tcF ss=q:=⟨_,rfl⟩
 rw [hq] at HTF hlen ⊢
 simp only at HTF hlen ⊢
 obtain ⟨k,hk⟩:∃k,ts.length=k:=⟨_,rfl⟩
 rw [hk] at HTF hlen
 have HK:=Lib.hid hk
 clear hr hl hg hc he hm hm2 hq hd hk
 go_enter Tryz.func86,Tryz.ntmps86
 go_wp2_with fail
 refine HCF.out.mono ?_
 rintro e w2 ⟨⟨A,c,rfl,hr2⟩,hb2⟩
 have HR2:=Lib.hid hr2
 have HB2:=Lib.hid (bel_sub HB0.out hb2)
 clear hb2 hr2 HB0 HQ0 HCF
 go_wp2_with fail
 refine (HTF.out A c w2 (by omega) HR2.out (HDB.out _ HB2.out)).mono ?_
 rintro e w3 ⟨⟨A3,c3,rfl,hr3⟩,hb3⟩
 have HR3:=Lib.hid hr3
 have HB3:=Lib.hid (bel_sub HB2.out hb3)
 clear hb3 hr3 HB2 HR2 HTF
 go_wp2_with fail
 refine (implTermsText_any A3 k c3 ts w3 (by omega) HK.out HR3.out).mono ?_
 rintro e w4 ⟨rfl,hb4⟩
 have HB4:=Lib.hid (bel_sub HB3.out hb4)
 clear hb4 HB3 HR3 HK
 obtain ⟨Y,hY⟩:∃Y,bs (tsT ts)=Y:=⟨_,rfl⟩
 rw [hY]
 have HY:=Lib.hid hY
 clear hY
 cases ok
 ·go_wp2_with fail
  go_ret2
  exact ⟨by rw [HY.out];rfl,HB4.out⟩
 ·go_wp2_with fail
  go_ret2
  exact ⟨by rw [HY.out];rfl,HB4.out⟩
end
end Go.Proofs.YtjdfbnlaiiknpaaGreatDoor
