/- Parts of the proof of : Tcb. -/
import Derived.Test.YtjdfbnlaiiknpaaGreatDoorQ18
import Derived.Test.YtjdfbnlaiiknpaaGreatDoorQ21
set_option maxHeartbeats 20000000
set_option maxRecDepth 1000000
set_option linter.unusedSimpArgs false
set_option linter.unusedVariables false
namespace Go.Proofs.YtjdfbnlaiiknpaaGreatDoor
section
section
open Go.RowKit
def tmsOf (s:S3):List T2:=Mi.trms s.2.1.toNat s.2.2.toNat
def tcGo:List S3→List T2→List T2 × Bool
 | [],acc=>(acc,true)
 | s :: r,acc=>if 2<s.2.1 then ([],false) else if (joinT acc (tmsOf s)).2=true then tcGo r (joinT acc (tmsOf s)).1 else ([],false)
def tcF (cs:List S3):List T2 × Bool:=if cvB cs=true then tcGo (opS cs) [(0,0)] else ([],false)
theorem tcGo_len:∀(r:List S3) (acc:List T2),acc.length≤400→(tcGo r acc).1.length≤400
 | [],acc,h=>by unfold tcGo;exact h
 | s :: r,acc,h=>by
  unfold tcGo
  split
  ·simp
  ·split
   ·exact tcGo_len r _ (joinT_len _ _)
   ·simp
theorem tcF_len (cs:List S3):(tcF cs).1.length≤400:=by
 unfold tcF;split
 ·exact tcGo_len _ _ (by simp)
 ·simp
theorem tcGo_valid:∀(r:List S3) (acc:List T2),(∀t∈acc,tvB t=true)→∀t∈(tcGo r acc).1,tvB t=true
 | [],acc,h=>by unfold tcGo;exact h
 | s :: r,acc,h=>by
  unfold tcGo
  split
  ·simp
  ·split
   ·exact tcGo_valid r _ (joinT_valid _ _)
   ·simp
theorem tcF_valid (cs:List S3):∀t∈(tcF cs).1,tvB t=true:=by
 unfold tcF;split
 ·exact tcGo_valid _ _ (by intro t ht;simp only [List.mem_singleton] at ht;subst ht;decide)
 ·simp
theorem tcF_no {cs:List S3} (h:(tcF cs).2=false):(tcF cs).1=[]:=by
 have key:∀(r:List S3) (acc:List T2),(tcGo r acc).2=false→(tcGo r acc).1=[]:=by
  intro r
  induction r with
  | nil=>intro acc h;unfold tcGo at h;cases h
  | cons s r ih =>
   intro acc h
   unfold tcGo at h ⊢
   split
   ·rfl
   ·rename_i h1
    rw [if_neg h1] at h
    split
    ·rename_i h2
     rw [if_pos h2] at h
     exact ih _ h
    ·rfl
 unfold tcF at h ⊢
 split
 ·rename_i h1
  rw [if_pos h1] at h
  exact key _ _ h
 ·rfl
theorem opS_mem {cs:List S3} {s:S3} (h:s∈opS cs):∃n l c:Nat,s=((n:Int),(l:Int),(c:Int))∧l≤3∧1≤c∧c≤4*l+2:=by
 unfold opS at h
 split at h
 ·rename_i hv
  have h1:=(List.mem_filter.1 h).1
  obtain ⟨n,l,c,rfl,_,_,h3,_,h5,h6⟩:=shv_nat ((cv_all hv).1 s h1)
  exact ⟨n,l,c,rfl,h3,h5,h6⟩
 ·cases h
theorem gS_lt {ss:List S3} {k:Nat} (h:k<ss.length):gS ss k=ss[k]:=by simp [gS,h]
theorem tcGo_step {cs:List S3} {k:Nat} (acc:List T2) (h:k<(opS cs).length):tcGo ((opS cs).drop k) acc=(if 2<(gS (opS cs) k).2.1 then ([],false) else if (joinT acc (tmsOf (gS (opS cs) k))).2=true then tcGo ((opS cs).drop (k+1)) (joinT acc (tmsOf (gS (opS cs) k))).1 else ([],false)):=by
 rw [List.drop_eq_getElem_cons h,gS_lt h];rfl
theorem tcGo_end {cs:List S3} {k:Nat} (acc:List T2) (h:(opS cs).length≤k):tcGo ((opS cs).drop k) acc=(acc,true):=by
 rw [List.drop_of_length_le h];rfl
end
section
open Go.RowKit Go.Sort
attribute [local go_sem ↓] Go.wp_at_zero Go.wp_at_succ
def TCPost (ss:List S3) (w:World) (e:Ending) (w':World):Prop :=
 (∃A c,e=.returned (.tuple #[.slice A (tcF ss).1.length c,.bool (tcF ss).2])∧Reads w' w'.heap.size 2 A (tcF ss).1.length (tcells (tcF ss).1))∧Below w.heap.size w w'
theorem reads_one {w:World} {g:Nat} {t:TypeId} {a b:Int} (h:Blk w g t #[.int .i64 a,.int .i64 b]):Reads w w.heap.size 2 (some ⟨g,0,none⟩) 1 (tcells [(a,b)]) :=
 ⟨rfl,fun _=>⟨g,0,rfl,h.lt,fun j u hu=>by
  rw [Nat.zero_add,h.cell]
  have e:tcells [(a,b)]=[.int .i64 a,.int .i64 b]:=rfl
  rw [e] at hu
  rw [←hu];simp⟩⟩
theorem implTermsConfig_any (A:Option Addr) (n c:Nat) (ss:List S3) (w:World) (hn:n≤1000) (hl:ss.length=n) (hr:Reads w w.heap.size 3 A n (scellsS ss)) (hd:Mi.Dbt w) :
 Calls Tryz.prog 6 #[.slice A n c] w (TCPost ss w):=by
 have HV:=Lib.hid (ConfigValid_any A n c ss w (by omega) hl hr)
 have HR:=Lib.hid hr
 have HOP:=Lib.hid (fun W (hB:Below w.heap.size w W)=>ConfigOpen_any A n c ss W hn hl ((hr.below hB).more hB.size))
 have HD:=Lib.hid (fun W (hB:Below w.heap.size w W)=>hd.on hB)
 unfold TCPost
 cases hv:cvB ss
 ·have hj:tcF ss=([],false):=by unfold tcF;rw [hv];rfl
  rw [hj]
  rw [hv] at HV
  clear hj hv hr hl hd
  go_enter Tryz.func6,Tryz.ntmps6
  go_wp2_with fail
  refine HV.out.mono ?_
  rintro e w1 ⟨rfl,hb1⟩
  have HB1:=Lib.hid hb1;clear hb1
  go_wp2_with fail
  go_ret2
  exact ⟨⟨none,0,rfl,Reads.none_⟩,HB1.out⟩
 have hj:tcGo ((opS ss).drop 0) [(0,0)]=tcF ss:=by unfold tcF;rw [hv,if_pos rfl,List.drop_zero]
 rw [hv] at HV
 have hol:=opS_len ss
 rw [hl] at hol
 obtain ⟨R,hR⟩:∃R,tcF ss=R:=⟨_,rfl⟩
 rw [hR] at hj ⊢
 have HJ:=Lib.hid hj
 have HSTP:=Lib.hid (fun k acc (h:k<(opS ss).length)=>tcGo_step (cs:=ss) (k:=k) acc h)
 have HEND:=Lib.hid (fun k acc (h:(opS ss).length≤k)=>tcGo_end (cs:=ss) (k:=k) acc h)
 have HMEM:Hid (∀k,k<(opS ss).length→∃n l c:Nat,gS (opS ss) k=((n:Int),(l:Int),(c:Int))∧l≤3∧1≤c∧c≤4*l+2):=fun k hk=>opS_mem (by rw [gS_lt hk];exact List.getElem_mem hk)
 unfold OpSPost at HOP
 obtain ⟨os,hos⟩:∃os,opS ss=os:=⟨_,rfl⟩
 rw [hos] at HOP HJ HSTP HEND HMEM hol
 obtain ⟨m,hm⟩:∃m,os.length=m:=⟨_,rfl⟩
 rw [hm] at HOP HSTP HEND HMEM hol
 have HM:=Lib.hid hm
 clear hj hv hr hl hd hos hm hR
 go_enter Tryz.func6,Tryz.ntmps6
 go_wp2_with fail
 refine HV.out.mono ?_
 rintro e w1 ⟨rfl,hb1⟩
 have HB1:=Lib.hid (bel_alloc hb1 (.cells #[.int .i64 0,.int .i64 0] 39))
 have HX1:=Lib.hid (Blk.new w1 39 #[.int .i64 0,.int .i64 0])
 clear hb1 HV
 go_wp2_with fail
 refine (HOP.out _ HB1.out).mono ?_
 rintro e w3 ⟨⟨A3,c3,rfl,ho3⟩,hb3⟩
 have HB3:=Lib.hid (bel_sub HB1.out hb3)
 have HX3:=Lib.hid (HX1.out.sub hb3)
 have HR3:=Lib.hid (own_reads ho3)
 have HRL:=Lib.hid (reads_one HX3.out)
 clear hb3 ho3 HB1 HX1 HOP
 obtain ⟨T0,hT0⟩:∃T0,w1.heap.size=T0:=⟨_,rfl⟩
 rw [hT0] at HRL ⊢
 clear hT0 HX3
 go_wp2_with fail
 go_loopw [4,16] (fun v i wr=>∃(k n:Nat) (A:Option Addr) (c:Nat) (acc:List T2),k≤m∧i=.int .i64 (k:Int)∧v=.slice A n c∧n≤400∧Hid (acc.length=n)∧Hid (tcGo (os.drop k) acc=R)∧Hid (Reads wr wr.heap.size 2 A n (tcells acc))∧Hid (Below w3.heap.size w3 wr)) (fun _ i _=>m-(RowKit.intOf i).toNat)
 case atStart=>exact ⟨0,1,_,_,[(0,0)],Nat.zero_le _,rfl,rfl,by omega,rfl,HJ.out,HRL.out,Below.refl _ _⟩
 case round =>
  clear HJ HRL
  obtain ⟨k,n',A',c',acc,hk,rfl,rfl,hn4,HN,HG,HRA,HB⟩:=hrel
  by_cases hlt:k<m
  ·obtain ⟨g,off,rfl,hg,hc⟩:=(HR3.out.below HB.out).shl hlt
   obtain ⟨r1,r2,r3⟩:=hc k hlt
   have hst:=HSTP.out k acc hlt
   rw [HG.out] at hst
   obtain ⟨x1,x2,x3,hx,hl3,hc1,hc2⟩:=HMEM.out k hlt
   rw [hx] at hst r1 r2 r3
   unfold tmsOf at hst
   simp only [Int.toNat_natCast] at hst r1 r2 r3
   have HBA:=Lib.hid (HB.out.alloc HB.out.size (.cells #[.int .i64 x1,.int .i64 x2,.int .i64 x3] 42))
   have HXA:=Lib.hid (Blk.new wr 42 #[.int .i64 x1,.int .i64 x2,.int .i64 x3])
   have HRB:=Lib.hid ((HRA.out.below (bel_alloc (Below.refl wr.heap.size wr) (.cells #[.int .i64 x1,.int .i64 x2,.int .i64 x3] 42))).more (bel_alloc (Below.refl wr.heap.size wr) (.cells #[.int .i64 x1,.int .i64 x2,.int .i64 x3] 42)).size)
   obtain ⟨y1,y2,y3,_,_,_⟩:=blk3 HXA.out
   clear hc hx HG
   by_cases h2:x2≤2
   ·have i2:¬((2:Int)<(x2:Int)):=by omega
    rw [if_neg i2] at hst
    have HTM:=Lib.hid (fun W hd=>Mi.implTermsOf_any x2 x3 h2 hc2 W hd)
    unfold Mi.TlPost at HTM
    have htl:=(Mi.trms_pos ⟨x2,by omega⟩ ⟨x3,by omega⟩ hc2).2.1
    simp only at htl
    obtain ⟨us,hus⟩:∃us,Mi.trms x2 x3=us:=⟨_,rfl⟩
    rw [hus] at HTM hst htl
    have HJN:=Lib.hid (fun A1 A2 n1 c1 n2 c2 W h1 h2 h3 h4 h5 h6=>implTermsJoin_any A1 A2 n1 c1 n2 c2 acc us W h1 h2 h3 h4 h5 h6)
    unfold JnPost at HJN
    have hjl:=joinT_len acc us
    obtain ⟨⟨rs,fine⟩,hj⟩:∃r,joinT acc us=r:=⟨_,rfl⟩
    rw [hj] at HJN hst hjl
    simp only at HJN hst hjl
    obtain ⟨rl,hrl⟩:∃rl,rs.length=rl:=⟨_,rfl⟩
    rw [hrl] at HJN hjl
    have HRLn:=Lib.hid hrl
    have HST:=Lib.hid hst
    clear hst hj hus hrl
    go_wp2_with fail
    refine (HTM.out _ (HD.out _ (bel_sub HB3.out HBA.out))).mono ?_
    rintro e w5 ⟨A5,c5,m5,rfl,_,hm5,hr5,hb5⟩
    have HB5:=Lib.hid (HBA.out.trans (hb5.mono HBA.out.size))
    have HRA5:=Lib.hid ((HRB.out.below hb5).more hb5.size)
    have HR5:=Lib.hid hr5
    have HM5:=Lib.hid hm5
    have hm40:m5≤40:=by rw [←hm5];exact htl
    clear hb5 hr5 hm5 htl HTM HRA HRB HXA HBA y1 y2 y3 r1 r2 r3 HB
    go_wp2_with fail
    refine (HJN.out A' A5 n' c' m5 c5 _ (by omega) (by omega) HN.out HM5.out HRA5.out HR5.out).mono ?_
    rintro e w6 ⟨⟨A6,c6,rfl,hr6⟩,hb6⟩
    have HB6:=Lib.hid (HB5.out.trans (hb6.mono HB5.out.size))
    have HR6:=Lib.hid hr6
    clear hb6 hr6 HB5 HRA5 HR5 HJN
    cases fine
    ·have HRE:Hid (R=([],false)):=HST.out
     have HBB:=Lib.hid (bel_sub HB3.out HB6.out)
     go_wp2_with fail
     go_ret2
     exact ⟨⟨none,0,by rw [HRE.out];rfl,by rw [HRE.out];exact Reads.none_⟩,HBB.out⟩
    ·have HG2:Hid (tcGo (os.drop (k+1)) rs=R):=HST.out.symm
     go_wp2_with fail
     go_roundw
     case rel=>exact ⟨k+1,rl,A6,c6,rs,by omega,by go_num,rfl,hjl,HRLn.out,HG2.out,HR6.out,HB6.out⟩
     case measure=>simp [RowKit.intOf];omega
   ·have i2:(2:Int)<(x2:Int):=by omega
    rw [if_pos i2] at hst
    have HRE:Hid (R=([],false)):=hst
    have HBB:=Lib.hid (bel_sub HB3.out HBA.out)
    clear hst
    go_wp2_with fail
    go_ret2
    exact ⟨⟨none,0,by rw [HRE.out];rfl,by rw [HRE.out];exact Reads.none_⟩,HBB.out⟩
  ·have HRE:Hid (R=(acc,true)):=by
    unfold Hid
    rw [←HG.out,HEND.out k acc (by omega)]
   have HBB:=Lib.hid (bel_sub HB3.out HB.out)
   clear HG HB
   go_wp2_with fail
   go_ret2
   exact ⟨⟨A',c',by rw [HRE.out,←HN.out];rfl,by rw [HRE.out];simp only;rw [HN.out];exact HRA.out⟩,HBB.out⟩
end
section
open Go.RowKit
attribute [local go_sem ↓] Go.wp_at_zero Go.wp_at_succ
theorem l14Ahead_any (a b:T2) (w:World):Calls Tryz.prog 79 #[.agg #[.int .i64 a.1,.int .i64 a.2],.agg #[.int .i64 b.1,.int .i64 b.2]] w fun e w'=>e=.returned (.bool (ahd a b))∧Below w.heap.size w w':=by
 obtain ⟨a1,a2⟩:=a
 obtain ⟨b1,b2⟩:=b
 have HB:=Lib.hid (bel_alloc (bel_alloc (Below.refl w.heap.size w) (.cells #[.int .i64 a1,.int .i64 a2] 39)) (.cells #[.int .i64 b1,.int .i64 b2] 39))
 by_cases h1:b1<a1
 ·have HL:Hid (ahd (a1,a2) (b1,b2)=true):=decide_eq_true (.inl h1)
  go_enter Tryz.func79,Tryz.ntmps79
  go_wp2_with fail
  go_ret
  exact ⟨ret_bool HL.out.symm,HB.out⟩
 by_cases h2:a1=b1
 ·subst h2
  by_cases h3:b2<a2
  ·have HL:Hid (ahd (a1,a2) (a1,b2)=true):=decide_eq_true (.inr ⟨rfl,h3⟩)
   go_enter Tryz.func79,Tryz.ntmps79
   go_wp2_with fail
   go_ret
   exact ⟨ret_bool HL.out.symm,HB.out⟩
  ·have HL:Hid (ahd (a1,a2) (a1,b2)=false):=decide_eq_false (by simp only;omega)
   go_enter Tryz.func79,Tryz.ntmps79
   go_wp2_with fail
   go_ret
   exact ⟨ret_bool HL.out.symm,HB.out⟩
 ·have HL:Hid (ahd (a1,a2) (b1,b2)=false):=decide_eq_false (by simp only;omega)
  have e1:(a1==b1)=false:=by simpa using h2
  go_enter Tryz.func79,Tryz.ntmps79
  go_wp2_with fail
  go_ret
  exact ⟨ret_bool HL.out.symm,HB.out⟩
theorem vldT_bad {ts:List T2} (h:ts.all tvB=false):vldT ts=false:=by unfold vldT;rw [h,Bool.and_false]
theorem vldT_all {ts:List T2} (h:ts.all tvB=true):vldT ts=decide (ts.length≤400):=by unfold vldT;rw [h,Bool.and_true]
theorem all_bad' (ts:List T2) (k:Nat) (t:T2) (h:ts[k]?=some t) (hv:tvB t=false):ts.all tvB=false:=by
 rw [Bool.eq_false_iff]
 intro hall
 have:=List.all_eq_true.1 hall t (List.mem_of_getElem? h)
 rw [hv] at this;cases this
theorem l14Valid_any (A:Option Addr) (n c:Nat) (ts:List T2) (w:World) (hn:n≤100000) (hts:ts.length=n) (hr:Reads w w.heap.size 2 A n (tcells ts)) :
 Calls Tryz.prog 49 #[.slice A n c] w fun e w'=>e=.returned (.bool (vldT ts))∧Below w.heap.size w w':=by
 have HR:=Lib.hid hr;clear hr
 have HT:=Lib.hid hts;clear hts
 have HB0:=Lib.hid (Below.refl w.heap.size w)
 go_enter Tryz.func49,Tryz.ntmps49
 go_wp2_with fail
 go_loopw [3] (fun i wr=>∃(k:Nat),k≤n∧i=.int .i64 k∧Hid ((ts.take k).all tvB=true)∧Hid (Below w.heap.size w wr)) (fun i _=>n-(RowKit.intOf i).toNat)
 case atStart=>exact ⟨0,Nat.zero_le _,rfl,rfl,HB0.out⟩
 case round =>
  clear HB0
  obtain ⟨k,hk,rfl,HA,HB⟩:=hrel
  by_cases hlt:k<n
  ·obtain ⟨b,off,x,y,rfl,hb,h1,h2,H3,H4⟩:=(HR.out.below HB.out).term hlt
   have HQ:=Lib.hid (fun W=>specTermValid_any (x,y) W)
   have i1:(k:Int)<(n:Int):=by omega
   have i0:(0:Int)≤(k:Int):=by omega
   cases hv:tvB (x,y)
   ·have HV:=Lib.hid (vldT_bad (all_bad' ts k (x,y) H3.out hv));rw [hv] at HQ;clear hv
    go_wp2_with fail
    refine (HQ.out _).mono ?_
    rintro e w2 ⟨rfl,hb2⟩
    have HB2:=Lib.hid (bel_sub HB.out hb2);clear hb2
    go_wp2_with fail
    go_ret
    exact ⟨ret_bool HV.out.symm,HB2.out⟩
   ·have HV:=Lib.hid hv;rw [hv] at HQ;clear hv
    go_wp2_with fail
    refine (HQ.out _).mono ?_
    rintro e w2 ⟨rfl,hb2⟩
    have HB2:=Lib.hid (bel_sub HB.out hb2);clear hb2
    go_wp2_with fail
    go_roundw
    case rel=>exact ⟨k+1,by omega,by go_num,by unfold Hid;rw [H4.out,List.all_append,HA.out];simp [HV.out],HB2.out⟩
    case measure=>simp [RowKit.intOf];omega
  ·have hkn:k=n:=by omega
   subst hkn
   have hx:ts.take k=ts:=List.take_of_length_le (by rw [HT.out];exact Nat.le_refl _)
   have HX:Hid (vldT ts=decide ((k:Int)≤400)):=by
    unfold Hid
    rw [vldT_all (by rw [←hx];exact HA.out),HT.out]
    exact decide_eq_decide.2 (by omega)
   clear hx
   go_wp2_with fail
   go_ret
   exact ⟨ret_bool HX.out.symm,HB.out⟩
def Sm (s:S3):Prop:=-1000≤s.1∧s.1≤1000∧-1000≤s.2.1∧s.2.1≤1000∧-1000≤s.2.2∧s.2.2≤1000
theorem shvB_in (n l c:Int):shvB (n,l,c)=(inB n 1 7 && (inB l 0 (min 3 (n-1)) && inB c 1 (4*l+2))):=by
 rw [Bool.eq_iff_iff,shvB_iff]
 simp only [Bool.and_eq_true,inB_iff]
 unfold capB
 constructor
 ·rintro ⟨h1,h2,h3,h4,h5,h6,h7⟩
  rw [if_pos ⟨h3,h4⟩] at h7
  omega
 ·rintro ⟨⟨h1,h2⟩,⟨h3,h4⟩,h5,h6⟩
  rw [if_pos (by omega)]
  omega
theorem specShellValid_any (n l c:Int) (w:World) (h:Sm (n,l,c)):Calls Tryz.prog 46 #[.agg #[.int .i64 n,.int .i64 l,.int .i64 c]] w fun e w'=>e=.returned (.bool (shvB (n,l,c)))∧Below w.heap.size w w':=by
 have HB:=Lib.hid (bel_alloc (Below.refl w.heap.size w) (.cells #[.int .i64 n,.int .i64 l,.int .i64 c] 42))
 have HV:=Lib.hid (shvB_in n l c)
 unfold Sm at h
 simp only at h
 cases c1:inB n 1 7
 ·go_enter Tryz.func46,Tryz.ntmps46
  go_wp2_with (go_at_call 76;refine (l6In_any _ _ _ _).mono ?_;rintro e w' ⟨rfl,rfl⟩)
  go_ret
  exact ⟨ret_bool (by rw [HV.out,c1];rfl),HB.out⟩
 cases c2:inB l 0 (min 3 (n-1))
 ·go_enter Tryz.func46,Tryz.ntmps46
  go_wp2_with (go_at_call 76;refine (l6In_any _ _ _ _).mono ?_;rintro e w' ⟨rfl,rfl⟩)
  go_ret
  exact ⟨ret_bool (by rw [HV.out,c1,c2];rfl),HB.out⟩
 ·go_enter Tryz.func46,Tryz.ntmps46
  go_wp2_with (go_at_call 76;refine (l6In_any _ _ _ _).mono ?_;rintro e w' ⟨rfl,rfl⟩)
  go_ret
  exact ⟨ret_bool (by rw [HV.out,c1,c2];rfl),HB.out⟩
theorem gS_mem {ss:List S3} {k:Nat} (h:k<ss.length):gS ss k∈ss:=by rw [gS_lt h];exact List.getElem_mem h
theorem okAt_zero (ss:List S3):okAt ss 0=shvB (gS ss 0):=by unfold okAt;simp
theorem okAt_succ (ss:List S3) (i:Nat):okAt ss (i+1)=(shvB (gS ss (i+1)) && lessS (gS ss i) (gS ss (i+1))):=by unfold okAt;simp
theorem specConfigValid_any (A:Option Addr) (n c:Nat) (ss:List S3) (w:World) (hn:n≤1000000) (hl:ss.length=n) (hs:∀s∈ss,Sm s) (hr:Reads w w.heap.size 3 A n (scellsS ss)) :
 Calls Tryz.prog 19 #[.slice A n c] w fun e w'=>e=.returned (.bool (cvB ss))∧Below w.heap.size w w':=by
 have HSV:Hid (∀k,k<n→∀W,Calls Tryz.prog 46 #[.agg #[.int .i64 (gS ss k).1,.int .i64 (gS ss k).2.1,.int .i64 (gS ss k).2.2]] W fun e w'=>e=.returned (.bool (shvB (gS ss k)))∧Below W.heap.size W w'):=fun k hk W =>
  specShellValid_any (gS ss k).1 (gS ss k).2.1 (gS ss k).2.2 W (hs _ (gS_mem (by rw [hl];exact hk)))
 have HL:=Lib.hid hl;clear hl
 have HR:=Lib.hid hr;clear hr
 have HB0:=Lib.hid (Below.refl w.heap.size w)
 clear hs
 go_enter Tryz.func19,Tryz.ntmps19
 go_wp2_with fail
 go_loopw [3] (fun i wr=>∃(k:Nat),k≤n∧i=.int .i64 (k:Int)∧Hid (∀j,j<k→okAt ss j=true)∧Hid (Below w.heap.size w wr)) (fun i _=>n-(RowKit.intOf i).toNat)
 case atStart=>exact ⟨0,Nat.zero_le _,rfl,fun j h=>absurd h (by omega),HB0.out⟩
 case round =>
  clear HB0
  obtain ⟨k,hk,rfl,HO,HB⟩:=hrel
  by_cases hlt:k<n
  ·obtain ⟨b,off,rfl,hb,hc⟩:=(HR.out.below HB.out).shl hlt
   obtain ⟨r1,r2,r3⟩:=hc k hlt
   have HNO:=Lib.hid (fun (h:okAt ss k=false)=>cv_no (by rw [HL.out];exact hlt) h)
   have HV:=Lib.hid (HSV.out k hlt)
   have i1:(k:Int)<(n:Int):=by omega
   have i0:(0:Int)≤(k:Int):=by omega
   have k1:=After.cell r1
   have k2:=After.cell r2
   have k3:=After.cell r3
   cases v:shvB (gS ss k)
   ·rw [v] at HV
    have HE:Hid (cvB ss=false):=HNO.out (by unfold okAt;rw [v];rfl)
    clear v hc HSV
    generalize (gS ss k).1=s1 at *
    generalize (gS ss k).2.1=s2 at *
    generalize (gS ss k).2.2=s3 at *
    go_wp2_with fail
    refine wp_region_after (by kernel_rfl) (by kernel_rfl) ?_
    repeat (go_big_quiet_step ((go_at_call 46;exact after_call _ (HV.out _))))
    refine wpQuiet_nil ?_
    intro w9 hw'
    obtain ⟨⟨w9',hb9⟩,hw''⟩:=hw'
    subst hw''
    have HB9:=Lib.hid (bel_sub HB.out hb9);clear hb9
    go_wp2_with fail
    go_ret
    exact ⟨ret_bool HE.out.symm,HB9.out⟩
   by_cases h0:k=0
   ·have HN:Hid (∀j,j<k+1→okAt ss j=true):=fun j hj=>by
     obtain rfl:j=0:=by omega
     rw [okAt_zero,←h0];exact v
    rw [v] at HV
    have d0:decide (0<k)=false:=decide_eq_false (by omega)
    clear hc h0 v HSV
    generalize (gS ss k).1=s1 at *
    generalize (gS ss k).2.1=s2 at *
    generalize (gS ss k).2.2=s3 at *
    go_wp2_with fail
    refine wp_region_after (by kernel_rfl) (by kernel_rfl) ?_
    repeat (go_big_quiet_step ((go_at_call 46;exact after_call _ (HV.out _))))
    refine wpQuiet_nil ?_
    intro w9 hw'
    obtain ⟨⟨w9',hb9⟩,hw''⟩:=hw'
    subst hw''
    have HB9:=Lib.hid (bel_sub HB.out hb9);clear hb9
    go_wp2_with fail
    go_roundw
    case rel=>exact ⟨k+1,by omega,by go_num,HN.out,HB9.out⟩
    case measure=>simp [RowKit.intOf];omega
   obtain ⟨i,rfl⟩:∃i,k=i+1:=⟨k-1,by omega⟩
   clear h0
   obtain ⟨q1,q2,q3⟩:=hc i (by omega)
   have HLS:=Lib.hid (fun W=>l11Less_any (gS ss i) (gS ss (i+1)) W)
   have hok:=okAt_succ ss i
   rw [v,Bool.true_and] at hok
   rw [v] at HV
   have k4:=After.cell q1
   have k5:=After.cell q2
   have k6:=After.cell q3
   have d0:decide (0<i+1)=true:=decide_eq_true (by omega)
   have i4:IntKind.i64.wrap ((i:Int)+1-1)=(i:Int):=(IntWalk.i64_in _ (by omega)).trans (by omega)
   have i5:(0:Int)≤(i:Int):=by omega
   have i6:(i:Int)<(n:Int):=by omega
   cases ls:lessS (gS ss i) (gS ss (i+1))
   ·rw [ls] at HLS
    have HE:Hid (cvB ss=false):=HNO.out (by rw [hok,ls])
    clear v hc HSV hok ls
    generalize (gS ss (i+1)).1=s1 at *
    generalize (gS ss (i+1)).2.1=s2 at *
    generalize (gS ss (i+1)).2.2=s3 at *
    generalize (gS ss i).1=t1 at *
    generalize (gS ss i).2.1=t2 at *
    generalize (gS ss i).2.2=t3 at *
    go_wp2_with fail
    refine wp_region_after (by kernel_rfl) (by kernel_rfl) ?_
    repeat (go_big_quiet_step ((first | (go_at_call 46;exact after_call _ (HV.out _)) | (go_at_call 47;exact after_call _ (HLS.out _)))))
    refine wpQuiet_nil ?_
    intro w9 hw'
    obtain ⟨⟨w9',hb9⟩,hw''⟩:=hw'
    subst hw''
    have HB9:=Lib.hid (bel_sub HB.out hb9);clear hb9
    go_wp2_with fail
    go_ret
    exact ⟨ret_bool HE.out.symm,HB9.out⟩
   ·rw [ls] at HLS
    have HN:Hid (∀j,j<i+1+1→okAt ss j=true):=fun j hj=>by
     rcases Nat.lt_or_ge j (i+1) with h | h
     ·exact HO.out j h
     ·obtain rfl:j=i+1:=by omega
      rw [hok,ls]
    clear v hc HSV hok ls
    generalize (gS ss (i+1)).1=s1 at *
    generalize (gS ss (i+1)).2.1=s2 at *
    generalize (gS ss (i+1)).2.2=s3 at *
    generalize (gS ss i).1=t1 at *
    generalize (gS ss i).2.1=t2 at *
    generalize (gS ss i).2.2=t3 at *
    go_wp2_with fail
    refine wp_region_after (by kernel_rfl) (by kernel_rfl) ?_
    repeat (go_big_quiet_step ((first | (go_at_call 46;exact after_call _ (HV.out _)) | (go_at_call 47;exact after_call _ (HLS.out _)))))
    refine wpQuiet_nil ?_
    intro w9 hw'
    obtain ⟨⟨w9',hb9⟩,hw''⟩:=hw'
    subst hw''
    have HB9:=Lib.hid (bel_sub HB.out hb9);clear hb9
    go_wp2_with fail
    go_roundw
    case rel=>exact ⟨i+1+1,by omega,by go_num,HN.out,HB9.out⟩
    case measure=>simp [RowKit.intOf];omega
  ·obtain rfl:k=n:=by omega
   have HE:Hid (cvB ss=decide (0<k)):=by unfold Hid;rw [cv_yes (fun j hj=>HO.out j (by rw [HL.out] at hj;exact hj)),HL.out]
   have hin:decide ((0:Int)<(k:Int))=decide (0<k):=by rw [decide_eq_decide];omega
   go_wp2_with fail
   go_ret
   exact ⟨ret_bool (by rw [HE.out]),HB.out⟩
theorem specConfigOpen_any (A0:Option Addr) (n c0:Nat) (cs:List S3) (w:World) (hn:n≤1000) (hl:cs.length=n) (hs:∀s∈cs,Sm s) (hr:Reads w w.heap.size 3 A0 n (scellsS cs)) :
 Calls Tryz.prog 20 #[.slice A0 n c0] w (OpSPost cs w):=by
 have HB0:=Lib.hid (bel_alloc (Below.refl w.heap.size w) (.cells #[] 42))
 have HO0:=Lib.hid (own_empty w 42 3)
 have HV:=Lib.hid (fun W (hB:Below w.heap.size w W)=>specConfigValid_any A0 n c0 cs W (by omega) hl hs ((hr.below hB).more hB.size))
 have HL:=Lib.hid hl;have HR:=Lib.hid hr
 clear hl hr hs
 unfold OpSPost
 cases hv:cvB cs
 ·have he:opS cs=[]:=by unfold opS;rw [hv];rfl
  rw [he];rw [hv] at HV;clear hv he
  go_enter Tryz.func20,Tryz.ntmps20
  go_wp2_with fail
  refine (HV.out _ HB0.out).mono ?_
  rintro e w1 ⟨rfl,hb1⟩
  have HB:=Lib.hid (bel_sub HB0.out hb1)
  have HO:=Lib.hid (own_below HO0.out hb1);clear hb1
  go_wp2_with fail
  go_ret
  exact ⟨⟨_,_,rfl,HO.out⟩,HB.out⟩
 have he:opS cs=cs.filter (fun s=>decide (s.2.2<capB s.2.1)):=by unfold opS;rw [hv];rfl
 rw [he];rw [hv] at HV;clear hv he
 go_enter Tryz.func20,Tryz.ntmps20
 go_wp2_with fail
 refine (HV.out _ HB0.out).mono ?_
 rintro e w1 ⟨rfl,hb1⟩
 have HB1:=Lib.hid (bel_sub HB0.out hb1)
 have HO1:=Lib.hid (own_below HO0.out hb1);clear hb1 HV HB0 HO0
 go_wp2_with fail
 go_loopw [3,4] (fun v i wr=>∃(k:Nat) (A:Option Addr) (c:Nat) (os:List S3),k≤n∧i=.int .i64 (k:Int)∧Hid (os=(cs.take k).filter (fun s=>decide (s.2.2<capB s.2.1)))∧v=.slice A os.length c∧Hid (wr.ownsRow w.heap.size 42 3 (.slice A os.length c) os.length (scellsS os))∧Hid (Below w.heap.size w wr)) (fun _ i _=>n-(RowKit.intOf i).toNat)
 case atStart=>exact ⟨0,_,_,[],Nat.zero_le _,rfl,rfl,rfl,HO1.out,HB1.out⟩
 case round =>
  clear HB1 HO1
  obtain ⟨k,A,c,os,hk,rfl,HOS,rfl,HO,HB⟩:=hrel
  by_cases hlt:k<n
  ·obtain ⟨b,off,rfl,hb,hc⟩:=(HR.out.below HB.out).shl hlt
   obtain ⟨r1,r2,r3⟩:=hc k hlt
   have hkl:k<cs.length:=by rw [HL.out];exact hlt
   have hjk:cs[k]=gS cs k:=by simp [gS,hkl]
   have HT:Hid (cs.take (k+1)=cs.take k++[gS cs k]):=by unfold Hid;rw [←hjk,List.take_succ_eq_append_getElem hkl]
   clear hc hjk hkl
   obtain ⟨⟨x1,x2,x3⟩,hx⟩:∃x,gS cs k=x:=⟨_,rfl⟩
   rw [hx] at HT r1 r2 r3
   simp only at r1 r2 r3
   clear hx
   have hol:os.length≤n:=by
    have h1:=List.length_filter_le (fun s:S3=>decide (s.2.2<capB s.2.1)) (cs.take k)
    rw [HOS.out]
    rw [List.length_take] at h1
    omega
   have hsw:=HB.out.size
   have HSC:=Lib.hid (fun W=>specCap_any x2 W)
   have k1:=After.cell r1;have k2:=After.cell r2;have k3:=After.cell r3
   obtain ⟨len,hln⟩:∃len,os.length=len:=⟨_,rfl⟩
   have HLN:=Lib.hid hln
   rw [hln] at hol HO ⊢
   clear hln
   go_wp2_with fail
   refine wp_region_after (by kernel_rfl) (by kernel_rfl) ?_
   repeat (go_big_quiet_step ((go_at_call 48;exact after_call _ (HSC.out _))))
   refine wpQuiet_nil ?_
   intro w9 hw'
   obtain ⟨⟨w9',hb9⟩,hw''⟩:=hw'
   subst hw''
   have HB9:=Lib.hid (bel_sub HB.out hb9)
   have HO9:=Lib.hid (own_below HO.out hb9)
   have hs9:=HB9.out.size
   have z1:=cell_sub hb9 r1;have z2:=cell_sub hb9 r2;have z3:=cell_sub hb9 r3
   clear hb9 r1 r2 r3 k1 k2 k3 HB HO HSC
   by_cases hop:x3<capB x2
   ·have HS2:Hid (os++[(x1,x2,x3)]=(cs.take (k+1)).filter (fun s=>decide (s.2.2<capB s.2.1))):=by unfold Hid;rw [HT.out,List.filter_append,←HOS.out];simp [hop]
    have HLA:Hid ((os++[(x1,x2,x3)]).length=len+1):=by unfold Hid;rw [List.length_append,HLN.out];rfl
    go_wp2_with (at_builtin;refine wpList_app1b _ rfl (.tmp 28) (.tmp 33) _ rfl w.heap.size 42 3 24 elShell A c len (scellsS os) rfl (HO9.out.alloc _) w9.heap.size #[.int .i64 x1,.int .i64 x2,.int .i64 x3] rfl (Blk.new w9 _ _) rfl ?h1 (by omega) (by omega) (by simp;omega) ?_)
    case h1=>simp [Value.oneCell']
    intro A8 c8 w8 hown8 hc8 hb8
    have HW8:=Lib.hid hown8
    have HB8:Hid (Below w.heap.size w w8):=(bel_alloc HB9.out _).trans hb8
    clear hown8 hb8 z1 z2 z3
    go_wp2_with fail
    go_roundw
    case rel=>exact ⟨k+1,A8,c8,os++[(x1,x2,x3)],by omega,by go_num,HS2.out,by rw [HLA.out],by rw [HLA.out,scellsS_snoc];exact HW8.out,HB8.out⟩
    case measure=>simp [RowKit.intOf];omega
   ·have HS2:Hid (os=(cs.take (k+1)).filter (fun s=>decide (s.2.2<capB s.2.1))):=by unfold Hid;rw [HT.out,List.filter_append,←HOS.out];simp [hop]
    go_wp2_with fail
    go_roundw
    case rel=>exact ⟨k+1,A,c,os,by omega,by go_num,HS2.out,by rw [HLN.out],by rw [HLN.out];exact HO9.out,HB9.out⟩
    case measure=>simp [RowKit.intOf];omega
  ·have hke:k=n:=by omega
   have HE:Hid (cs.filter (fun s=>decide (s.2.2<capB s.2.1))=os):=by unfold Hid;rw [HOS.out,List.take_of_length_le (by rw [HL.out];omega)]
   clear hke
   go_wp2_with fail
   go_ret
   exact ⟨⟨A,c,by rw [HE.out];rfl,by rw [HE.out];exact HO.out⟩,HB.out⟩
end
section
open Go.RowKit
attribute [local go_sem ↓] Go.wp_at_zero Go.wp_at_succ
theorem slice_hdT (g k c i:Nat) (hi:i≤k) (hk:k≤c) (w:World):(Instr.slice 25 (.slice (some ⟨g,0,none⟩) k c) none (some (.int .i64 (i:Int))) none).run Tryz.prog w=.ok (.slice (some ⟨g,0,none⟩) i c) w:=by
 have hs:(sizeOf (Tryz.prog.elem 25)).run Tryz.prog w=.ok 2 w:=by kernel_rfl
 rw [run_slice_h w 25 _ k c (show Tryz.prog.underlying 25=some (.slice (Tryz.prog.elem 25)) by kernel_rfl) .i64 i (by omega) (by omega),hs]
 simp [sliced,Addr.add]
def tlA (g c i:Nat):Option Addr:=if c=i then some ⟨g,0,none⟩ else some ⟨g,i*2,none⟩
theorem slice_tlT (g k c i:Nat) (hi:i≤k) (hk:k≤c) (w:World):(Instr.slice 25 (.slice (some ⟨g,0,none⟩) k c) (some (.int .i64 (i:Int))) none none).run Tryz.prog w=.ok (.slice (tlA g c i) (k-i) (c-i)) w:=by
 have _:=hk
 have hs:(sizeOf (Tryz.prog.elem 25)).run Tryz.prog w=.ok 2 w:=by kernel_rfl
 rw [run_slice_l w 25 _ k c (show Tryz.prog.underlying 25=some (.slice (Tryz.prog.elem 25)) by kernel_rfl) .i64 i (by omega) (by omega),hs]
 simp [sliced,Addr.add,tlA]
 rcases Nat.eq_zero_or_pos i with h | h
 ·subst h;simp
 ·rw [if_neg (show ¬i*2=0 by omega)]
theorem reads_hd {w:World} {B g k i:Nat} {U:List T2} (h:Reads w B 2 (some ⟨g,0,none⟩) k (tcells U)) (hl:U.length=k) (hi:i≤k):Reads w B 2 (some ⟨g,0,none⟩) i (tcells (U.take i)):=by
 refine ⟨by rw [tcells_len,List.length_take];omega,fun h0=>?_⟩
 obtain ⟨b,off,e,hb,hc⟩:=h.2 (by omega)
 refine ⟨b,off,e,hb,fun j u hu=>hc j u ?_⟩
 have e2:tcells U=tcells (U.take i)++tcells (U.drop i):=by rw [←tcells_app,List.take_append_drop]
 rw [e2,List.getElem?_append_left (List.getElem?_eq_some_iff.1 hu).1]
 exact hu
theorem reads_tl {w:World} {B g k c i:Nat} {U:List T2} (h:Reads w B 2 (some ⟨g,0,none⟩) k (tcells U)) (hl:U.length=k) (hi:i≤k) (hk:k≤c):Reads w B 2 (tlA g c i) (k-i) (tcells (U.drop i)):=by
 refine ⟨by rw [tcells_len,List.length_drop];omega,fun h0=>?_⟩
 obtain ⟨b,off,e,hb,hc⟩:=h.2 (by omega)
 injection e with e
 injection e with e1 e2 e3
 subst e1 e2
 refine ⟨g,i*2,by unfold tlA;rw [if_neg (by omega)],hb,fun j u hu=>?_⟩
 have e2:tcells U=tcells (U.take i)++tcells (U.drop i):=by rw [←tcells_app,List.take_append_drop]
 have hl2:(tcells (U.take i)).length=i*2:=by rw [tcells_len,List.length_take];omega
 have:=hc (i*2+j) u (by rw [e2,List.getElem?_append_right (by omega),hl2,Nat.add_sub_cancel_left];exact hu)
 rwa [Nat.zero_add] at this
def SortPost (ts:List T2) (n:Nat) (w:World) (e:Ending) (w':World):Prop :=
 ∃A c,e=.returned (.slice A n c)∧Reads w' w'.heap.size 2 A n (tcells (srtT ts))∧Below w.heap.size w w'
theorem l14Sort_any (A:Option Addr) (n c:Nat) (ts:List T2) (w:World) (hn:n≤100000) (hts:ts.length=n) (hr:Reads w w.heap.size 2 A n (tcells ts)) :
 Calls Tryz.prog 51 #[.slice A n c] w (SortPost ts n w):=by
 unfold SortPost
 have HR:=Lib.hid hr;clear hr
 have HT:=Lib.hid hts;clear hts
 have HB0:=Lib.hid (bel_alloc (Below.refl w.heap.size w) (.cells #[] 39))
 have HAH:=Lib.hid (fun a b W=>l14Ahead_any a b W)
 have HZ0:Hid (∀W:World,Reads W W.heap.size 2 (some ⟨w.heap.size,0,none⟩) 0 (tcells (srtT (ts.take 0)))):=fun W=>by rw [List.take_zero,srtT_nil];exact Reads.none_
 go_enter Tryz.func51,Tryz.ntmps51
 go_wp2_with fail
 go_loopw [3,4] (fun v i wr=>∃(k g c':Nat),k≤n∧i=.int .i64 (k:Int)∧v=.slice (some ⟨g,0,none⟩) k c'∧k≤c'∧Hid (Reads wr wr.heap.size 2 (some ⟨g,0,none⟩) k (tcells (srtT (ts.take k))))∧Hid (Below w.heap.size w wr)) (fun _ i _=>n-(RowKit.intOf i).toNat)
 case atStart=>exact ⟨0,w.heap.size,0,Nat.zero_le _,rfl,rfl,Nat.zero_le _,HZ0.out _,HB0.out⟩
 case round =>
  clear HB0 HZ0
  obtain ⟨k,g,c',hk,rfl,rfl,hkc,HU,HB⟩:=hrel
  by_cases hlt:k<n
  ·obtain ⟨b,off,x,y,hA,hb,r1,r2,H3,_⟩:=(HR.out.below HB.out).term hlt
   have HR1:=Lib.hid r1
   have HR2:=Lib.hid r2
   have HGK:Hid (gT ts k=(x,y)):=by unfold Hid gT;rw [H3.out];rfl
   have hul:(srtT (ts.take k)).length=k:=by rw [srtT_len,List.length_take,HT.out];omega
   have HUL:=Lib.hid hul
   have HINS:Hid (∀i,i≤k→(0<i→ahd (x,y) (gT (srtT (ts.take k)) (i-1))=false)→(i<k→ahd (x,y) (gT (srtT (ts.take k)) i)=true)→srtT (ts.take (k+1))=(srtT (ts.take k)).take i++(x,y) :: (srtT (ts.take k)).drop i):=fun i h1 h2 h3=>by
    have:=srt_ins (ts:=ts) (k:=k) (i:=i) (by rw [HT.out];exact hlt) h1 (by rw [HGK.out];exact h2) (by rw [HGK.out];exact h3)
    rw [HGK.out] at this;exact this
   obtain ⟨U,hU⟩:∃U,srtT (ts.take k)=U:=⟨_,rfl⟩
   rw [hU] at HU HUL HINS
   have HI0:Hid (k<k→ahd (x,y) (gT U k)=true):=fun h=>absurd h (by omega)
   have i1:(k:Int)<(n:Int):=by omega
   have i0:(0:Int)≤(k:Int):=by omega
   obtain ⟨wm,rfl⟩:∃wm:World,wm=wr:=⟨_,rfl⟩
   clear hU hul H3 HGK r1 r2
   subst hA
   go_wp2_with fail
   go_loopw [5] (fun a wr=>∃(i:Nat),i≤k∧a=.int .i64 (i:Int)∧Hid (i<k→ahd (x,y) (gT U i)=true)∧Hid (Below wm.heap.size wm wr)) (fun a _=>(RowKit.intOf a).toNat)
   case atStart=>exact ⟨k,Nat.le_refl _,rfl,HI0.out,Below.refl _ _⟩
   case round =>
    clear HI0
    obtain ⟨i,hik,rfl,HI,HBq⟩:=hrel
    obtain ⟨wq,rfl⟩:∃wq:World,wq=wr:=⟨_,rfl⟩
    by_cases h0:i=0
    ·have HE:=Lib.hid (HINS.out i hik (fun h=>absurd h (by omega)) HI.out)
     have d0:decide (0<i)=false:=decide_eq_false (by omega)
     clear HI h0
     go_wp2_with fail
     refine wp_region_after (by kernel_rfl) (by kernel_rfl) ?_
     repeat (go_big_quiet_step (fail))
     refine wpQuiet_nil ?_
     intro w9 hw'
     obtain ⟨⟨w9',hb9⟩,hw''⟩:=hw'
     subst hw''
     have HB9:=Lib.hid (bel_sub HBq.out hb9);clear hb9 HBq d0
     have HUq:=Lib.hid ((HU.out.below HB9.out).more HB9.out.size)
     have hsh:=slice_hdT g k c' i hik hkc
     have hst:=slice_tlT g k c' i hik hkc
     have HOE:=Lib.hid (own_empty w9 39 2)
     have hbe:=bel_alloc (Below.refl w9.heap.size w9) (.cells #[] 39)
     have HRH:=Lib.hid (reads_hd ((HUq.out.below hbe).more hbe.size) HUL.out hik)
     have HBE:=Lib.hid hbe;clear hbe
     go_wp2_with (at_builtin;refine wpList_appR2 _ rfl (.tmp 32) (.tmp 35) _ rfl w9.heap.size 39 2 16 elTerm (some ⟨w9.heap.size,0,none⟩) 0 0 [] rfl HOE.out _ (some ⟨g,0,none⟩) i c' (tcells (U.take i)) rfl HRH.out (tcells_one _) i (Nat.zero_add i).symm (by omega) (by omega) (by simp) ?_)
     intro A5 c5 w5 hown5 hc5 hb5 _ g5 hA5
     subst hA5
     have hbe5:Below w9.heap.size w9 w5:=HBE.out.trans hb5
     have HO5:Hid (w5.ownsRow w9.heap.size 39 2 (.slice (some ⟨g5,0,none⟩) i c5) i (tcells (U.take i))):=hown5
     have HB5:=Lib.hid hbe5
     have p1:=cell_sub (bel_sub HB9.out hbe5) HR1.out
     have p2:=cell_sub (bel_sub HB9.out hbe5) HR2.out
     have hs5:=hbe5.size
     clear hown5 hb5 hbe5 HOE HRH HBE
     go_wp2_with (at_builtin;refine wpList_app1b _ rfl (.tmp 37) (.tmp 42) _ rfl w9.heap.size 39 2 16 elTerm (some ⟨g5,0,none⟩) c5 i (tcells (U.take i)) rfl (HO5.out.alloc _) w5.heap.size #[.int .i64 x,.int .i64 y] rfl (Blk.new w5 _ _) rfl ?h1 (by omega) (by omega) (by simp;omega) ?_)
     case h1=>simp [Value.oneCell']
     intro A6 c6 w6 hown6 hc6 hb6
     have hbe6:Below w9.heap.size w9 w6:=(bel_alloc HB5.out _).trans hb6
     obtain ⟨g6,cur6,hA6,_,_,_⟩:=own_blk2 hown6 (Nat.succ_pos i)
     subst hA6
     have HO6:=Lib.hid hown6
     have HB6:=Lib.hid hbe6
     have HRT:=Lib.hid (reads_tl ((HUq.out.below hbe6).more hbe6.size) HUL.out hik hkc)
     have hs6:=hbe6.size
     clear hown6 hb6 hbe6 HO5 HB5 p1 p2 hs5
     go_wp2_with (at_builtin;refine wpList_appR2 _ rfl (.tmp 44) (.tmp 47) _ rfl w9.heap.size 39 2 16 elTerm (some ⟨g6,0,none⟩) c6 (i+1) _ rfl HO6.out _ (tlA g c' i) (k-i) (c'-i) (tcells (U.drop i)) rfl HRT.out (tcells_one _) (k+1) (by omega) (by omega) (by omega) hs6 ?_)
     intro A7 c7 w7 hown7 hc7 hb7 _ g7 hA7
     subst hA7
     have HR7:Hid (Reads w7 w7.heap.size 2 (some ⟨g7,0,none⟩) (k+1) (tcells (srtT (ts.take (k+1))))):=by
      unfold Hid
      rw [HE.out]
      have:=own_reads hown7
      have e:tcells (U.take i++(x,y) :: U.drop i)=tcells (U.take i)++Value.int .i64 x :: Value.int .i64 y :: tcells (U.drop i):=by simp [tcells]
      rw [e];exact this
     have HB7:=Lib.hid (bel_sub HB.out (bel_sub HB9.out (HB6.out.trans hb7)))
     clear hown7 hb7 HO6 HB6 HRT hs6
     go_wp2_with fail
     go_roundw
     case rel=>exact ⟨k+1,g7,c7,by omega,by go_num,rfl,hc7,HR7.out,HB7.out⟩
     case measure=>simp [RowKit.intOf];omega
    ·obtain ⟨j,hj⟩:∃j,i=j+1:=⟨i-1,by omega⟩
     obtain ⟨b2,off2,u,v,hA2,hb2,q1,q2,H5,_⟩:=HU.out.term (show j<k by omega)
     injection hA2 with hA2
     injection hA2 with e1 e2 _
     subst e1 e2
     simp only [Nat.zero_add] at q1 q2
     have HGJ:Hid (gT U (i-1)=(u,v)):=by unfold Hid gT;rw [show i-1=j by omega,H5.out];rfl
     have k1:=After.cell (cell_sub HBq.out HR1.out)
     have k2:=After.cell (cell_sub HBq.out HR2.out)
     have k3:=After.cell (cell_sub HBq.out q1)
     have k4:=After.cell (cell_sub HBq.out q2)
     have HQ:=Lib.hid (fun W=>HAH.out (x,y) (u,v) W)
     have d0:decide (0<i)=true:=decide_eq_true (by omega)
     have i4:IntKind.i64.wrap ((i:Int)-1)=(j:Int):=(IntWalk.i64_in _ (by omega)).trans (by omega)
     have i5:(0:Int)≤(j:Int):=by omega
     have i6:(j:Int)<(k:Int):=by omega
     have HJ:=Lib.hid hj
     clear h0 hj H5 q1 q2
     cases hah:ahd (x,y) (u,v)
     ·rw [hah] at HQ
      have HE:=Lib.hid (HINS.out i hik (fun _=>by rw [HGJ.out];exact hah) HI.out)
      clear hah HI
      go_wp2_with fail
      refine wp_region_after (by kernel_rfl) (by kernel_rfl) ?_
      repeat (go_big_quiet_step ((go_at_call 79;exact after_call _ (HQ.out _))))
      refine wpQuiet_nil ?_
      intro w9 hw'
      obtain ⟨⟨w9',hb9⟩,hw''⟩:=hw'
      subst hw''
      have HB9:=Lib.hid (bel_sub HBq.out hb9);clear hb9 HBq d0 i4 i5 i6 k1 k2 k3 k4 HQ
      have HUq:=Lib.hid ((HU.out.below HB9.out).more HB9.out.size)
      have hsh:=slice_hdT g k c' i hik hkc
      have hst:=slice_tlT g k c' i hik hkc
      have HOE:=Lib.hid (own_empty w9 39 2)
      have hbe:=bel_alloc (Below.refl w9.heap.size w9) (.cells #[] 39)
      have HRH:=Lib.hid (reads_hd ((HUq.out.below hbe).more hbe.size) HUL.out hik)
      have HBE:=Lib.hid hbe;clear hbe
      go_wp2_with (at_builtin;refine wpList_appR2 _ rfl (.tmp 32) (.tmp 35) _ rfl w9.heap.size 39 2 16 elTerm (some ⟨w9.heap.size,0,none⟩) 0 0 [] rfl HOE.out _ (some ⟨g,0,none⟩) i c' (tcells (U.take i)) rfl HRH.out (tcells_one _) i (Nat.zero_add i).symm (by omega) (by omega) (by simp) ?_)
      intro A5 c5 w5 hown5 hc5 hb5 _ g5 hA5
      subst hA5
      have hbe5:Below w9.heap.size w9 w5:=HBE.out.trans hb5
      have HO5:Hid (w5.ownsRow w9.heap.size 39 2 (.slice (some ⟨g5,0,none⟩) i c5) i (tcells (U.take i))):=hown5
      have HB5:=Lib.hid hbe5
      have p1:=cell_sub (bel_sub HB9.out hbe5) HR1.out
      have p2:=cell_sub (bel_sub HB9.out hbe5) HR2.out
      have hs5:=hbe5.size
      clear hown5 hb5 hbe5 HOE HRH HBE
      go_wp2_with (at_builtin;refine wpList_app1b _ rfl (.tmp 37) (.tmp 42) _ rfl w9.heap.size 39 2 16 elTerm (some ⟨g5,0,none⟩) c5 i (tcells (U.take i)) rfl (HO5.out.alloc _) w5.heap.size #[.int .i64 x,.int .i64 y] rfl (Blk.new w5 _ _) rfl ?h1 (by omega) (by omega) (by simp;omega) ?_)
      case h1=>simp [Value.oneCell']
      intro A6 c6 w6 hown6 hc6 hb6
      have hbe6:Below w9.heap.size w9 w6:=(bel_alloc HB5.out _).trans hb6
      obtain ⟨g6,cur6,hA6,_,_,_⟩:=own_blk2 hown6 (Nat.succ_pos i)
      subst hA6
      have HO6:=Lib.hid hown6
      have HB6:=Lib.hid hbe6
      have HRT:=Lib.hid (reads_tl ((HUq.out.below hbe6).more hbe6.size) HUL.out hik hkc)
      have hs6:=hbe6.size
      clear hown6 hb6 hbe6 HO5 HB5 p1 p2 hs5
      go_wp2_with (at_builtin;refine wpList_appR2 _ rfl (.tmp 44) (.tmp 47) _ rfl w9.heap.size 39 2 16 elTerm (some ⟨g6,0,none⟩) c6 (i+1) _ rfl HO6.out _ (tlA g c' i) (k-i) (c'-i) (tcells (U.drop i)) rfl HRT.out (tcells_one _) (k+1) (by omega) (by omega) (by omega) hs6 ?_)
      intro A7 c7 w7 hown7 hc7 hb7 _ g7 hA7
      subst hA7
      have HR7:Hid (Reads w7 w7.heap.size 2 (some ⟨g7,0,none⟩) (k+1) (tcells (srtT (ts.take (k+1))))):=by
       unfold Hid
       rw [HE.out]
       have:=own_reads hown7
       have e:tcells (U.take i++(x,y) :: U.drop i)=tcells (U.take i)++Value.int .i64 x :: Value.int .i64 y :: tcells (U.drop i):=by simp [tcells]
       rw [e];exact this
      have HB7:=Lib.hid (bel_sub HB.out (bel_sub HB9.out (HB6.out.trans hb7)))
      clear hown7 hb7 HO6 HB6 HRT hs6
      go_wp2_with fail
      go_roundw
      case rel=>exact ⟨k+1,g7,c7,by omega,by go_num,rfl,hc7,HR7.out,HB7.out⟩
      case measure=>simp [RowKit.intOf];omega
     ·rw [hah] at HQ
      have HI2:Hid (j<k→ahd (x,y) (gT U j)=true):=fun _=>by
       have:=HGJ.out
       rw [show i-1=j by have:=HJ.out;omega] at this
       rw [this];exact hah
      clear hah HI
      go_wp2_with fail
      refine wp_region_after (by kernel_rfl) (by kernel_rfl) ?_
      repeat (go_big_quiet_step ((go_at_call 79;exact after_call _ (HQ.out _))))
      refine wpQuiet_nil ?_
      intro w9 hw'
      obtain ⟨⟨w9',hb9⟩,hw''⟩:=hw'
      subst hw''
      have HB9:=Lib.hid (bel_sub HBq.out hb9);clear hb9 HBq k1 k2 k3 k4 HQ
      have hj:=HJ.out
      go_wp2_with fail
      go_roundw
      case rel=>exact ⟨j,by omega,by go_num,HI2.out,HB9.out⟩
      case measure=>simp [RowKit.intOf];omega
  ·obtain rfl:k=n:=by omega
   have HX:Hid (ts.take k=ts):=List.take_of_length_le (by rw [HT.out];exact Nat.le_refl _)
   rw [HX.out] at HU
   go_wp2_with fail
   go_ret
   exact ⟨_,_,rfl,HU.out,HB.out⟩
end
section
open Go.RowKit
attribute [local go_sem ↓] Go.wp_at_zero Go.wp_at_succ
theorem specCouple_yes (a b:T2) (w:World) (h:cpOk a b=true) :
 Calls Tryz.prog 50 #[.agg #[.int .i64 a.1,.int .i64 a.2],.agg #[.int .i64 b.1,.int .i64 b.2]] w fun e w' =>
  (∃A c,e=.returned (.tuple #[.slice A (cplT a b).length c,.bool true])∧Reads w' w'.heap.size 2 A (cplT a b).length (tcells (cplT a b)))∧Below w.heap.size w w':=by
 have hk:=cpOk_iff.1 h
 have HVA:=Lib.hid (fun W=>specTermValid_any a W)
 have HVB:=Lib.hid (fun W=>specTermValid_any b W)
 rw [hk.1] at HVA
 rw [hk.2.1] at HVB
 have ha:=tvB_iff.1 hk.1
 have hb:=tvB_iff.1 hk.2.1
 have h1:=hk.2.2.1
 have h2:=hk.2.2.2
 have HIN:=Lib.hid (fun q m hq hm=>cpIn_le h (q:=q) (m:=m) hq hm)
 have HLI:=Lib.hid (fun q=>cpS_len a b q)
 have HSU:=Lib.hid (fun q=>cpS_succ a b q)
 have HMO:=Lib.hid (fun q m=>cpRow_more a b q m)
 have hMM:cpM a b=(2*min a.2 b.2).toNat+1:=rfl
 have hM:=cpM_le h
 have hZZ:cplT a b=cpS a b ((min a.1 b.1).toNat+1):=rfl
 clear hk h
 obtain ⟨C,hC⟩:∃C,cpS a b=C:=⟨_,rfl⟩
 obtain ⟨U,hU⟩:∃U,cpRow a b=U:=⟨_,rfl⟩
 obtain ⟨M,hMe⟩:∃M,cpM a b=M:=⟨_,rfl⟩
 have hC0:C 0=[]:=by rw [←hC];rfl
 have hU0:∀q,U q 0=[]:=fun q=>by rw [←hU];rfl
 rw [hC] at HLI HSU HMO hZZ
 rw [hU] at HSU HMO
 rw [hMe] at hM HIN HLI HSU hMM
 rw [hZZ]
 have HC0:=Lib.hid hC0
 have HU0:=Lib.hid hU0
 clear hC hU hMe hC0 hU0 hZZ
 obtain ⟨a1,a2⟩:=a
 obtain ⟨b1,b2⟩:=b
 simp only at ha hb h1 h2 HVA HVB HIN HMO hMM ⊢
 obtain ⟨N,hN⟩:∃N,(min a1 b1).toNat+1=N:=⟨_,rfl⟩
 rw [hN]
 have HABS1:=Lib.hid (fun W=>l1Abs_any (a1-b1) W (by omega) (by omega))
 have HABS2:=Lib.hid (fun W=>l1Abs_any (a2-b2) W (by omega) (by omega))
 obtain ⟨D1,hD1⟩:∃D:Int,((a1-b1).natAbs:Int)=D:=⟨_,rfl⟩
 obtain ⟨D2,hD2⟩:∃D:Int,((a2-b2).natAbs:Int)=D:=⟨_,rfl⟩
 rw [hD1] at HABS1
 rw [hD2] at HABS2
 have hN9:N≤9:=by omega
 have hd1:0≤D1∧D1≤8∧a1+b1-D1=2*(N:Int)-2:=by omega
 have hd2:0≤D2∧D2≤8∧a2+b2-D2=(M:Int)-1:=by omega
 have HIN2:Hid (∀q m,q<N→m≤M→q*M+m≤45):=fun q m hq hm=>HIN.out q m (by omega) hm
 have HX0:=Lib.hid (((Blk.new w 39 #[.int .i64 a1,.int .i64 a2]).alloc (.cells #[.int .i64 b1,.int .i64 b2] 39)).alloc (.cells #[] 39))
 have HY0:=Lib.hid ((Blk.new (w.alloc (.cells #[.int .i64 a1,.int .i64 a2] 39)) 39 #[.int .i64 b1,.int .i64 b2]).alloc (.cells #[] 39))
 have HB0:=Lib.hid (bel_alloc (bel_alloc (bel_alloc (Below.refl w.heap.size w) (.cells #[.int .i64 a1,.int .i64 a2] 39)) (.cells #[.int .i64 b1,.int .i64 b2] 39)) (.cells #[] 39))
 have HO0:=Lib.hid (own_empty ((w.alloc (.cells #[.int .i64 a1,.int .i64 a2] 39)).alloc (.cells #[.int .i64 b1,.int .i64 b2] 39)) 39 2)
 rw [World.size_alloc] at HY0
 rw [World.size_alloc,World.size_alloc] at HO0
 clear HIN hMM hN hD1 hD2
 go_enter Tryz.func50,Tryz.ntmps50
 go_wp2_with fail
 refine (HVA.out _).mono ?_
 rintro e w1 ⟨rfl,hb1⟩
 have HB1:=Lib.hid (bel_sub HB0.out hb1)
 have HX1:=Lib.hid (HX0.out.sub hb1)
 have HY1:=Lib.hid (HY0.out.sub hb1)
 have HO1:=Lib.hid (own_below HO0.out hb1)
 clear hb1 HB0 HX0 HY0 HO0 HVA
 obtain ⟨x1,x2,_,_⟩:=blk2 HX1.out
 obtain ⟨y1,y2,_,_⟩:=blk2 HY1.out
 go_wp2_with fail
 refine (HVB.out _).mono ?_
 rintro e w2 ⟨rfl,hb2⟩
 have HB2:=Lib.hid (bel_sub HB1.out hb2)
 have HX2:=Lib.hid (HX1.out.sub hb2)
 have HY2:=Lib.hid (HY1.out.sub hb2)
 have HO2:=Lib.hid (own_below HO1.out hb2)
 clear hb2 HB1 HX1 HY1 HO1 HVB x1 x2 y1 y2
 obtain ⟨x1,x2,_,_⟩:=blk2 HX2.out
 obtain ⟨y1,y2,_,_⟩:=blk2 HY2.out
 have g1:¬(8<a1+b1):=by omega
 have g2:¬(8<a2+b2):=by omega
 have HO20:Hid (w2.ownsRow (w.heap.size+1+1) 39 2 (.slice (some ⟨w.heap.size+1+1,0,none⟩) 0 0) 0 (tcells (C 0))):=by unfold Hid;rw [HC0.out];exact HO2.out
 have HZ0:Hid (0=0*M):=(Nat.zero_mul M).symm
 go_wp2_with fail
 go_loopw [6,7] (fun v i wr=>∃(q n:Nat) (A:Option Addr) (c:Nat),q≤N∧i=.int .i64 (a1+b1-2*(q:Int))∧v=.slice A n c∧n≤45∧Hid (n=q*M)∧Hid (wr.ownsRow (w.heap.size+1+1) 39 2 (.slice A n c) n (tcells (C q)))∧Hid (Blk wr w.heap.size 39 #[.int .i64 a1,.int .i64 a2])∧Hid (Blk wr (w.heap.size+1) 39 #[.int .i64 b1,.int .i64 b2])∧Hid (Below w.heap.size w wr)) (fun _ i _=>(RowKit.intOf i+20).toNat)
 case atStart=>exact ⟨0,0,_,0,Nat.zero_le _,by go_num,rfl,Nat.zero_le _,HZ0.out,HO20.out,HX2.out,HY2.out,HB2.out⟩
 case round =>
  clear HO20 HZ0 HX2 HY2 HB2 HO2 x1 x2 y1 y2 g1 g2
  obtain ⟨q,n,A,c,hq,rfl,rfl,hn45,HN,HW,HX,HY,HB⟩:=hrel
  obtain ⟨x1,x2,_,_⟩:=blk2 HX.out
  obtain ⟨y1,y2,_,_⟩:=blk2 HY.out
  obtain ⟨sp,hsp⟩:∃sp:Int,a1+b1-2*(q:Int)=sp:=⟨_,rfl⟩
  have hsp2:-2≤sp∧sp≤16:=by omega
  rw [hsp]
  by_cases hlt:q<N
  ·have hge:D1≤sp:=by omega
   have HSP:=Lib.hid hsp
   clear hsp
   obtain ⟨wm,rfl⟩:∃wm:World,wm=wr:=⟨_,rfl⟩
   have HW0:Hid (wm.ownsRow (w.heap.size+1+1) 39 2 (.slice A n c) n (tcells (C q++U q 0))):=by unfold Hid;rw [HU0.out,List.append_nil];exact HW.out
   have HN0:Hid (n=q*M+0):=HN.out
   go_wp2_with (go_at_call 78;refine (HABS1.out _).mono ?_;rintro e w' ⟨rfl,rfl⟩)
   go_loopw [6,8] (fun v i wr=>∃(m n:Nat) (A:Option Addr) (c:Nat),m≤M∧i=.int .i64 (a2+b2-(m:Int))∧v=.slice A n c∧n≤45∧Hid (n=q*M+m)∧Hid (wr.ownsRow (w.heap.size+1+1) 39 2 (.slice A n c) n (tcells (C q++U q m)))∧Hid (Blk wr w.heap.size 39 #[.int .i64 a1,.int .i64 a2])∧Hid (Blk wr (w.heap.size+1) 39 #[.int .i64 b1,.int .i64 b2])∧Hid (Below w.heap.size w wr)) (fun _ i _=>(RowKit.intOf i+20).toNat)
   case atStart=>exact ⟨0,n,A,c,Nat.zero_le _,by go_num,rfl,hn45,HN0.out,HW0.out,HX.out,HY.out,HB.out⟩
   case round =>
    clear HW0 HN0 HW HX HY HB x1 x2 y1 y2 hn45 HN
    obtain ⟨m,n,A,c,hm,rfl,rfl,hn45,HN,HW,HX,HY,HB⟩:=hrel
    obtain ⟨x1,x2,_,_⟩:=blk2 HX.out
    obtain ⟨y1,y2,_,_⟩:=blk2 HY.out
    have hxl:=HX.out.lt
    have hyl:=HY.out.lt
    obtain ⟨z,hz⟩:∃z:Int,a2+b2-(m:Int)=z:=⟨_,rfl⟩
    have hz2:-2≤z∧z≤16:=by omega
    rw [hz]
    by_cases hlm:m<M
    ·have hge2:D2≤z:=by omega
     have hin:=HIN2.out q (m+1) hlt hlm
     have hnn:=HN.out
     have hn46:n+1≤45:=by omega
     have HN1:Hid (n+1=q*M+(m+1)):=by unfold Hid;omega
     have HM1:=Lib.hid (HMO.out q m)
     rw [HSP.out,hz] at HM1
     have HZ:=Lib.hid hz
     clear hz hin hnn
     go_wp2_with (first
      | (go_at_call 78;refine (HABS2.out _).mono ?_;rintro e w' ⟨rfl,rfl⟩)
      | (at_builtin;refine wpList_app1b _ rfl (.tmp 65) (.tmp 69) _ rfl (w.heap.size+1+1) 39 2 16 elTerm A c n (tcells (C q++U q m)) rfl (HW.out.alloc _) wr.heap.size #[.int .i64 sp,.int .i64 z] rfl (Blk.new wr _ _) rfl ?h1 (by omega) (by omega) (by simp;omega) ?_))
     case h1=>simp [Value.oneCell']
     intro A5 c5 w5 hown5 hc5 hb5
     have HW5:Hid (w5.ownsRow (w.heap.size+1+1) 39 2 (.slice A5 (n+1) c5) (n+1) (tcells (C q++U q (m+1)))):=by unfold Hid;rw [HM1.out,tcells_snoc];exact hown5
     have HX5:Hid (Blk w5 w.heap.size 39 #[.int .i64 a1,.int .i64 a2]):=(HX.out.alloc _).below hb5 (by omega)
     have HY5:Hid (Blk w5 (w.heap.size+1) 39 #[.int .i64 b1,.int .i64 b2]):=(HY.out.alloc _).below hb5 (by omega)
     have HB5:Hid (Below w.heap.size w w5):=(bel_alloc HB.out _).trans (hb5.mono (by omega))
     clear hown5 hb5 HW HX HY HB HM1 x1 x2 y1 y2
     go_wp2_with fail
     go_roundw
     case rel=>exact ⟨m+1,n+1,A5,c5,by omega,by rw [show a2+b2-((m+1:Nat):Int)=z-1 by have:=HZ.out;omega],rfl,hn46,HN1.out,HW5.out,HX5.out,HY5.out,HB5.out⟩
     case measure=>simp [RowKit.intOf];omega
    ·have hme:m=M:=by omega
     have hge2:¬D2≤z:=by omega
     have HW6:Hid (wr.ownsRow (w.heap.size+1+1) 39 2 (.slice A n c) n (tcells (C (q+1)))):=by unfold Hid;rw [HSU.out,←hme];exact HW.out
     have HN6:Hid (n=(q+1)*M):=by unfold Hid;rw [HN.out,Nat.succ_mul,hme]
     clear HW hme hz
     go_wp2_with (go_at_call 78;refine (HABS2.out _).mono ?_;rintro e w' ⟨rfl,rfl⟩)
     go_roundw
     case rel=>exact ⟨q+1,n,A,c,by omega,by rw [show a1+b1-2*((q+1:Nat):Int)=sp-2 by have:=HSP.out;omega],rfl,hn45,HN6.out,HW6.out,HX.out,HY.out,HB.out⟩
     case measure=>simp [RowKit.intOf];omega
  ·have hqe:q=N:=by omega
   have hge:¬D1≤sp:=by omega
   have HLQ:Hid ((C N).length=n):=by unfold Hid;rw [←hqe,HLI.out,HN.out]
   have HRR:Hid (Reads wr wr.heap.size 2 A n (tcells (C N))):=by unfold Hid;rw [←hqe];exact own_reads HW.out
   clear hsp hqe
   go_wp2_with (go_at_call 78;refine (HABS1.out _).mono ?_;rintro e w' ⟨rfl,rfl⟩)
   go_ret2
   exact ⟨⟨A,c,by rw [HLQ.out];rfl,by rw [HLQ.out];exact HRR.out⟩,HB.out⟩
end
section
open Go.RowKit
attribute [local go_sem ↓] Go.wp_at_zero Go.wp_at_succ
theorem specCouple_no (a b:T2) (w:World) (h:cpOk a b=false) :
 Calls Tryz.prog 50 #[.agg #[.int .i64 a.1,.int .i64 a.2],.agg #[.int .i64 b.1,.int .i64 b.2]] w fun e w' =>
  e=.returned (.tuple #[.slice (some ⟨w.heap.size+1+1,0,none⟩) 0 0,.bool false])∧Below w.heap.size w w':=by
 have h':¬(tvB a=true∧tvB b=true∧a.1+b.1≤8∧a.2+b.2≤8):=by rw [←cpOk_iff,h];simp
 clear h
 have HVA:=Lib.hid (fun W=>specTermValid_any a W)
 have HVB:=Lib.hid (fun W=>specTermValid_any b W)
 obtain ⟨a1,a2⟩:=a
 obtain ⟨b1,b2⟩:=b
 simp only at HVA HVB h'
 have HX0:=Lib.hid (((Blk.new w 39 #[.int .i64 a1,.int .i64 a2]).alloc (.cells #[.int .i64 b1,.int .i64 b2] 39)).alloc (.cells #[] 39))
 have HY0:=Lib.hid ((Blk.new (w.alloc (.cells #[.int .i64 a1,.int .i64 a2] 39)) 39 #[.int .i64 b1,.int .i64 b2]).alloc (.cells #[] 39))
 have HB0:=Lib.hid (bel_alloc (bel_alloc (bel_alloc (Below.refl w.heap.size w) (.cells #[.int .i64 a1,.int .i64 a2] 39)) (.cells #[.int .i64 b1,.int .i64 b2] 39)) (.cells #[] 39))
 rw [World.size_alloc] at HY0
 cases hva:tvB (a1,a2)
 ·rw [hva] at HVA
  clear h' hva
  go_enter Tryz.func50,Tryz.ntmps50
  go_wp2_with fail
  refine (HVA.out _).mono ?_
  rintro e w1 ⟨rfl,hb1⟩
  have HB1:=Lib.hid (bel_sub HB0.out hb1);clear hb1
  go_wp2_with fail
  go_ret2
  exact ⟨rfl,HB1.out⟩
 rw [hva] at HVA
 have ha:=tvB_iff.1 hva
 cases hvb:tvB (b1,b2)
 ·rw [hvb] at HVB
  clear h' hva hvb ha
  go_enter Tryz.func50,Tryz.ntmps50
  go_wp2_with fail
  refine (HVA.out _).mono ?_
  rintro e w1 ⟨rfl,hb1⟩
  have HB1:=Lib.hid (bel_sub HB0.out hb1)
  have HY1:=Lib.hid (HY0.out.sub hb1);clear hb1
  obtain ⟨y1,y2,_,_⟩:=blk2 HY1.out
  go_wp2_with fail
  refine (HVB.out _).mono ?_
  rintro e w2 ⟨rfl,hb2⟩
  have HB2:=Lib.hid (bel_sub HB1.out hb2);clear hb2
  go_wp2_with fail
  go_ret2
  exact ⟨rfl,HB2.out⟩
 rw [hvb] at HVB
 have hb:=tvB_iff.1 hvb
 have h2:¬(a1+b1≤8∧a2+b2≤8):=fun h=>h' ⟨hva,hvb,h⟩
 simp only at ha hb
 clear h' hva hvb
 by_cases h1:a1+b1≤8
 ·have g1:¬(8<a1+b1):=by omega
  have g2:8<a2+b2:=by omega
  clear h2 h1
  go_enter Tryz.func50,Tryz.ntmps50
  go_wp2_with fail
  refine (HVA.out _).mono ?_
  rintro e w1 ⟨rfl,hb1⟩
  have HB1:=Lib.hid (bel_sub HB0.out hb1)
  have HX1:=Lib.hid (HX0.out.sub hb1)
  have HY1:=Lib.hid (HY0.out.sub hb1);clear hb1
  obtain ⟨y1,y2,_,_⟩:=blk2 HY1.out
  go_wp2_with fail
  refine (HVB.out _).mono ?_
  rintro e w2 ⟨rfl,hb2⟩
  have HB2:=Lib.hid (bel_sub HB1.out hb2)
  obtain ⟨x1,x2,_,_⟩:=blk2 (HX1.out.sub hb2)
  clear y1 y2
  obtain ⟨y1,y2,_,_⟩:=blk2 (HY1.out.sub hb2)
  clear hb2
  go_wp2_with fail
  go_ret2
  exact ⟨rfl,HB2.out⟩
 ·have g1:8<a1+b1:=by omega
  clear h2 h1
  go_enter Tryz.func50,Tryz.ntmps50
  go_wp2_with fail
  refine (HVA.out _).mono ?_
  rintro e w1 ⟨rfl,hb1⟩
  have HB1:=Lib.hid (bel_sub HB0.out hb1)
  have HX1:=Lib.hid (HX0.out.sub hb1)
  have HY1:=Lib.hid (HY0.out.sub hb1);clear hb1
  obtain ⟨y1,y2,_,_⟩:=blk2 HY1.out
  go_wp2_with fail
  refine (HVB.out _).mono ?_
  rintro e w2 ⟨rfl,hb2⟩
  have HB2:=Lib.hid (bel_sub HB1.out hb2)
  obtain ⟨x1,x2,_,_⟩:=blk2 (HX1.out.sub hb2)
  clear y1 y2
  obtain ⟨y1,y2,_,_⟩:=blk2 (HY1.out.sub hb2)
  clear hb2
  go_wp2_with fail
  go_ret2
  exact ⟨rfl,HB2.out⟩
theorem specCouple_any (a b:T2) (w:World) :
 Calls Tryz.prog 50 #[.agg #[.int .i64 a.1,.int .i64 a.2],.agg #[.int .i64 b.1,.int .i64 b.2]] w (CplPost a b w):=by
 unfold CplPost cpR
 cases h:cpOk a b
 ·refine (specCouple_no a b w h).mono fun e w' ⟨he,hb⟩=>⟨⟨_,0,he,Reads.none_⟩,hb⟩
 ·exact specCouple_yes a b w h
theorem specTermsJoin_any (A1 A2:Option Addr) (n1 c1 n2 c2:Nat) (ts us:List T2) (w:World) (hn1:n1≤100000) (hn2:n2≤100000) (hl1:ts.length=n1) (hl2:us.length=n2) (hr1:Reads w w.heap.size 2 A1 n1 (tcells ts)) (hr2:Reads w w.heap.size 2 A2 n2 (tcells us)) :
 Calls Tryz.prog 21 #[.slice A1 n1 c1,.slice A2 n2 c2] w (JnPost (joinT ts us) w):=by
 have HR1:=Lib.hid hr1
 have HR2:=Lib.hid hr2
 have HL1:=Lib.hid hl1
 have HL2:=Lib.hid hl2
 have HV1:=Lib.hid (fun W (hB:Below w.heap.size w W)=>l14Valid_any A1 n1 c1 ts W hn1 hl1 ((hr1.below hB).more hB.size))
 have HV2:=Lib.hid (fun W (hB:Below w.heap.size w W)=>l14Valid_any A2 n2 c2 us W hn2 hl2 ((hr2.below hB).more hB.size))
 have HCP:=Lib.hid (fun a b W=>specCouple_any a b W)
 have HOR:=Lib.hid (fun A n c ts W hn hl hr=>l14Sort_any A n c ts W hn hl hr)
 have HB0:=Lib.hid (bel_alloc (Below.refl w.heap.size w) (.cells #[] 39))
 have HO0:=Lib.hid (own_empty w 39 2)
 unfold CplPost at HCP
 unfold SortPost at HOR
 unfold JnPost
 cases v1:vldT ts
 ·have hj:joinT ts us=([],false):=joinT_no (by rw [v1];simp)
  rw [hj]
  rw [v1] at HV1
  clear hj v1 hr1 hr2 hl1 hl2
  go_enter Tryz.func21,Tryz.ntmps21
  go_wp2_with fail
  refine (HV1.out _ HB0.out).mono ?_
  rintro e w1 ⟨rfl,hb1⟩
  have HB1:=Lib.hid (bel_sub HB0.out hb1);clear hb1
  go_wp2_with fail
  go_ret2
  exact ⟨⟨_,0,rfl,Reads.none_⟩,HB1.out⟩
 cases v2:vldT us
 ·have hj:joinT ts us=([],false):=joinT_no (by rw [v2];simp)
  rw [hj]
  rw [v1] at HV1
  rw [v2] at HV2
  clear hj v1 v2 hr1 hr2 hl1 hl2
  go_enter Tryz.func21,Tryz.ntmps21
  go_wp2_with fail
  refine (HV1.out _ HB0.out).mono ?_
  rintro e w1 ⟨rfl,hb1⟩
  have HB1:=Lib.hid (bel_sub HB0.out hb1);clear hb1
  go_wp2_with fail
  refine (HV2.out _ HB1.out).mono ?_
  rintro e w2 ⟨rfl,hb2⟩
  have HB2:=Lib.hid (bel_sub HB1.out hb2);clear hb2
  go_wp2_with fail
  go_ret2
  exact ⟨⟨_,0,rfl,Reads.none_⟩,HB2.out⟩
 have hj:=joinT_at v1 v2
 obtain ⟨R,hR⟩:∃R,joinT ts us=R:=⟨_,rfl⟩
 rw [hR] at hj ⊢
 rw [v1] at HV1
 rw [v2] at HV2
 have HJ:Hid (jGo (jPairs (ts.drop 0) us) []=R):=hj.symm
 have hs1:n1≤400:=by rw [←hl1];exact (vldT_iff.1 v1).1
 have hs2:n2≤400:=by rw [←hl2];exact (vldT_iff.1 v2).1
 clear hj hR v1 v2 hr1 hr2 hl1 hl2 hn1 hn2
 go_enter Tryz.func21,Tryz.ntmps21
 go_wp2_with fail
 refine (HV1.out _ HB0.out).mono ?_
 rintro e w1 ⟨rfl,hb1⟩
 have HB1:=Lib.hid (bel_sub HB0.out hb1)
 have HO1:=Lib.hid (own_below HO0.out hb1);clear hb1
 go_wp2_with fail
 refine (HV2.out _ HB1.out).mono ?_
 rintro e w2 ⟨rfl,hb2⟩
 have HB2:=Lib.hid (bel_sub HB1.out hb2)
 have HO2:=Lib.hid (own_below HO1.out hb2);clear hb2
 clear HB1 HB0 HV1 HV2 HO0 HO1
 go_wp2_with fail
 go_loopw [6,7] (fun v i wr=>∃(k n:Nat) (A:Option Addr) (c:Nat) (acc:List T2),k≤n1∧i=.int .i64 (k:Int)∧v=.slice A n c∧n≤400∧Hid (acc.length=n)∧Hid (jGo (jPairs (ts.drop k) us) acc=R)∧Hid (wr.ownsRow w.heap.size 39 2 (.slice A n c) n (tcells acc))∧Hid (Below w.heap.size w wr)) (fun _ i _=>n1-(RowKit.intOf i).toNat)
 case atStart=>exact ⟨0,0,_,0,[],Nat.zero_le _,rfl,rfl,Nat.zero_le _,rfl,HJ.out,HO2.out,HB2.out⟩
 case round =>
  clear HJ HO2 HB2
  obtain ⟨k,n,A,c,acc,hk,rfl,rfl,hn4,HN,HG,HW,HB⟩:=hrel
  by_cases hlt:k<n1
  ·have HG0:Hid (jGo (jRem ts us k 0) acc=R):=by unfold Hid;rw [←jRem_start (by rw [HL1.out];exact hlt)];exact HG.out
   obtain ⟨wm,rfl⟩:∃wm:World,wm=wr:=⟨_,rfl⟩
   have i1:(k:Int)<(n1:Int):=by omega
   have i0:(0:Int)≤(k:Int):=by omega
   clear HG
   go_wp2_with fail
   go_loopw [6,8] (fun v i wr=>∃(m n:Nat) (A:Option Addr) (c:Nat) (acc:List T2),m≤n2∧i=.int .i64 (m:Int)∧v=.slice A n c∧n≤400∧Hid (acc.length=n)∧Hid (jGo (jRem ts us k m) acc=R)∧Hid (wr.ownsRow w.heap.size 39 2 (.slice A n c) n (tcells acc))∧Hid (Below w.heap.size w wr)) (fun _ i _=>n2-(RowKit.intOf i).toNat)
   case atStart=>exact ⟨0,n,A,c,acc,Nat.zero_le _,rfl,rfl,hn4,HN.out,HG0.out,HW.out,HB.out⟩
   case round =>
    clear HG0 HW HN hn4 HB
    obtain ⟨m,n,A,c,acc,hm,rfl,rfl,hn4,HN,HG,HW,HB⟩:=hrel
    by_cases hlm:m<n2
    ·obtain ⟨g,off,x,y,rfl,hg,r1,r2,H3,_⟩:=(HR1.out.below HB.out).term hlt
     obtain ⟨g2,off2,x',y',rfl,hg2,q1,q2,H5,_⟩:=(HR2.out.below HB.out).term hlm
     have HGK:Hid (gT ts k=(x,y)):=by unfold Hid gT;rw [H3.out];rfl
     have HGM:Hid (gT us m=(x',y')):=by unfold Hid gT;rw [H5.out];rfl
     have HST:Hid (jGo (((x,y),(x',y')) :: jRem ts us k (m+1)) acc=R):=by
      unfold Hid
      rw [←HGK.out,←HGM.out,←jRem_step (by rw [HL2.out];exact hlm)]
      exact HG.out
     have HC:=Lib.hid (fun W=>HCP.out (x,y) (x',y') W)
     simp only at HC
     have hL:=cpR_len (x,y) (x',y')
     have HPS:Hid (cpOk (x,y) (x',y')=true→cpR (x,y) (x',y')=cplT (x,y) (x',y')):=fun h=>by unfold cpR;rw [if_pos h]
     obtain ⟨ps,hps⟩:∃ps,cpR (x,y) (x',y')=ps:=⟨_,rfl⟩
     rw [hps] at HC hL HPS
     obtain ⟨L,hLe⟩:∃L,ps.length=L:=⟨_,rfl⟩
     rw [hLe] at HC hL
     have HLE:=Lib.hid hLe
     have j1:(m:Int)<(n2:Int):=by omega
     have j0:(0:Int)≤(m:Int):=by omega
     clear hps hLe H3 H5 HG HGK HGM
     cases hok:cpOk (x,y) (x',y')
     ·have HRE:Hid (R=([],false)):=by unfold Hid;rw [←HST.out,jGo_bad (by rw [hok];simp)]
      rw [hok] at HC
      clear hok HST HPS
      go_wp2_with fail
      go_region_held3 (fun w'=>w'.cell? ⟨g,off+k*2,none⟩=some (.int .i64 x)∧w'.cell? ⟨g,off+k*2+1,none⟩=some (.int .i64 y)∧w'.cell? ⟨g2,off2+m*2,none⟩=some (.int .i64 x')∧w'.cell? ⟨g2,off2+m*2+1,none⟩=some (.int .i64 y'))
       (first | exact ⟨r1,r2,q1,q2⟩ | exact ⟨cell_sub hb5 r1,cell_sub hb5 r2,cell_sub hb5 q1,cell_sub hb5 q2⟩)
       (first | (go_at_call 50;refine (HC.out _).mono ?_;rintro e w5 ⟨⟨A5,c5,rfl,hr5⟩,hb5⟩))
      have HBd:=Lib.hid HB.out.drew
      have HWd:Hid (wr.drew.ownsRow w.heap.size 39 2 (.slice A n c) n (tcells acc)):=HW.out
      have HB5:=Lib.hid (bel_alloc (bel_sub HBd.out hb5) (.cells #[] 39))
      clear hr5 hb5 HWd HBd
      go_wp2_with fail
      go_ret2
      exact ⟨⟨_,0,by rw [HRE.out];rfl,by rw [HRE.out];exact Reads.none_⟩,HB5.out⟩
     rw [hok] at HC
     have hpe:=HPS.out hok
     by_cases hfit:n+L≤400
     ·have HG2:Hid (jGo (jRem ts us k (m+1)) (acc++ps)=R):=by
       unfold Hid
       rw [←HST.out,jGo_ok hok (by simp only;rw [←hpe,HN.out,HLE.out];exact hfit),hpe]
      have HN2:Hid ((acc++ps).length=n+L):=by unfold Hid;rw [List.length_append,HN.out,HLE.out]
      have z1:¬((400:Int)<(n:Int)+(L:Int)):=by omega
      clear hok hpe HPS HST
      go_wp2_with fail
      go_region_held3 (fun w'=>w'.cell? ⟨g,off+k*2,none⟩=some (.int .i64 x)∧w'.cell? ⟨g,off+k*2+1,none⟩=some (.int .i64 y)∧w'.cell? ⟨g2,off2+m*2,none⟩=some (.int .i64 x')∧w'.cell? ⟨g2,off2+m*2+1,none⟩=some (.int .i64 y'))
       (first | exact ⟨r1,r2,q1,q2⟩ | exact ⟨cell_sub hb5 r1,cell_sub hb5 r2,cell_sub hb5 q1,cell_sub hb5 q2⟩)
       (first | (go_at_call 50;refine (HC.out _).mono ?_;rintro e w5 ⟨⟨A5,c5,rfl,hr5⟩,hb5⟩))
      have HBd:=Lib.hid HB.out.drew
      have HWd:Hid (wr.drew.ownsRow w.heap.size 39 2 (.slice A n c) n (tcells acc)):=HW.out
      have HB5:=Lib.hid (bel_sub HBd.out hb5)
      have HW5:=Lib.hid (own_below HWd.out hb5)
      have HR5:=Lib.hid hr5
      have hs5:=HB5.out.size
      clear hr5 hb5 HWd HBd
      go_wp2_with (at_builtin;refine wpList_appR _ rfl (.tmp 56) (.tmp 57) _ rfl w.heap.size 39 2 16 elTerm A c n (tcells acc) rfl HW5.out w5.heap.size A5 L c5 (tcells ps) rfl HR5.out (tcells_one ps) (n+L) rfl (by omega) (by omega) hs5 ?_)
      intro A6 c6 w6 hown6 hc6 hb6 _
      have HW6:Hid (w6.ownsRow w.heap.size 39 2 (.slice A6 (n+L) c6) (n+L) (tcells (acc++ps))):=by unfold Hid;rw [tcells_app];exact hown6
      have HB6:=Lib.hid (HB5.out.trans hb6)
      clear hown6 hb6 HW5 HR5 HB5
      go_wp2_with fail
      go_roundw
      case rel=>exact ⟨m+1,n+L,A6,c6,acc++ps,by omega,by go_num,rfl,hfit,HN2.out,HG2.out,HW6.out,HB6.out⟩
      case measure=>simp [RowKit.intOf];omega
     ·have HRE:Hid (R=([],false)):=by
       unfold Hid
       rw [←HST.out,jGo_bad (fun h=>hfit (by have h2:=h.2;simp only at h2;rw [←hpe,HN.out,HLE.out] at h2;exact h2))]
      have z1:(400:Int)<(n:Int)+(L:Int):=by omega
      clear hok hpe HPS HST
      go_wp2_with fail
      go_region_held3 (fun w'=>w'.cell? ⟨g,off+k*2,none⟩=some (.int .i64 x)∧w'.cell? ⟨g,off+k*2+1,none⟩=some (.int .i64 y)∧w'.cell? ⟨g2,off2+m*2,none⟩=some (.int .i64 x')∧w'.cell? ⟨g2,off2+m*2+1,none⟩=some (.int .i64 y'))
       (first | exact ⟨r1,r2,q1,q2⟩ | exact ⟨cell_sub hb5 r1,cell_sub hb5 r2,cell_sub hb5 q1,cell_sub hb5 q2⟩)
       (first | (go_at_call 50;refine (HC.out _).mono ?_;rintro e w5 ⟨⟨A5,c5,rfl,hr5⟩,hb5⟩))
      have HBd:=Lib.hid HB.out.drew
      have HWd:Hid (wr.drew.ownsRow w.heap.size 39 2 (.slice A n c) n (tcells acc)):=HW.out
      have HB5:=Lib.hid (bel_alloc (bel_sub HBd.out hb5) (.cells #[] 39))
      clear hr5 hb5 HWd HBd
      go_wp2_with fail
      go_ret2
      exact ⟨⟨_,0,by rw [HRE.out];rfl,by rw [HRE.out];exact Reads.none_⟩,HB5.out⟩
    ·have HG2:Hid (jGo (jPairs (ts.drop (k+1)) us) acc=R):=by
      unfold Hid
      rw [←jRem_end (m:=m) (by rw [HL2.out];omega)]
      exact HG.out
     clear HG
     go_wp2_with fail
     go_roundw
     case rel=>exact ⟨k+1,n,A,c,acc,by omega,by go_num,rfl,hn4,HN.out,HG2.out,HW.out,HB.out⟩
     case measure=>simp [RowKit.intOf];omega
  ·have HRE:Hid (R=(srtT acc,true)):=by
    unfold Hid
    rw [←HG.out,jPairs_end (by rw [HL1.out];omega),jGo_nil]
   have HOQ:=Lib.hid (HOR.out A n c acc wr (by omega) HN.out (own_reads HW.out))
   have HLS:Hid ((srtT acc).length=n):=by unfold Hid;rw [srtT_len,HN.out]
   clear HG HW
   go_wp2_with fail
   refine HOQ.out.mono ?_
   rintro e w7 ⟨A7,c7,rfl,hr7,hb7⟩
   have HR7:=Lib.hid hr7
   have HB7:=Lib.hid (bel_sub HB.out hb7)
   clear hr7 hb7 HOQ HB
   go_wp2_with fail
   go_ret2
   exact ⟨⟨A7,c7,by rw [HRE.out,←HLS.out];rfl,by rw [HRE.out];simp only;rw [HLS.out];exact HR7.out⟩,HB7.out⟩
end
section
open Go.RowKit
attribute [local go_sem ↓] Go.wp_at_zero Go.wp_at_succ
theorem specTermsConfig_any (A:Option Addr) (n c:Nat) (ss:List S3) (w:World) (hn:n≤1000) (hl:ss.length=n) (hs:∀s∈ss,Sm s) (hr:Reads w w.heap.size 3 A n (scellsS ss)) :
 Calls Tryz.prog 7 #[.slice A n c] w (TCPost ss w):=by
 have HV:=Lib.hid (specConfigValid_any A n c ss w (by omega) hl hs hr)
 have HR:=Lib.hid hr
 have HOP:=Lib.hid (fun W (hB:Below w.heap.size w W)=>specConfigOpen_any A n c ss W hn hl hs ((hr.below hB).more hB.size))
 unfold TCPost
 cases hv:cvB ss
 ·have hj:tcF ss=([],false):=by unfold tcF;rw [hv];rfl
  rw [hj]
  rw [hv] at HV
  clear hj hv hr hl hs
  go_enter Tryz.func7,Tryz.ntmps7
  go_wp2_with fail
  refine HV.out.mono ?_
  rintro e w1 ⟨rfl,hb1⟩
  have HB1:=Lib.hid (bel_alloc hb1 (.cells #[] 39));clear hb1
  go_wp2_with fail
  go_ret2
  exact ⟨⟨_,0,rfl,Reads.none_⟩,HB1.out⟩
 have hj:tcGo ((opS ss).drop 0) [(0,0)]=tcF ss:=by unfold tcF;rw [hv,if_pos rfl,List.drop_zero]
 rw [hv] at HV
 have hol:=opS_len ss
 rw [hl] at hol
 obtain ⟨R,hR⟩:∃R,tcF ss=R:=⟨_,rfl⟩
 rw [hR] at hj ⊢
 have HJ:=Lib.hid hj
 have HSTP:=Lib.hid (fun k acc (h:k<(opS ss).length)=>tcGo_step (cs:=ss) (k:=k) acc h)
 have HEND:=Lib.hid (fun k acc (h:(opS ss).length≤k)=>tcGo_end (cs:=ss) (k:=k) acc h)
 have HMEM:Hid (∀k,k<(opS ss).length→∃n l c:Nat,gS (opS ss) k=((n:Int),(l:Int),(c:Int))∧l≤3∧1≤c∧c≤4*l+2):=fun k hk=>opS_mem (by rw [gS_lt hk];exact List.getElem_mem hk)
 unfold OpSPost at HOP
 obtain ⟨os,hos⟩:∃os,opS ss=os:=⟨_,rfl⟩
 rw [hos] at HOP HJ HSTP HEND HMEM hol
 obtain ⟨m,hm⟩:∃m,os.length=m:=⟨_,rfl⟩
 rw [hm] at HOP HSTP HEND HMEM hol
 have HM:=Lib.hid hm
 clear hj hv hr hl hs hos hm hR
 go_enter Tryz.func7,Tryz.ntmps7
 go_wp2_with fail
 refine HV.out.mono ?_
 rintro e w1 ⟨rfl,hb1⟩
 have HB1:=Lib.hid hb1
 clear hb1 HV
 go_wp2_with fail
 refine (HOP.out _ HB1.out).mono ?_
 rintro e w2 ⟨⟨A3,c3,rfl,ho3⟩,hb3⟩
 have HB2:=Lib.hid (bel_alloc (bel_sub HB1.out hb3) (.cells #[.int .i64 0,.int .i64 0] 39))
 have HX2:=Lib.hid (Blk.new w2 39 #[.int .i64 0,.int .i64 0])
 have HR2:=Lib.hid (own_reads (ho3.alloc (.cells #[.int .i64 0,.int .i64 0] 39)))
 have HRL:=Lib.hid (reads_one HX2.out)
 clear hb3 ho3 HB1 HOP HX2
 go_wp2_with fail
 obtain ⟨w3,hw3⟩:∃w3,w2.alloc (.cells #[.int .i64 0,.int .i64 0] 39)=w3:=⟨_,rfl⟩
 obtain ⟨T0,hT0⟩:∃T0,w2.heap.size=T0:=⟨_,rfl⟩
 rw [hw3] at HB2 HR2 HRL ⊢
 rw [hT0] at HRL ⊢
 clear hw3 hT0
 go_loopw [5,6] (fun v i wr=>∃(k n:Nat) (A:Option Addr) (c:Nat) (acc:List T2),k≤m∧i=.int .i64 (k:Int)∧v=.slice A n c∧n≤400∧Hid (acc.length=n)∧Hid (tcGo (os.drop k) acc=R)∧Hid (Reads wr wr.heap.size 2 A n (tcells acc))∧Hid (Below w3.heap.size w3 wr)) (fun _ i _=>m-(RowKit.intOf i).toNat)
 case atStart=>exact ⟨0,1,_,_,[(0,0)],Nat.zero_le _,rfl,rfl,by omega,rfl,HJ.out,HRL.out,Below.refl _ _⟩
 case round =>
  clear HJ HRL
  obtain ⟨k,n',A',c',acc,hk,rfl,rfl,hn4,HN,HG,HRA,HB⟩:=hrel
  by_cases hlt:k<m
  ·obtain ⟨g,off,rfl,hg,hc⟩:=(HR2.out.below HB.out).shl hlt
   obtain ⟨r1,r2,r3⟩:=hc k hlt
   have hst:=HSTP.out k acc hlt
   rw [HG.out] at hst
   obtain ⟨x1,x2,x3,hx,hl3,hc1,hc2⟩:=HMEM.out k hlt
   rw [hx] at hst r1 r2 r3
   unfold tmsOf at hst
   simp only [Int.toNat_natCast] at hst r1 r2 r3
   have i1:(k:Int)<(m:Int):=by omega
   have i0:(0:Int)≤(k:Int):=by omega
   clear hc hx HG
   by_cases h2:x2≤2
   ·have i2:¬((2:Int)<(x2:Int)):=by omega
    rw [if_neg i2] at hst
    have HTM:=Lib.hid (fun W=>Mi.specTermsOf_any x2 x3 h2 hc2 W)
    unfold Mi.TlPost at HTM
    have htl:=(Mi.trms_pos ⟨x2,by omega⟩ ⟨x3,by omega⟩ hc2).2.1
    simp only at htl
    obtain ⟨us,hus⟩:∃us,Mi.trms x2 x3=us:=⟨_,rfl⟩
    rw [hus] at HTM hst htl
    have HJN:=Lib.hid (fun A1 A2 n1 c1 n2 c2 W h1 h2 h3 h4 h5 h6=>specTermsJoin_any A1 A2 n1 c1 n2 c2 acc us W h1 h2 h3 h4 h5 h6)
    unfold JnPost at HJN
    have hjl:=joinT_len acc us
    obtain ⟨⟨rs,fine⟩,hj⟩:∃r,joinT acc us=r:=⟨_,rfl⟩
    rw [hj] at HJN hst hjl
    simp only at HJN hst hjl
    obtain ⟨rl,hrl⟩:∃rl,rs.length=rl:=⟨_,rfl⟩
    rw [hrl] at HJN hjl
    have HRLn:=Lib.hid hrl
    have HST:=Lib.hid hst
    have HUL:Hid (us.length≤40):=htl
    have HRD:Hid (Reads wr.drew wr.drew.heap.size 2 A' n' (tcells acc)):=HRA.out
    clear hst hj hus hrl htl r1
    go_wp2_with fail
    go_region_held3 (fun w'=>w'.cell? ⟨g,off+k*3+1,none⟩=some (.int .i64 (x2:Int))∧w'.cell? ⟨g,off+k*3+2,none⟩=some (.int .i64 (x3:Int)))
     (first | exact ⟨r2,r3⟩ | exact ⟨cell_sub hb5 r2,cell_sub hb5 r3⟩ | exact ⟨cell_sub hb6 (cell_sub hb5 r2),cell_sub hb6 (cell_sub hb5 r3)⟩)
     (first | (go_at_call 22;refine (HTM.out _).mono ?_;rintro e w5 ⟨A5,c5,m5,rfl,_,hm5,hr5,hb5⟩) | (go_at_call 21;refine (HJN.out A' A5 n' c' m5 c5 _ (by omega) (by have:=HUL.out;omega) HN.out hm5 ((HRD.out.below hb5).more hb5.size) hr5).mono ?_;rintro e w6 ⟨⟨A6,c6,rfl,hr6⟩,hb6⟩))
    have HB6:=Lib.hid ((HB.out.drew.trans (hb5.mono HB.out.size)).trans (hb6.mono (Nat.le_trans HB.out.size hb5.size)))
    have HR6:=Lib.hid hr6
    clear hb6 hr6 hb5 hr5 hm5 HRA HRD HB HJN HTM r2 r3
    cases fine
    ·have HRE:Hid (R=([],false)):=HST.out
     have HBB:=Lib.hid (bel_alloc (bel_sub HB2.out HB6.out) (.cells #[] 39))
     go_wp2_with fail
     go_ret2
     exact ⟨⟨_,0,by rw [HRE.out];rfl,by rw [HRE.out];exact Reads.none_⟩,HBB.out⟩
    ·have HG2:Hid (tcGo (os.drop (k+1)) rs=R):=HST.out.symm
     go_wp2_with fail
     go_roundw
     case rel=>exact ⟨k+1,rl,A6,c6,rs,by omega,by go_num,rfl,hjl,HRLn.out,HG2.out,HR6.out,HB6.out⟩
     case measure=>simp [RowKit.intOf];omega
   ·have i2:(2:Int)<(x2:Int):=by omega
    rw [if_pos i2] at hst
    have HRE:Hid (R=([],false)):=hst
    have HBB:=Lib.hid (bel_alloc (bel_sub HB2.out HB.out) (.cells #[] 39))
    clear hst
    go_wp2_with fail
    go_ret2
    exact ⟨⟨_,0,by rw [HRE.out];rfl,by rw [HRE.out];exact Reads.none_⟩,HBB.out⟩
  ·have HRE:Hid (R=(acc,true)):=by
    unfold Hid
    rw [←HG.out,HEND.out k acc (by omega)]
   have HBB:=Lib.hid (bel_sub HB2.out HB.out)
   clear HG HB
   go_wp2_with fail
   go_ret2
   exact ⟨⟨A',c',by rw [HRE.out,←HN.out];rfl,by rw [HRE.out];simp only;rw [HN.out];exact HRA.out⟩,HBB.out⟩
end
section
open Go.RowKit
attribute [local go_sem ↓] Go.wp_at_zero Go.wp_at_succ
theorem sameTerms_any (A A':Option Addr) (n c c':Nat) (ts:List T2) (w:World) (hn:n≤1048576) (hr:Reads w w.heap.size 2 A n (tcells ts)) (hr':Reads w w.heap.size 2 A' n (tcells ts)) :
 Calls Tryz.prog 8 #[.slice A n c,.slice A' n c'] w fun e w'=>e=.returned (.bool true)∧Below w.heap.size w w':=by
 have HR:=Lib.hid hr;clear hr
 have HR':=Lib.hid hr';clear hr'
 have hB0:=Below.refl w.heap.size w
 go_enter Tryz.func8,Tryz.ntmps8
 go_wp2_with fail
 go_loopw [5] (fun i wr=>∃(k:Nat),k≤n∧i=.int .i64 k∧Hid (Below w.heap.size w wr)) (fun i _=>n-(RowKit.intOf i).toNat)
 case atStart=>exact ⟨0,Nat.zero_le _,rfl,hB0⟩
 case round =>
  clear hB0
  obtain ⟨k,hk,rfl,HB⟩:=hrel
  by_cases hlt:k<n
  ·obtain ⟨b,off,x,y,rfl,hb,r1,r2,hg,_⟩:=(HR.out.below HB.out).term hlt
   obtain ⟨b',off',x',y',rfl,hb',q1,q2,hg',_⟩:=(HR'.out.below HB.out).term hlt
   have e:=hg.out.symm.trans hg'.out
   injection e with e
   injection e with e1 e2
   subst e1 e2
   clear hg hg'
   have i1:(k:Int)<(n:Int):=by omega
   have i0:(0:Int)≤(k:Int):=by omega
   go_wp2_with fail
   go_region
   go_wp2_with fail
   go_roundw
   case rel=>exact ⟨k+1,by omega,by go_num,bel_drew HB.out⟩
   case measure=>simp [RowKit.intOf];omega
  ·obtain rfl:k=n:=by omega
   go_wp2_with fail
   go_ret
   exact ⟨rfl,HB.out⟩
theorem own_litK {w:World} {L:Nat} {e:TypeId} {n size:Nat} {cs:Array Value} (h:Blk w L e cs) (hn:cs.size=n*size) (hm:n≤1000):w.ownsRow L e size (.slice (some ⟨L,0,none⟩) n n) n cs.toList :=
 ⟨by simp [hn],.inr ⟨L,n,cs,rfl,Nat.le_refl _,h,Nat.le_refl _,by unfold maxLen;omega,hn,by rw [←hn];exact List.take_of_length_le (by simp)⟩⟩
theorem reads_filled {w:World} {g n:Nat} {e:TypeId} {cur:Array Value} {xs:List Value} (hb:Blk w g e cur) (hf:Filled cur xs) (hl:xs.length=n*3):Reads w w.heap.size 3 (some ⟨g,0,none⟩) n xs :=
 ⟨hl,fun _=>⟨g,0,rfl,hb.lt,fun j u hu=>by rw [Nat.zero_add,hb.cell];exact hf j u hu⟩⟩
theorem filled_two {cur:Array Value} {c:Int} {r:List S3} (h:Filled cur (scellsS ((1,0,c) :: r))):Filled (cur.setIfInBounds 2 (.int .i64 3)) (scellsS ((1,0,3) :: r)):=by
 intro j u hu
 have e1:scellsS ((1,0,3) :: r)=.int .i64 1 :: .int .i64 0 :: .int .i64 3 :: scellsS r:=rfl
 have e2:scellsS ((1,0,c) :: r)=.int .i64 1 :: .int .i64 0 :: .int .i64 c :: scellsS r:=rfl
 rw [e1] at hu
 by_cases hj:j=2
 ·subst hj
  have h2:=h 2 (.int .i64 c) (by rw [e2];rfl)
  have hs:2<cur.size:=(Array.getElem?_eq_some_iff.1 h2).1
  simp at hu
  subst hu
  simp [hs]
 ·have h2:=h j u (by
   rw [e2]
   rw [←hu]
   rcases j with _ | _ | _ | j
   ·rfl
   ·rfl
   ·exact absurd rfl hj
   ·rfl)
  rw [Array.getElem?_setIfInBounds_ne (Ne.symm hj)]
  exact h2
def SimplePost (T:TypeId) (w:World) (B R N:Nat) (e:Ending) (w':World):Prop :=
 ∃A c ss,e=.returned (.slice A ss.length c)∧ss.length≤4∧(∀s∈ss,Sm s)∧Reads w' w'.heap.size 3 A ss.length (scellsS ss)∧Rd T w' B R N∧w.grownBy w' (some R)
theorem l92Simple_any (B R N:Nat) (w:World) (hN:N≤800000) (hR:Rd 64 w B R N) :
 Calls Tryz.prog 13 #[.pointer (some ⟨R,0,none⟩)] w (SimplePost 64 w B R (N+10)):=by
 have hlt:=hR.lt
 have hle:=hR.le
 have HR0:=Lib.hid hR
 clear hR
 unfold SimplePost
 go_enter Tryz.func13,Tryz.ntmps13
 go_wp2_with fail
 refine (pick_any B R N 3 _ (by omega) (by omega) (by omega) HR0.out).mono ?_
 rintro e w1 ⟨l,rfl,hv1,hR1,hg1⟩
 have b1:=hv1.lt (by omega)
 have HR1:=Lib.hid hR1;clear hR1 hv1
 have HG1:=Lib.hid hg1;clear hg1 HR0
 go_wp2_with fail
 refine (pick_any B R (N+1) (4*l+2) _ (by omega) (by omega) (by omega) HR1.out).mono ?_
 rintro e w2 ⟨p,rfl,hv2,hR2,hg2⟩
 have b2:=hv2.lt (by omega)
 have hs2:=(gb_trans HG1.out hg2).size
 have HR2:=Lib.hid (hR2.alloc (.cells #[.int .i64 1,.int .i64 0,.int .i64 2,.int .i64 3,.int .i64 l,.int .i64 (1+p)] 42));clear hR2 hv2
 have HG2:=Lib.hid (gb_alloc (gb_trans HG1.out hg2) (.cells #[.int .i64 1,.int .i64 0,.int .i64 2,.int .i64 3,.int .i64 l,.int .i64 (1+p)] 42));clear hg2 HG1 HR1
 have HO2:=Lib.hid (own_mono (own_litK (n:=2) (size:=3) (Blk.new w2 42 #[.int .i64 1,.int .i64 0,.int .i64 2,.int .i64 3,.int .i64 l,.int .i64 (1+p)]) rfl (by omega)) hs2)
 have HSM1:Hid (Sm (1,0,2)):=by unfold Hid Sm;simp
 have HSM2:Hid (Sm (3,l,1+p)):=by unfold Hid Sm;simp only;omega
 have e12:(#[Value.int .i64 1,.int .i64 0,.int .i64 2,.int .i64 3,.int .i64 l,.int .i64 (1+p)]:Array Value).toList=scellsS [(1,0,2),(3,l,1+p)]:=rfl
 rw [e12] at HO2
 clear e12
 go_wp2_with fail
 refine (pick_any B R (N+2) 2 _ (by omega) (by omega) (by omega) HR2.out).mono ?_
 rintro e w3 ⟨v3,rfl,hv3,hR3,hg3⟩
 have HO3:=Lib.hid (own_gb HO2.out hg3 hlt)
 have HR3:=Lib.hid hR3;clear hR3 hv3
 have HG3:=Lib.hid (gb_trans HG2.out hg3);clear hg3 HR2 HG2 HO2
 by_cases c3:v3=0
 ·subst c3
  go_wp2_with fail
  refine (pick_any B R (N+2+1) 2 _ (by omega) (by omega) (by omega) HR3.out).mono ?_
  rintro e w4 ⟨m,rfl,hv4,hR4,hg4⟩
  have b4:=hv4.lt (by omega)
  have HO4:=Lib.hid (own_gb HO3.out hg4 hlt)
  have HR4:=Lib.hid hR4;clear hR4 hv4
  have HG4:=Lib.hid (gb_trans HG3.out hg4);clear hg4 HR3 HG3 HO3
  go_wp2_with fail
  refine (pick_any B R (N+2+1+1) (4*m+2) _ (by omega) (by omega) (by omega) HR4.out).mono ?_
  rintro e w5 ⟨q,rfl,hv5,hR5,hg5⟩
  have b5:=hv5.lt (by omega)
  have HO5:=Lib.hid (own_gb HO4.out hg5 hlt)
  have HR5:=Lib.hid hR5;clear hR5 hv5
  have HG5:=Lib.hid (gb_trans HG4.out hg5);clear hg5 HR4 HG4 HO4
  have hs5:=HG5.out.size
  have HSM3:Hid (Sm (4,m,1+q)):=by unfold Hid Sm;simp only;omega
  go_wp2_with (at_builtin;refine wpList_app1b _ rfl (.tmp 23) (.tmp 32) _ rfl w.heap.size 42 3 24 elShell _ _ 2 (scellsS [(1,0,2),(3,l,1+p)]) rfl (HO5.out.alloc _) w5.heap.size #[.int .i64 4,.int .i64 m,.int .i64 (1+q)] rfl (Blk.new w5 _ _) rfl ?h1 (by omega) (by omega) (by simp;omega) ?_)
  case h1=>simp [Value.oneCell']
  intro A6 c6 w6 hown6 hc6 hb6
  have HO6:Hid (w6.ownsRow w.heap.size 42 3 (.slice A6 3 c6) 3 (scellsS [(1,0,2),(3,l,1+p),(4,m,1+q)])):=hown6
  have HR6:=Lib.hid ((HR5.out.alloc (.cells #[.int .i64 4,.int .i64 m,.int .i64 (1+q)] 42)).sub hb6 hlt)
  have HG6:=Lib.hid (gb_base (gb_alloc HG5.out (.cells #[.int .i64 4,.int .i64 m,.int .i64 (1+q)] 42)) hb6)
  have HSS:Hid (∀s∈[((1:Int),(0:Int),(2:Int)),(3,l,1+p),(4,m,1+q)],Sm s):=fun s hs=>by
   simp only [List.mem_cons,List.not_mem_nil,or_false] at hs
   rcases hs with rfl | rfl | rfl
   ·exact HSM1.out
   ·exact HSM2.out
   ·exact HSM3.out
  clear hown6 hb6 HR5 HG5 HO5 HSM1 HSM2 HSM3
  obtain ⟨rest,hrest⟩:∃rest:List S3,[(3,l,1+p),(4,m,1+q)]=rest:=⟨_,rfl⟩
  have HRL:Hid (rest.length=2):=by unfold Hid;rw [←hrest];rfl
  rw [hrest] at HO6 HSS
  clear hrest
  have HLE:Hid (((1,0,2) :: rest:List S3).length=3):=by unfold Hid;rw [List.length_cons,HRL.out]
  go_wp2_with fail
  refine (pick_any B R (N+2+1+1+1) 30 _ (by omega) (by omega) (by omega) HR6.out).mono ?_
  rintro e w7 ⟨v7,rfl,hv7,hR7,hg7⟩
  have HO7:=Lib.hid (own_gb HO6.out hg7 hlt)
  have HR7:=Lib.hid hR7;clear hR7 hv7
  have HG7:=Lib.hid (gb_trans HG6.out hg7);clear hg7 HR6 HG6 HO6
  have hs7:=HG7.out.size
  by_cases c7:v7=0
  ·subst c7
   go_wp2_with (at_builtin;refine wpList_app1b _ rfl (.tmp 38) (.tmp 40) _ rfl w.heap.size 42 3 24 elShell _ _ 3 (scellsS ((1,0,2) :: rest)) rfl (HO7.out.alloc _) w7.heap.size #[.int .i64 5,.int .i64 3,.int .i64 2] rfl (Blk.new w7 _ _) rfl ?h1 (by omega) (by omega) (by simp;omega) ?_)
   case h1=>simp [Value.oneCell']
   intro A8 c8 w8 hown8 hc8 hb8
   have HR8:=Lib.hid ((HR7.out.alloc (.cells #[.int .i64 5,.int .i64 3,.int .i64 2] 42)).sub hb8 hlt)
   have HG8:=Lib.hid (gb_base (gb_alloc HG7.out (.cells #[.int .i64 5,.int .i64 3,.int .i64 2] 42)) hb8)
   have HO8:Hid (w8.ownsRow w.heap.size 42 3 (.slice A8 (3+1) c8) (3+1) (scellsS (((1,0,2) :: rest)++[(5,3,2)]))):=by unfold Hid;rw [scellsS_snoc];exact hown8
   have HL8:Hid ((((1,0,2) :: rest:List S3)++[(5,3,2)]).length=3+1):=by unfold Hid;rw [List.length_append,HLE.out];rfl
   clear hown8 hb8 HO7 HR7 HG7
   go_wp2_with fail
   go_ret
   refine ⟨A8,c8,((1,0,2) :: rest)++[(5,3,2)],by rw [HL8.out];rfl,by rw [HL8.out];omega,fun s hs=>?_,by rw [HL8.out];exact own_reads HO8.out,HR8.out.more (by omega),HG8.out⟩
   rcases List.mem_append.1 hs with h | h
   ·exact HSS.out s h
   ·simp only [List.mem_singleton] at h
    subst h
    unfold Sm;simp
  have d7:(v7==0)=false:=by simpa using c7
  by_cases c8:v7=1
  ·subst c8
   obtain ⟨g,cur,hA,hg,hbl,hfl⟩:=own_blk2 HO7.out (by omega)
   cases hA
   have hc2:=(hbl.cell 2).trans (hfl 2 (.int .i64 2) rfl)
   have hf2:=hbl.frozen 2
   have hlg:=hbl.lt
   have HRD:Hid (Reads (w7.setCell ⟨g,2,none⟩ (.int .i64 3)) (w7.setCell ⟨g,2,none⟩ (.int .i64 3)).heap.size 3 (some ⟨g,0,none⟩) 3 (scellsS ((1,0,3) :: rest))) :=
    reads_filled (hbl.set 2 (.int .i64 3)) (filled_two hfl) (by rw [scellsS_len,List.length_cons,HRL.out])
   have HR8:=Lib.hid (HR7.out.setCell (p:=⟨g,2,none⟩) (by show B≤g;omega) (by show g≠R;omega) (.int .i64 3))
   have HG8:=Lib.hid (gb_setCell (p:=⟨g,2,none⟩) HG7.out (.inr (by show w.heap.size≤g;omega)) (.int .i64 3))
   clear hbl hfl HO7 HR7 HG7
   go_wp2_with fail
   go_ret
   have hl8:((1,0,3) :: rest:List S3).length=3:=by rw [List.length_cons,HRL.out]
   refine ⟨_,_,(1,0,3) :: rest,by rw [hl8];rfl,by rw [hl8];omega,fun s hs=>?_,by rw [hl8];exact HRD.out,HR8.out.more (by omega),HG8.out⟩
   rcases List.mem_cons.1 hs with h | h
   ·subst h
    unfold Sm;simp
   ·exact HSS.out s (List.mem_cons_of_mem _ h)
  ·have d8:(v7==1)=false:=by simpa using c8
   clear c7 c8
   go_wp2_with fail
   go_ret
   exact ⟨_,_,(1,0,2) :: rest,by rw [HLE.out];rfl,by rw [HLE.out];omega,HSS.out,by rw [HLE.out];exact own_reads HO7.out,HR7.out.more (by omega),HG7.out⟩
 ·have d3:(v3==0)=false:=by simpa using c3
  have HSS:Hid (∀s∈[((1:Int),(0:Int),(2:Int)),(3,l,1+p)],Sm s):=fun s hs=>by
   simp only [List.mem_cons,List.not_mem_nil,or_false] at hs
   rcases hs with rfl | rfl
   ·exact HSM1.out
   ·exact HSM2.out
  clear HSM1 HSM2
  obtain ⟨rest,hrest⟩:∃rest:List S3,[(3,l,1+p)]=rest:=⟨_,rfl⟩
  have HRL:Hid (rest.length=1):=by unfold Hid;rw [←hrest];rfl
  rw [hrest] at HO3 HSS
  clear hrest c3
  generalize (some (⟨w2.heap.size,0,none⟩:Addr))=A6 at *
  have HLE:Hid (((1,0,2) :: rest:List S3).length=2):=by unfold Hid;rw [List.length_cons,HRL.out]
  go_wp2_with fail
  refine (pick_any B R (N+2+1) 30 _ (by omega) (by omega) (by omega) HR3.out).mono ?_
  rintro e w7 ⟨v7,rfl,hv7,hR7,hg7⟩
  have HO7:=Lib.hid (own_gb HO3.out hg7 hlt)
  have HR7:=Lib.hid hR7;clear hR7 hv7
  have HG7:=Lib.hid (gb_trans HG3.out hg7);clear hg7 HR3 HG3 HO3
  have hs7:=HG7.out.size
  by_cases c7:v7=0
  ·subst c7
   go_wp2_with (at_builtin;refine wpList_app1b _ rfl (.tmp 38) (.tmp 40) _ rfl w.heap.size 42 3 24 elShell _ _ 2 (scellsS ((1,0,2) :: rest)) rfl (HO7.out.alloc _) w7.heap.size #[.int .i64 5,.int .i64 3,.int .i64 2] rfl (Blk.new w7 _ _) rfl ?h1 (by omega) (by omega) (by simp;omega) ?_)
   case h1=>simp [Value.oneCell']
   intro A8 c8 w8 hown8 hc8 hb8
   have HR8:=Lib.hid ((HR7.out.alloc (.cells #[.int .i64 5,.int .i64 3,.int .i64 2] 42)).sub hb8 hlt)
   have HG8:=Lib.hid (gb_base (gb_alloc HG7.out (.cells #[.int .i64 5,.int .i64 3,.int .i64 2] 42)) hb8)
   have HO8:Hid (w8.ownsRow w.heap.size 42 3 (.slice A8 (2+1) c8) (2+1) (scellsS (((1,0,2) :: rest)++[(5,3,2)]))):=by unfold Hid;rw [scellsS_snoc];exact hown8
   have HL8:Hid ((((1,0,2) :: rest:List S3)++[(5,3,2)]).length=2+1):=by unfold Hid;rw [List.length_append,HLE.out];rfl
   clear hown8 hb8 HO7 HR7 HG7
   go_wp2_with fail
   go_ret
   refine ⟨A8,c8,((1,0,2) :: rest)++[(5,3,2)],by rw [HL8.out];rfl,by rw [HL8.out];omega,fun s hs=>?_,by rw [HL8.out];exact own_reads HO8.out,HR8.out.more (by omega),HG8.out⟩
   rcases List.mem_append.1 hs with h | h
   ·exact HSS.out s h
   ·simp only [List.mem_singleton] at h
    subst h
    unfold Sm;simp
  have d7:(v7==0)=false:=by simpa using c7
  by_cases c8:v7=1
  ·subst c8
   obtain ⟨g,cur,hA,hg,hbl,hfl⟩:=own_blk2 HO7.out (by omega)
   cases hA
   have hc2:=(hbl.cell 2).trans (hfl 2 (.int .i64 2) rfl)
   have hf2:=hbl.frozen 2
   have hlg:=hbl.lt
   have HRD:Hid (Reads (w7.setCell ⟨g,2,none⟩ (.int .i64 3)) (w7.setCell ⟨g,2,none⟩ (.int .i64 3)).heap.size 3 (some ⟨g,0,none⟩) 2 (scellsS ((1,0,3) :: rest))) :=
    reads_filled (hbl.set 2 (.int .i64 3)) (filled_two hfl) (by rw [scellsS_len,List.length_cons,HRL.out])
   have HR8:=Lib.hid (HR7.out.setCell (p:=⟨g,2,none⟩) (by show B≤g;omega) (by show g≠R;omega) (.int .i64 3))
   have HG8:=Lib.hid (gb_setCell (p:=⟨g,2,none⟩) HG7.out (.inr (by show w.heap.size≤g;omega)) (.int .i64 3))
   clear hbl hfl HO7 HR7 HG7
   go_wp2_with fail
   go_ret
   have hl8:((1,0,3) :: rest:List S3).length=2:=by rw [List.length_cons,HRL.out]
   refine ⟨_,_,(1,0,3) :: rest,by rw [hl8];rfl,by rw [hl8];omega,fun s hs=>?_,by rw [hl8];exact HRD.out,HR8.out.more (by omega),HG8.out⟩
   rcases List.mem_cons.1 hs with h | h
   ·subst h
    unfold Sm;simp
   ·exact HSS.out s (List.mem_cons_of_mem _ h)
  ·have d8:(v7==1)=false:=by simpa using c8
   clear c7 c8
   go_wp2_with fail
   go_ret
   exact ⟨_,_,(1,0,2) :: rest,by rw [HLE.out];rfl,by rw [HLE.out];omega,HSS.out,by rw [HLE.out];exact own_reads HO7.out,HR7.out.more (by omega),HG7.out⟩
theorem DrawTermsConfig_any (A:Option Addr) (n c:Nat) (w:World) (hm:n≤140737488355328) (hc:n≤c) (hb:Bytes w w.heap.size A n) :
 Calls Tryz.prog 5 #[.slice A n c] w fun e w'=>∃A c ss,e=.returned (.slice A ss.length c)∧ss.length≤4∧(∀s∈ss,Sm s)∧Reads w' w'.heap.size 3 A ss.length (scellsS ss)∧Below w.heap.size w w':=by
 have HB:=Lib.hid hb;clear hb
 go_enter Tryz.func5,Tryz.ntmps5
 go_wp2_with fail
 refine (l6Open_any A n c w hm hc HB.out).mono ?_
 rintro e w1 ⟨rfl,hR1,hb1⟩
 have HR1:=Lib.hid hR1
 have HB1:=Lib.hid hb1
 clear hR1 hb1 HB
 go_wp2_with fail
 refine (l92Simple_any w.heap.size w.heap.size 0 _ (by omega) HR1.out).mono ?_
 rintro e w2 ⟨A2,c2,ss,rfl,hs4,hsm,hr2,_,hg2⟩
 have HS4:=Lib.hid hs4
 have HSM:=Lib.hid hsm
 have HR2:=Lib.hid hr2
 have HB2:=Lib.hid (below_of_gb HB1.out hg2 HB1.out.size (Nat.le_refl _))
 clear hs4 hsm hr2 hg2 HR1 HB1
 go_wp2_with fail
 go_ret
 exact ⟨A2,c2,ss,rfl,HS4.out,HSM.out,HR2.out,HB2.out⟩
end
end
end Go.Proofs.YtjdfbnlaiiknpaaGreatDoor
