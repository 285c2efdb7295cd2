/- Parts of the proof of : La. -/
import Derived.Test.YtjdfbnlaiiknpaaGreatDoorQ27
import Derived.Test.YtjdfbnlaiiknpaaGreatDoorQ28
import Derived.Test.YtjdfbnlaiiknpaaGreatDoorQ32
import Derived.Test.YtjdfbnlaiiknpaaGreatDoorQ34
import Derived.Test.YtjdfbnlaiiknpaaGreatDoorQ37
set_option maxHeartbeats 20000000
set_option maxRecDepth 1000000
set_option linter.unusedSimpArgs false
set_option linter.unusedVariables false
namespace Go.Proofs.YtjdfbnlaiiknpaaGreatDoor
section
open Go.RowKit
attribute [local go_sem ↓] Go.wp_at_zero Go.wp_at_succ
def finT (r:List UInt8 × Bool):List UInt8:=if r.2=true then r.1 else [110,111]
theorem bs_no:bs [110,111]=⟨#[110,111]⟩:=rfl
theorem l51Numbers_any (A:Option Addr) (n c:Nat) (ws:List (List UInt8)) (w:World) (hl:ws.length=n) (h1:1≤n) (hn:n≤1000) (hm:∀k,(ws.getD k []).length≤1000) (hr:Reads w w.heap.size 1 A n (scells ws)) :
 Calls Tryz.prog 60 #[.slice A n c] w fun e w'=>(∃A' c',e=.returned (.slice A' (n-1) c')∧Reads w' w'.heap.size 1 A' (n-1) (icells ((ws.drop 1).map numOf)))∧Below w.heap.size w w':=by
 have HR:=Lib.hid hr
 have HL:=Lib.hid hl
 have HNU:=Lib.hid (fun k W=>l51Number_any (ws.getD k []) W (hm k))
 have HO0:=Lib.hid (own_empty w 3 1)
 have HB0:=Lib.hid (bel_alloc (Below.refl w.heap.size w) (.cells #[] 3))
 clear hr hl hm
 go_enter Tryz.func60,Tryz.ntmps60
 go_wp2_with fail
 go_loopw [3,4] (fun v i wr=>∃(k:Nat) (A':Option Addr) (c':Nat),1≤k∧k≤n∧i=.int .i64 (k:Int)∧v=.slice A' (k-1) c'∧Hid (wr.ownsRow w.heap.size 3 1 (.slice A' (k-1) c') (k-1) (icells (((ws.take k).drop 1).map numOf)))∧Hid (Below w.heap.size w wr)) (fun _ i _=>n-(RowKit.intOf i).toNat)
 case atStart =>
  refine ⟨1,_,_,Nat.le_refl _,h1,rfl,rfl,?_,HB0.out⟩
  have h:icells (((ws.take 1).drop 1).map numOf)=[]:=by rw [List.drop_of_length_le (by rw [List.length_take];omega)];rfl
  rw [h];exact HO0.out
 case round =>
  obtain ⟨k,A',c',hk1,hk,rfl,rfl,HO,HB⟩:=hrel
  clear HO0 HB0
  by_cases hlt:k<n
  ·obtain ⟨gb,off,rfl,hgb,hcw⟩:=(HR.out.below HB.out).str HL.out hlt
   have HT:Hid (icells (((ws.take (k+1)).drop 1).map numOf)=icells (((ws.take k).drop 1).map numOf)++[.int .i64 (numOf (ws.getD k []))]):=by
    unfold Hid
    have hkl:k<ws.length:=by rw [HL.out];exact hlt
    rw [List.take_succ_eq_append_getElem hkl,List.drop_append_of_le_length (by rw [List.length_take];omega)]
    rw [List.getD_eq_getElem?_getD,List.getElem?_eq_getElem hkl]
    simp [icells]
   have HC:=Lib.hid (fun W=>HNU.out k W)
   have hlw:=HB.out.size
   obtain ⟨m,rfl⟩:∃m,k=m+1:=⟨k-1,by omega⟩
   simp only [Nat.add_sub_cancel] at HO HT ⊢
   generalize bs (ws.getD (m+1) [])=D at *
   generalize numOf (ws.getD (m+1) [])=v at *
   generalize icells (((ws.take (m+1)).drop 1).map numOf)=xs at *
   have u1:IntKind.i64.wrap (((m+1:Nat):Int)+1)=((m+1:Nat):Int)+1:=IntWalk.i64_in _ (by omega)
   go_wp2_with fail
   refine (HC.out _).mono ?_
   rintro e w3 ⟨rfl,rfl⟩
   go_wp2_with (at_builtin;refine wpList_app1b _ rfl (.tmp 12) (.tmp 18) _ rfl w.heap.size 3 1 8 elInt A' c' m xs rfl (HO.out.alloc _) w3.heap.size #[.int .i64 v] rfl (Blk.new w3 _ _) rfl ?h1 (by omega) (by omega) (by simp;omega) ?_)
   case h1=>simp [Value.oneCell']
   intro A8 c8 w8 hown8 hc8 hb8
   have HW8:=Lib.hid hown8
   have HB8:Hid (Below w.heap.size w w8):=(bel_alloc HB.out _).trans hb8
   clear hown8 hb8 hcw
   go_wp2_with fail
   go_roundw
   case rel=>exact ⟨m+2,A8,c8,by omega,by omega,by go_num,rfl,by rw [HT.out];exact HW8.out,HB8.out⟩
   case measure=>simp [RowKit.intOf];omega
  ·obtain rfl:k=n:=by omega
   have HT:Hid (((ws.take k).drop 1)=ws.drop 1):=by unfold Hid;rw [List.take_of_length_le (by rw [HL.out];exact Nat.le_refl _)]
   rw [HT.out] at HO
   go_wp2_with fail
   go_ret
   exact ⟨⟨_,_,rfl,own_reads HO.out⟩,HB.out⟩
theorem grL_sm {z:Int} (h:1≤z∧z≤118):(∀s∈grL z,Sm s)∧(grL z).length≤19:=by
 have h0:=okG_at h
 unfold okG at h0
 simp only [Bool.and_eq_true,decide_eq_true_eq] at h0
 exact ⟨fun s hs=>shv_sm ((cv_all h0.2).1 s hs),h0.1.2.2⟩
theorem l51Ground_any (q:List UInt8) (w:World) :
 Calls Tryz.prog 61 #[.int .i64 (numOf q)] w fun e w'=>e=.returned (.string (bs (finT (rqGr q))))∧Below w.heap.size w w':=by
 unfold rqGr
 generalize numOf q=z
 by_cases hz:1≤z∧z≤118
 ·rw [if_pos hz]
  have HG:=Lib.hid (fun W=>specGround_any z W hz.1 hz.2)
  obtain ⟨hs,hl⟩:=grL_sm hz
  have HT:=Lib.hid (fun A c W hr=>specConfigText_any A (grL z).length c (grL z) W (by omega) rfl hs hr)
  have hf:finT (cfgT (grL z),true)=cfgT (grL z):=rfl
  rw [hf]
  clear hz hs hf
  unfold GrPost at HG
  generalize bs (cfgT (grL z))=Y at *
  generalize (grL z).length=n at *
  generalize scellsS (grL z)=xs at *
  go_enter Tryz.func61,Tryz.ntmps61
  go_wp2_with fail
  refine (HG.out _).mono ?_
  rintro e w1 ⟨⟨A,c,rfl,hr1⟩,hb1⟩
  have HB1:=Lib.hid hb1;have HR1:=Lib.hid hr1
  clear hb1 hr1
  go_wp2_with fail
  refine (HT.out A c _ HR1.out).mono ?_
  rintro e w2 ⟨rfl,hb2⟩
  have HB2:=Lib.hid (bel_sub HB1.out hb2);clear hb2
  go_wp2_with fail
  go_ret
  exact ⟨rfl,HB2.out⟩
 ·rw [if_neg hz]
  have HG:=Lib.hid (fun W=>specGround_no z W hz)
  have hf:finT (([]:List UInt8),false)=[110,111]:=rfl
  rw [hf,bs_no]
  clear hz hf
  go_enter Tryz.func61,Tryz.ntmps61
  go_wp2_with fail
  refine (HG.out _).mono ?_
  rintro e w1 ⟨⟨A,c,rfl⟩,hb1⟩
  have HB1:=Lib.hid hb1
  clear hb1
  go_wp2_with fail
  go_ret
  exact ⟨rfl,HB1.out⟩
theorem l51Root_any (r:RT × Bool) (w:World) :
 Calls Tryz.prog 66 #[rtV r.1,.bool r.2] w fun e w'=>e=.returned (.string (bs (finT (rootT r.1,r.2))))∧Below w.heap.size w w':=by
 obtain ⟨⟨s,x,y⟩,ok⟩:=r
 have HT:=Lib.hid (fun W=>specRootText_any s x y W)
 have HB0:=Lib.hid (bel_alloc (Below.refl w.heap.size w) (.cells #[.int .i64 s,.int .i64 x,.int .i64 y] 99))
 unfold rtV finT
 simp only
 cases ok
 ·rw [if_neg (by simp),bs_no]
  go_enter Tryz.func66,Tryz.ntmps66
  go_wp2_with fail
  go_ret
  exact ⟨rfl,HB0.out⟩
 ·rw [if_pos rfl]
  generalize bs (rootT (s,(x,y)))=Y at *
  go_enter Tryz.func66,Tryz.ntmps66
  go_wp2_with fail
  refine (HT.out _).mono ?_
  rintro e w2 ⟨rfl,hb2⟩
  have HB2:=Lib.hid (bel_sub HB0.out hb2);clear hb2
  go_wp2_with fail
  go_ret
  exact ⟨rfl,HB2.out⟩
theorem l51Factor_any (q:List UInt8) (w:World) (hq:q.length≤1000000) :
 Calls Tryz.prog 64 #[.string (bs q)] w fun e w'=>e=.returned (.string (bs (finT (rqFac q))))∧Below w.heap.size w w':=by
 have HLF:=Lib.hid (fun W=>specLevelFrom_all q W hq)
 unfold rqFac
 obtain ⟨⟨⟨⟨t1,t2⟩,j⟩,ok⟩,hr⟩:∃r,lvF q=r:=⟨_,rfl⟩
 rw [hr] at HLF ⊢
 simp only
 have HFO:=Lib.hid (fun W=>specFactorOf_any (t1,t2) j W)
 obtain ⟨⟨⟨a,b⟩,fine⟩,hf⟩:∃r,facR (t1,t2) j=r:=⟨_,rfl⟩
 rw [hf] at HFO ⊢
 have HRT:=Lib.hid (fun W=>specRatText_any a b W)
 clear hr hf
 unfold lvV at HLF
 unfold okV ratV at HFO
 unfold finT
 simp only at HLF HFO ⊢
 generalize bs q=X at *
 obtain ⟨Y,hY⟩:∃Y,bs (ratT (a,b))=Y:=⟨_,rfl⟩
 have HY:=Lib.hid hY
 rw [hY] at HRT;clear hY
 go_enter Tryz.func64,Tryz.ntmps64
 go_wp2_with fail
 refine (HLF.out _).mono ?_
 rintro e w1 ⟨rfl,hb1⟩
 have HB1:=Lib.hid (bel_alloc hb1 (.cells #[.int .i64 t1,.int .i64 t2,.int .i64 j] 131));clear hb1
 go_wp2_with fail
 refine (HFO.out _).mono ?_
 rintro e w2 ⟨rfl,hb2⟩
 have HB2:=Lib.hid (bel_alloc (bel_sub HB1.out hb2) (.cells #[.int .i64 a,.int .i64 b] 97));clear hb2
 cases ok
 ·go_wp2_with fail
  go_ret
  exact ⟨rfl,HB2.out⟩
 ·cases fine
  ·go_wp2_with fail
   go_ret
   exact ⟨rfl,HB2.out⟩
  ·go_wp2_with fail
   refine (HRT.out _).mono ?_
   rintro e w3 ⟨rfl,hb3⟩
   have HB3:=Lib.hid (bel_sub HB2.out hb3);clear hb3
   go_wp2_with fail
   go_ret
   exact ⟨by rw [←HY.out];rfl,HB3.out⟩
theorem l51Levels_any (q:List UInt8) (w:World) (hq:q.length≤1000000) :
 Calls Tryz.prog 63 #[.string (bs q)] w fun e w'=>e=.returned (.string (bs (finT (rqLe q))))∧Below w.heap.size w w':=by
 have HTF:=Lib.hid (fun W=>specTermFrom_all q W hq)
 have htv:=tmF_tv q
 unfold rqLe
 obtain ⟨⟨⟨a,b⟩,ok⟩,hr⟩:∃r,tmF q=r:=⟨_,rfl⟩
 rw [hr] at HTF htv ⊢
 unfold finT
 unfold tmV at HTF
 simp only at HTF htv ⊢
 clear hr
 cases ok
 ·rw [if_neg (by simp),bs_no]
  generalize bs q=X at *
  go_enter Tryz.func63,Tryz.ntmps63
  go_wp2_with fail
  refine (HTF.out _).mono ?_
  rintro e w1 ⟨rfl,hb1⟩
  have HB1:=Lib.hid (bel_alloc hb1 (.cells #[.int .i64 a,.int .i64 b] 39));clear hb1
  go_wp2_with fail
  go_ret
  exact ⟨rfl,HB1.out⟩
 rw [if_pos rfl]
 have HLO:=Lib.hid (fun W=>specLevelsOf_any (a,b) W)
 unfold LevelsPost at HLO
 have hlen:=(lv_len htv).2
 have HTX:Hid (∀j,j∈lvJs (a,b)→∀W,Calls Tryz.prog 101 #[.agg #[.int .i64 a,.int .i64 b,.int .i64 j]] W fun e w'=>e=.returned (.string (bs (l1T (a,b) j)))∧Below W.heap.size W w'):=fun j hj W=>by
  have:=specLevelText_any (a,b) j W
  rwa [lvB_mem.2 hj,if_pos rfl] at this
 have HL1:Hid (∀k,(((lvJs (a,b)).map (l1T (a,b))).getD k []).length≤10000):=fun k=>by
  rw [List.getD_eq_getElem?_getD,List.getElem?_map]
  rcases h:(lvJs (a,b))[k]? with _ | j
  ·simp
  ·have:=l1T_len htv j
   simp;omega
 have HLV:Hid (lvT (a,b)=Lib.join (((lvJs (a,b)).map (l1T (a,b))).drop 0) [32]):=rfl
 rw [HLV.out]
 clear HLV htv
 obtain ⟨js,hjs⟩:∃js,lvJs (a,b)=js:=⟨_,rfl⟩
 obtain ⟨n,hnn⟩:∃n,js.length=n:=⟨_,rfl⟩
 rw [hjs] at HLO hlen HTX HL1 ⊢
 rw [hnn] at HLO hlen
 have HN:=Lib.hid hnn;clear hjs hnn
 have HRE:=Lib.hid (fun A c W hr=>l51Rest_any A n c 0 (js.map (l1T (a,b))) W (by rw [List.length_map];exact HN.out) (by omega) (Nat.zero_le _) HL1.out hr)
 generalize bs q=X at *
 generalize bs (Lib.join ((js.map (l1T (a,b))).drop 0) [32])=Y at *
 go_enter Tryz.func63,Tryz.ntmps63
 go_wp2_with fail
 refine (HTF.out _).mono ?_
 rintro e w1 ⟨rfl,hb1⟩
 have HB1:=Lib.hid (bel_alloc hb1 (.cells #[.int .i64 a,.int .i64 b] 39));clear hb1
 go_wp2_with fail
 refine (HLO.out _).mono ?_
 rintro e w2 ⟨⟨A,c,rfl,hr2⟩,hb2⟩
 have HB2:=Lib.hid (bel_sub HB1.out hb2)
 have HR2:=Lib.hid (own_reads hr2)
 have HO3:=Lib.hid (own_empty w2 9 1)
 have HB3:=Lib.hid (bel_alloc (Below.refl w2.heap.size w2) (.cells #[] 9))
 clear hb2 hr2
 go_wp2_with fail
 go_loopw [6,7] (fun v i wr=>∃(k:Nat) (A':Option Addr) (c':Nat),k≤n∧i=.int .i64 (k:Int)∧v=.slice A' k c'∧Hid (wr.ownsRow w2.heap.size 9 1 (.slice A' k c') k (scells ((js.take k).map (l1T (a,b)))))∧Hid (Below w2.heap.size w2 wr)) (fun _ i _=>n-(RowKit.intOf i).toNat)
 case atStart=>exact ⟨0,_,_,Nat.zero_le _,rfl,rfl,HO3.out,HB3.out⟩
 case round =>
  obtain ⟨k,A',c',hk,rfl,rfl,HO,HB⟩:=hrel
  clear HO3 HB3
  by_cases hlt:k<n
  ·obtain ⟨gb,off,j,rfl,hgb,r1,r2,r3,hg⟩:=(HR2.out.below HB.out).lev HN.out hlt
   have HT:Hid (scells ((js.take (k+1)).map (l1T (a,b)))=scells ((js.take k).map (l1T (a,b)))++[.string (bs (l1T (a,b) j))]):=by
    unfold Hid
    have hkl:k<js.length:=by rw [HN.out];exact hlt
    rw [List.take_succ_eq_append_getElem hkl]
    have hg2:=hg.out
    rw [List.getElem?_eq_getElem hkl] at hg2
    injection hg2 with hg2
    rw [hg2]
    simp [scells]
   have HC:=Lib.hid (HTX.out j (by
    have hkl:k<js.length:=by rw [HN.out];exact hlt
    have hg2:=hg.out
    rw [List.getElem?_eq_getElem hkl] at hg2
    injection hg2 with hg2
    rw [←hg2];exact List.getElem_mem _))
   have hlw:=HB.out.size
   clear hg
   generalize bs (l1T (a,b) j)=D at *
   generalize scells ((js.take k).map (l1T (a,b)))=xs at *
   go_wp2_with fail
   refine (HC.out _).mono ?_
   rintro e w3 ⟨rfl,hb3⟩
   have HO4:=Lib.hid (own_below HO.out hb3)
   have HB4:=Lib.hid (bel_sub HB.out hb3)
   have hl4:=HB4.out.size
   clear hb3 r1 r2 r3
   go_wp2_with (at_builtin;refine wpList_app1b _ rfl (.tmp 24) (.tmp 30) _ rfl w2.heap.size 9 1 16 elStr A' c' k xs rfl (HO4.out.alloc _) w3.heap.size #[.string D] rfl (Blk.new w3 _ _) rfl ?h1 (by omega) (by omega) (by simp;omega) ?_)
   case h1=>simp [Value.oneCell']
   intro A8 c8 w8 hown8 hc8 hb8
   have HW8:=Lib.hid hown8
   have HB8:Hid (Below w2.heap.size w2 w8):=(bel_alloc HB4.out _).trans hb8
   clear hown8 hb8
   go_wp2_with fail
   go_roundw
   case rel=>exact ⟨k+1,A8,c8,by omega,by go_num,rfl,by rw [HT.out];exact HW8.out,HB8.out⟩
   case measure=>simp [RowKit.intOf];omega
  ·obtain rfl:k=n:=by omega
   have HT:Hid (js.take k=js):=List.take_of_length_le (by rw [HN.out];exact Nat.le_refl _)
   rw [HT.out] at HO
   have HBW:=Lib.hid (bel_sub HB2.out HB.out)
   go_wp2_with fail
   refine (HRE.out A' c' _ (own_reads HO.out)).mono ?_
   rintro e w5 ⟨rfl,hb5⟩
   have HB5:=Lib.hid (bel_sub HBW.out hb5);clear hb5
   go_wp2_with fail
   go_ret
   exact ⟨rfl,HB5.out⟩
end
end Go.Proofs.YtjdfbnlaiiknpaaGreatDoor
