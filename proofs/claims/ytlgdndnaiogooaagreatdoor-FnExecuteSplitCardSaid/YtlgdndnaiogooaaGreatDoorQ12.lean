/- Parts of the proof of : Lt3. -/
import Derived.Test.YtlgdndnaiogooaaGreatDoorQ11
set_option maxHeartbeats 20000000
set_option maxRecDepth 1000000
set_option linter.unusedSimpArgs false
set_option linter.unusedVariables false
namespace Go.Proofs.YtlgdndnaiogooaaGreatDoor
section
open Go.RowKit
attribute [local go_sem ↓] Go.wp_at_zero Go.wp_at_succ
theorem wpList_app1K {P:Program} (w:World) {ops:Array Oper} {rest:List Oper} {o:Oper} {a:Act} {Q:Exit→Act→World→Prop} (hgd:o.guard=none) (s x:Operand) (t:TypeId)
 (ho:o.op=.call { callee:=.builtin .append,args:=#[s,x],argTypes:=#[t,t] })
 (base:Nat) (e:TypeId) (size bytes:Nat) (hE:ElemOk P t e size bytes)
 (A:Option Addr) (c n:Nat) (xs:List Value) (hs:a.eval s=.slice A n c) (hown:w.ownsRow base e size (.slice A n c) n xs)
 (L:Nat) (cs:Array Value) (hx:a.eval x=.slice (some ⟨L,0,none⟩) 1 1) (hL:Blk w L e cs) (hcs:cs.size=size) (h1:∀u∈cs.toList,u.oneCell'=true)
 (hn:n≤1000000) (hby:bytes≤1000000) (hbase:base≤w.heap.size)
 (h:∀A' c' w',w'.ownsRow base e size (.slice A' (n+1) c') (n+1) (xs++cs.toList)→n+1≤c'→Below base w w'→KeepT e w w'→wpList P ops Q rest (a.put o.dst (.slice A' (n+1) c')) w'):wpList P ops Q (o :: rest) a w:=by
 obtain ⟨ht,i,z,hi,hz,hsize,hbytes,hzs,hsz⟩:=hE
 refine wpList_append_own w hgd s x t ho base e i z size bytes ht hi hz hsize hbytes hzs hsz _ n xs hs hown ⟨L,0,none⟩ 1 1 cs.toList hx (by simp [hcs]) ?_ h1 (by unfold maxLen;omega) ?_ hbase ?_
 ·intro j u hj
  have:(⟨L,0,none⟩:Addr).add j=⟨L,j,none⟩:=by unfold Addr.add;split <;> simp_all
  rw [this,hL.cell]
  simpa using hj
 ·calc (n+1)*bytes≤1000001*1000000:=Nat.mul_le_mul (by omega) hby
   _≤_:=by omega
 ·intro v' w' hown' hg _
  obtain ⟨A',c',rfl,hc'⟩:=own_form hown'
  refine h A' c' w' hown' hc' ?_ (keepT_of hown hg)
  exact (Below.refl base w).grown hg hbase (fun k hk=>(hown.lt k hk).1)
def l1T (t:T2) (j:Int):List UInt8:=tmT t++spT j
def lvT (t:T2):List UInt8:=Lib.join ((lvJs t).map (l1T t)) [32]
theorem l1T_len {t:T2} (hv:tvB t=true) (j:Int):(l1T t j).length≤11:=by
 unfold l1T
 rw [List.length_append,tmT_len hv]
 have:=spT_len j
 omega
theorem joinl_len {t:T2} (hv:tvB t=true) (js:List Int):∀k,k≤js.length→(Lib.join ((js.take k).map (l1T t)) [32]).length≤12*k
 | 0,_=>by simp [Lib.join_nil]
 | k+1,h=>by
  have ih:=joinl_len hv js k (by omega)
  rw [List.take_succ_eq_append_getElem (by omega),List.map_append,List.map_cons,List.map_nil,join_snoc,List.length_append]
  have h2:=l1T_len hv js[k]
  split
  ·simp only [List.length_nil];omega
  ·rw [List.length_append];simp only [List.length_cons,List.length_nil];omega
theorem lv_len {t:T2} (hv:tvB t=true):1≤(lvJs t).length∧(lvJs t).length≤9:=by
 have hb:=tvB_iff.1 hv
 unfold lvJs
 rw [if_pos hv,cpl_len]
 omega
theorem reqLevels_any (t:T2) (b:Nat) (w:World) (hv:tvB t=true) (hb:b<w.heap.size) (hA:w.cell? ⟨b,1,none⟩=some (.string (bs (tmT t)))) :
 Calls Tryz.prog 128 #[.agg #[.slice (some ⟨b,1,none⟩) 1 1]] w fun e w'=>e=.returned (.tuple #[.string (bs (lvT t)),.bool true])∧Below w.heap.size w w':=by
 have hlen:=lv_len hv
 have HTF:=Lib.hid (fun W=>TermFrom_any t W hv)
 have HLO:=Lib.hid (fun W=>implLevelsOf_any t W)
 have HLT:=Lib.hid (fun j hj W=>LevelText_any t j W hj)
 have HJL:=Lib.hid (joinl_len hv (lvJs t))
 have HLV:Hid (bs (lvT t)=bs (Lib.join ((lvJs t).map (l1T t)) [32])):=rfl
 obtain ⟨X,hX⟩:∃X,bs (tmT t)=X:=⟨_,rfl⟩
 rw [hX] at HTF hA;clear hX
 obtain ⟨js,hjs⟩:∃js,lvJs t=js:=⟨_,rfl⟩
 obtain ⟨n,hn⟩:∃n,js.length=n:=⟨_,rfl⟩
 unfold LevelsPost at HLO
 rw [hjs] at hlen HLO HLT HLV HJL
 rw [hn] at hlen HLO HJL
 have HN:=Lib.hid hn;clear hjs hn hv
 have HA:=Lib.hid hA;clear hA
 obtain ⟨cs,hcs,hmk⟩:=run_mk0 elStr 9 (by omega) (by omega)
 have HCS:=Lib.hid hcs;clear hcs
 replace hmk:∀w:World,(Instr.makeSlice 72 (.int .i64 0) (.int .i64 9)).run Tryz.prog w=.ok (.slice (some ⟨w.heap.size,0,none⟩) 0 9) (w.alloc (.cells cs 9)):=fun w=>hmk w
 have HB0:=Lib.hid ((Below.refl w.heap.size w).alloc (Nat.le_refl _) (.cells #[.slice (some ⟨b,1,none⟩) 1 1] 136))
 have HQ0:Hid (Blk (w.alloc (.cells #[.slice (some ⟨b,1,none⟩) 1 1] 136)) w.heap.size 136 #[.slice (some ⟨b,1,none⟩) 1 1]):=Blk.new w _ _
 obtain ⟨s,l⟩:=t
 go_enter Tryz.func128,Tryz.ntmps128
 go_wp2_with fail
 refine (exactly_any _ 1 1 _).mono ?_
 rintro e w1 ⟨rfl,hb1⟩
 have HB1:=Lib.hid (HB0.out.trans (hb1.mono HB0.out.size))
 have c0:w1.cell? ⟨w.heap.size,0,none⟩=some (.slice (some ⟨b,1,none⟩) 1 1):=(HQ0.out.sub hb1).cell 0
 have hA:=(HB1.out.cell (p:=⟨b,1,none⟩) hb).trans HA.out
 clear hb1 HB0 HQ0
 go_wp2_with fail
 refine (HTF.out _).mono ?_
 rintro e w2 ⟨rfl,hb2⟩
 have HB2:=Lib.hid (HB1.out.trans (hb2.mono HB1.out.size))
 clear hb2 c0 hA HB1
 have HB3:=Lib.hid (HB2.out.alloc HB2.out.size (.cells #[.int .i64 s,.int .i64 l] 24))
 have HT3:=Lib.hid (Blk.new w2 24 #[.int .i64 s,.int .i64 l])
 have HO:=Lib.hid (World.ownsRow_made (base:=w.heap.size) (e:=9) (size:=1) (w2.alloc (.cells #[.int .i64 s,.int .i64 l] 24)) cs 9 HB3.out.size (by unfold maxLen;omega) HCS.out)
 rw [show (w2.alloc (.cells #[.int .i64 s,.int .i64 l] 24)).heap.size=w2.heap.size+1 by simp] at HO
 have HB4:=Lib.hid (HB3.out.alloc HB3.out.size (.cells cs 9))
 have HT4:=Lib.hid (HT3.out.alloc (.cells cs 9))
 obtain ⟨x1,x2,_,_⟩:=blk2 HT4.out
 clear HB2 HB3 HT3 HCS
 go_wp2_with fail
 clear hmk
 refine (HLO.out _).mono ?_
 rintro e w5 ⟨⟨A,c,rfl,hr5⟩,hb5⟩
 have HB5:=Lib.hid (HB4.out.trans (hb5.mono HB4.out.size))
 have HO5:=Lib.hid (own_below HO.out hb5)
 obtain ⟨B4,hB4⟩:∃B4,((w2.alloc (.cells #[.int .i64 s,.int .i64 l] 24)).alloc (.cells cs 9)).heap.size=B4:=⟨_,rfl⟩
 rw [hB4] at hr5
 have HL5:=Lib.hid hr5
 clear hb5 hr5 hB4 x1 x2 HO HB4 HT4 HLO HTF HA
 go_wp2_with fail
 go_loopw [6,8,23] (fun v u i wr=>∃(k:Nat) (A':Option Addr) (c':Nat),k≤n∧i=.int .i64 k∧v=.slice A' k c'∧k≤c'∧Hid (wr.ownsRow w.heap.size 9 1 (.slice A' k c') k (scells ((js.take k).map (l1T (s,l)))))∧Hid (wr.ownsRow B4 31 3 (.slice A n c) n (lcells (s,l) js))∧Hid (Below w.heap.size w wr)) (fun _ _ i _=>n-(RowKit.intOf i).toNat)
 case atStart=>exact ⟨0,_,_,Nat.zero_le _,rfl,rfl,Nat.zero_le _,HO5.out,HL5.out,HB5.out⟩
 case round =>
  clear HO5 HL5 HB5
  obtain ⟨k,A',c',hk,rfl,rfl,hkc,HW,HL,HB⟩:=hrel
  by_cases hlt:k<n
  ·obtain ⟨b',off,j,rfl,hb',r1,r2,r3,hg⟩:=(own_reads HL.out).lev HN.out hlt
   have hkl:k<js.length:=by rw [HN.out];exact hlt
   have hjk:js[k]=j:=by have:=hg.out;rw [List.getElem?_eq_getElem hkl] at this;injection this
   have HX:=Lib.hid (fun W=>HLT.out j (by rw [←hjk];exact List.getElem_mem hkl) W)
   have HJ:Hid (scells ((js.take (k+1)).map (l1T (s,l)))=scells ((js.take k).map (l1T (s,l)))++[.string (bs (tmT (s,l)++spT j))]):=by
    unfold Hid scells
    rw [List.take_succ_eq_append_getElem hkl,List.map_append,List.map_append,hjk]
    rfl
   clear hg hjk hkl
   generalize bs (tmT (s,l)++spT j)=T at *
   have HB1:=Lib.hid (HB.out.alloc HB.out.size (.cells #[.int .i64 s,.int .i64 l,.int .i64 j] 31))
   have HX1:=Lib.hid (Blk.new wr 31 #[.int .i64 s,.int .i64 l,.int .i64 j])
   have HL1:=Lib.hid (own_below HL.out ((Below.refl _ _).alloc (Nat.le_refl _) (.cells #[.int .i64 s,.int .i64 l,.int .i64 j] 31)))
   have HW1:=Lib.hid (own_below HW.out ((Below.refl _ _).alloc (Nat.le_refl _) (.cells #[.int .i64 s,.int .i64 l,.int .i64 j] 31)))
   go_wp2_with fail
   refine (HX.out _).mono ?_
   rintro e w6 ⟨rfl,hb6⟩
   have HB3:=Lib.hid (HB1.out.trans (hb6.mono HB1.out.size))
   have HW3:=Lib.hid (own_below HW1.out hb6)
   have HL3:=Lib.hid (own_below HL1.out hb6)
   have hs3:=HB3.out.size
   clear hb6 HB1 HW1 HX1 HL1
   go_wp2_with (at_builtin;refine wpList_app1K _ rfl (.tmp 27) (.tmp 30) _ rfl w.heap.size 9 1 16 elStr A' c' k (scells ((js.take k).map (l1T (s,l)))) rfl (HW3.out.alloc _) w6.heap.size #[.string T] rfl (Blk.new w6 _ _) rfl ?h1 (by omega) (by omega) (by simp;omega) ?_)
   case h1=>simp [Value.oneCell']
   intro A2 c2 w7 hown7 hc7 hb7 hk7
   have HW7:=Lib.hid hown7
   have HB7:=Lib.hid ((HB3.out.alloc HB3.out.size (.cells #[.string T] 9)).trans hb7)
   have HL7:=Lib.hid (own_keepT (own_below HL3.out ((Below.refl _ _).alloc (Nat.le_refl _) (.cells #[.string T] 9))) hk7 (by decide))
   clear hown7 hb7 hk7 HL3 HB3 HW3
   go_wp2_with fail
   go_roundw
   case rel =>
    refine ⟨k+1,A2,c2,by omega,by go_num,rfl,hc7,?_,HL7.out,HB7.out⟩
    unfold Hid
    rw [HJ.out];simpa only [List.map_take] using HW7.out
   case measure=>simp [RowKit.intOf];omega
  ·obtain rfl:k=n:=by omega
   obtain ⟨g,cur,rfl,hg,hblk,hfl⟩:=own_blk2 HW.out (by omega)
   have htk:js.take k=js:=List.take_of_length_le (by rw [HN.out];exact Nat.le_refl _)
   have hjl:=HJL.out k (Nat.le_refl _)
   rw [htk] at hfl hjl
   have hmm:((js.map fun j=>bs (l1T (s,l) j)).map fun x:ByteArray=>x.data.toList)=js.map (l1T (s,l)):=by
    rw [List.map_map]
    congr 1
   have hln:(js.map fun j=>bs (l1T (s,l) j)).length=k:=by rw [List.length_map,HN.out]
   have hj:=Tryz.strings_Join g 0 c' (js.map fun j=>bs (l1T (s,l) j)) ⟨#[32]⟩ wr (fun i x hx=>by
    rw [Nat.zero_add,hblk.cell]
    refine hfl i _ ?_
    unfold scells
    rw [List.map_map]
    rw [List.getElem?_map] at hx ⊢
    cases hq:js[i]? with
    | none=>rw [hq] at hx;cases hx
    | some l=>rw [hq] at hx;cases hx;rfl) hblk.lt (by rw [hln];omega) (by rw [hln];exact hkc) (by rw [hmm];show (Lib.join _ [32]).length≤_;omega)
   rw [hmm,show (⟨#[32]⟩:ByteArray).data.toList=[32] from rfl,hln] at hj
   have HJ:=Lib.hid hj
   have HB9:=Lib.hid HB.out
   clear hj hjl hblk hfl htk hmm hln
   go_wp2_with fail
   refine HJ.out.mono ?_
   rintro e w1 ⟨rfl,hb1⟩
   have HB1:=Lib.hid (HB9.out.trans (hb1.mono HB9.out.size));clear hb1
   go_wp2_with fail
   go_ret2
   exact ⟨by rw [HLV.out];rfl,HB1.out⟩
end
end Go.Proofs.YtlgdndnaiogooaaGreatDoor
