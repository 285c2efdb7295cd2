/- Parts of the proof of : Wd. -/
import Derived.Test.YtammfhheibaeaaaGreatDoorQ21
set_option maxHeartbeats 20000000
set_option maxRecDepth 1000000
set_option linter.unusedSimpArgs false
set_option linter.unusedVariables false
namespace Go.Proofs.YtammfhheibaeaaaGreatDoor
section
open Go.RowKit Go.Lib
attribute [local go_sem ↓] Go.wp_at_zero Go.wp_at_succ
theorem wpList_app1b {P:Program} (w:World) {ops:Array Oper} {rest:List Oper} {o:Oper} {a:Act} {Q:Exit→Act→World→Prop} (hgd:o.guard=none) (s x:Operand) (t:TypeId)
 (ho:o.op=.call { callee:=.builtin .append,args:=#[s,x],argTypes:=#[t,t] })
 (base:Nat) (e:TypeId) (size bytes:Nat) (hE:ElemOk P t e size bytes)
 (A:Option Addr) (c n:Nat) (xs:List Value) (hs:a.eval s=.slice A n c) (hown:w.ownsRow base e size (.slice A n c) n xs)
 (L:Nat) (cs:Array Value) (hx:a.eval x=.slice (some ⟨L,0,none⟩) 1 1) (hL:Blk w L e cs) (hcs:cs.size=size) (h1:∀u∈cs.toList,u.oneCell'=true)
 (hn:n≤2000000) (hby:bytes≤1000) (hbase:base≤w.heap.size)
 (h:∀A' c' w',w'.ownsRow base e size (.slice A' (n+1) c') (n+1) (xs++cs.toList)→n+1≤c'→Below base w w'→wpList P ops Q rest (a.put o.dst (.slice A' (n+1) c')) w'):wpList P ops Q (o :: rest) a w:=by
 obtain ⟨ht,i,z,hi,hz,hsize,hbytes,hzs,hsz⟩:=hE
 refine wpList_append_own w hgd s x t ho base e i z size bytes ht hi hz hsize hbytes hzs hsz _ n xs hs hown ⟨L,0,none⟩ 1 1 cs.toList hx (by simp [hcs]) ?_ h1 (by unfold maxLen;omega) ?_ hbase ?_
 ·intro j u hj
  have:(⟨L,0,none⟩:Addr).add j=⟨L,j,none⟩:=by unfold Addr.add;split <;> simp_all
  rw [this,hL.cell]
  simpa using hj
 ·calc (n+1)*bytes≤2000001*1000:=Nat.mul_le_mul (by omega) hby
   _≤_:=by omega
 ·intro v' w' hown' hg _
  obtain ⟨A',c',rfl,hc'⟩:=own_form hown'
  refine h A' c' w' hown' hc' ?_
  exact (Below.refl base w).grown hg hbase (fun k hk=>(hown.lt k hk).1)
theorem idx_strk (l:List UInt8) (k:Nat) (x:UInt8) (hx:l[k]?=some x) (W:World):(Instr.index 9 (.string (bs l)) (.int .i64 (k:Int))).run Tryz.prog W=.ok (.int .u8 (x.toNat:Int)) W:=by
 have hj:k<l.length:=by
  rcases Nat.lt_or_ge k l.length with h1 | h1
  ·exact h1
  ·rw [List.getElem?_eq_none h1] at hx;cases hx
 rw [run_index_string (h:=Tryz.underlying9),dif_pos ⟨by omega,by rw [bs_size];omega⟩]
 have:(bs l)[k]'(by rw [bs_size];exact hj)=x:=by
  rw [List.getElem?_eq_getElem hj] at hx
  injection hx
 simp only [Int.toNat_natCast]
 rw [this]
theorem u8_ne {x y:UInt8} (h:x≠y):(((x.toNat:Nat):Int)==((y.toNat:Nat):Int))=false:=by
 rw [beq_eq_false_iff_ne];intro e;exact h (UInt8.toNat_inj.1 (by omega))
theorem elStr:ElemOk Tryz.prog 49 9 1 16:=elemOk Tryz.underlying49 (z:=.string ⟨#[]⟩) (by kernel_rfl) rfl (by omega)
def scells (ls:List (List UInt8)):List Value:=ls.map fun l=>.string (bs l)
theorem bs_extract (l:List UInt8) (a b:Nat):(bs l).extract a b=bs ((l.drop a).take (b-a)):=by
 apply ByteArray.ext
 simp [bs,ByteArray.data_extract]
theorem spl_hit (c:UInt8):∀p:List UInt8,spl c (p++[c])=spl c p++[[]]:=by
 intro p
 induction p with
 | nil=>show (if c=c then _ else _)=_;rw [if_pos rfl];rfl
 | cons x r ih =>
  show (if x=c then _ else _)=(if x=c then _ else _)++_
  by_cases h:x=c
  ·rw [if_pos h,if_pos h];show [] :: spl c (r++[c])=_;rw [ih];rfl
  ·rw [if_neg h,if_neg h]
   show (match spl c (r++[c]) with | []=>_ | p :: ps=>_)=_
   rw [ih]
   cases hs:spl c r with
   | nil=>obtain ⟨m,hm⟩:=spl_pos c r;rw [hs] at hm;cases hm
   | cons q qs=>rfl
theorem spl_miss {c x:UInt8} (hx:x≠c):∀(p:List UInt8) (P:List (List UInt8)) (q:List UInt8),spl c p=P++[q]→spl c (p++[x])=P++[q++[x]]:=by
 intro p
 induction p with
 | nil =>
  intro P q h
  have h':P=[]∧q=[]:=by
   cases P with
   | nil=>simp [spl] at h;exact ⟨rfl,h⟩
   | cons a r=>simp [spl] at h
  obtain ⟨rfl,rfl⟩:=h'
  show (if x=c then _ else _)=_
  rw [if_neg hx];rfl
 | cons y r ih =>
  intro P q h
  change (if y=c then _ else _)=_ at h
  show (if y=c then _ else _)=_
  by_cases hy:y=c
  ·rw [if_pos hy] at h ⊢
   cases P with
   | nil =>
    obtain ⟨m,hm⟩:=spl_pos c r
    have h1:=congrArg List.length h
    simp [hm] at h1
   | cons a P' =>
    obtain ⟨h1,h2⟩:=List.cons.inj h
    subst h1
    show [] :: spl c (r++[x])=_
    rw [ih P' q h2];rfl
  ·rw [if_neg hy] at h ⊢
   show (match spl c (r++[x]) with | []=>_ | p :: ps=>_)=_
   cases hs:spl c r with
   | nil=>obtain ⟨m,hm⟩:=spl_pos c r;rw [hs] at hm;cases hm
   | cons a t =>
    rw [hs] at h
    change (y :: a) :: t=P++[q] at h
    cases P with
    | nil =>
     obtain ⟨h1,h2⟩:=List.cons.inj h
     subst h1;subst h2
     rw [ih [] a (by rw [hs];rfl)];rfl
    | cons b P' =>
     obtain ⟨h1,h2⟩:=List.cons.inj h
     subst h1
     rw [ih (a :: P') q (by rw [hs,h2];rfl)];rfl
theorem l11Words_any (l:List UInt8) (w:World) (hlen:l.length≤1048576) :
 Calls Tryz.prog 27 #[.string (bs l)] w fun en w'=>(∃(A:Option Addr) (c:Nat),en=.returned (.slice A (spl 32 l).length c)∧(spl 32 l).length≤c∧Reads w' w'.heap.size 1 A (spl 32 l).length (scells (spl 32 l)))∧Below w.heap.size w w':=by
 have HSZ:=Lib.hid (bs_size l)
 have HIX:=Lib.hid (idx_strk l)
 have HSL:Hid (∀(f k:Nat),f≤k→k≤l.length→∀W,(Instr.slice 9 (.string (bs l)) (some (.int .i64 (f:Int))) (some (.int .i64 (k:Int))) none).run Tryz.prog W=.ok (.string (bs ((l.take k).drop f))) W):=fun f k hf hk W=>by
  rw [run_slice_string_if (h:=Tryz.underlying9),if_pos ⟨by omega,by rw [bs_size];omega⟩,if_pos ⟨by omega,by omega⟩,Int.toNat_natCast,Int.toNat_natCast,bs_extract,List.drop_take]
 have HSE:Hid (∀(f:Nat),f≤l.length→∀W,(Instr.slice 9 (.string (bs l)) (some (.int .i64 (f:Int))) none none).run Tryz.prog W=.ok (.string (bs (l.drop f))) W):=fun f hf W=>by
  rw [run_slice_string_from_if (h:=Tryz.underlying9),if_pos ⟨by omega,by rw [bs_size];omega⟩,Int.toNat_natCast,bs_extract,bs_size,List.take_of_length_le (by rw [List.length_drop];exact Nat.le_refl _)]
 have HO1:=Lib.hid (own_empty w 9 1)
 have HB1:=Lib.hid ((Below.refl w.heap.size w).alloc (Nat.le_refl _) (.cells #[] 9))
 obtain ⟨L,hL⟩:∃L,bs l=L:=⟨_,rfl⟩
 rw [hL] at HSZ HIX HSL HSE ⊢
 clear hL
 obtain ⟨n,hn⟩:∃n,l.length=n:=⟨_,rfl⟩
 rw [hn] at hlen HSL HSE HSZ
 have hsz:L.size=n:=HSZ.out
 have HN:=Lib.hid hn;clear hn HSZ
 go_enter Tryz.func27,Tryz.ntmps27
 go_wp2_with fail
 go_loopw [3,4,5] (fun v fr i wr=>∃(k f m:Nat) (A:Option Addr) (c:Nat) (P:List (List UInt8)),k≤n∧f≤k∧m≤k∧i=.int .i64 k∧fr=.int .i64 f∧v=.slice A m c∧m≤c∧Hid (P.length=m)∧Hid (spl 32 (l.take k)=P++[(l.take k).drop f])∧Hid (wr.ownsRow w.heap.size 9 1 (.slice A m c) m (scells P))∧Hid (Below w.heap.size w wr)) (fun _ _ i _=>n+1-(RowKit.intOf i).toNat)
 case atStart=>exact ⟨0,0,0,_,_,[],Nat.zero_le _,Nat.le_refl _,Nat.le_refl _,rfl,rfl,rfl,Nat.le_refl _,rfl,rfl,HO1.out,HB1.out⟩
 case round =>
  clear HO1 HB1
  obtain ⟨k,f,m,A,c,P,hk,hf,hmk,rfl,rfl,rfl,hmc,HP,HS,HW,HB⟩:=hrel
  by_cases hlt:k<n
  ·obtain ⟨y,hy⟩:∃y,l[k]?=some y:=⟨l[k]'(by have:=HN.out;omega),List.getElem?_eq_getElem _⟩
   have hidx:=HIX.out k y hy
   have i1:(k:Int)<(n:Int):=by omega
   have htk:l.take (k+1)=l.take k++[y]:=by rw [List.take_add_one,hy];rfl
   have htl:(l.take k).length=k:=by rw [List.length_take,HN.out];omega
   by_cases hy10:y=32
   ·subst hy10
    have e1:(((32:UInt8).toNat:Int)==32)=true:=rfl
    generalize (((32:UInt8).toNat:Nat):Int)=xi at *
    have hsl:=HSL.out f k hf hk
    have HS2:Hid (spl 32 (l.take (k+1))=(P++[(l.take k).drop f])++[(l.take (k+1)).drop (k+1)]):=by
     have hd:(l.take (k+1)).drop (k+1)=[]:=List.drop_eq_nil_of_le (by rw [List.length_take];omega)
     unfold Hid
     rw [hd,htk,spl_hit,HS.out]
    have HP2:Hid ((P++[(l.take k).drop f]).length=m+1):=by unfold Hid;rw [List.length_append,HP.out];rfl
    clear htk htl
    have HSC:Hid (scells (P++[(l.take k).drop f])=scells P++[.string (bs ((l.take k).drop f))]):=by unfold Hid scells;simp
    generalize P++[(l.take k).drop f]=P2 at *
    generalize bs ((l.take k).drop f)=S at *
    have hbs:=HB.out.size
    go_wp2_with (at_builtin;refine wpList_app1b _ rfl (.tmp 17) (.tmp 22) _ rfl w.heap.size 9 1 16 elStr A c m (scells P) rfl (HW.out.alloc _) wr.heap.size #[.string S] rfl (Blk.new wr _ _) rfl ?h1 (by omega) (by omega) (by simp;omega) ?_)
    case h1=>simp [Value.oneCell']
    intro A' c' w6 hown6 hc6 hb6
    have HW6:Hid (w6.ownsRow w.heap.size 9 1 (.slice A' (m+1) c') (m+1) (scells P2)):=by unfold Hid;rw [HSC.out];exact hown6
    have HB6:=Lib.hid ((HB.out.alloc HB.out.size (.cells #[.string S] 9)).trans hb6)
    clear hown6 hb6
    go_wp2_with fail
    go_roundw
    case rel=>exact ⟨k+1,k+1,m+1,A',c',P2,by omega,by omega,by omega,by go_num,by go_num,rfl,hc6,HP2.out,HS2.out,HW6.out,HB6.out⟩
    case measure=>simp [RowKit.intOf];omega
   ·have e1:((y.toNat:Int)==32)=false:=u8_ne hy10
    have HS2:Hid (spl 32 (l.take (k+1))=P++[(l.take (k+1)).drop f]):=by
     unfold Hid
     rw [htk,spl_miss hy10 _ _ _ HS.out,List.drop_append_of_le_length (by omega)]
    clear htk htl
    generalize ((y.toNat:Nat):Int)=xi at *
    go_wp2_with fail
    go_roundw
    case rel=>exact ⟨k+1,f,m,A,c,P,by omega,by omega,by omega,by go_num,rfl,rfl,hmc,HP.out,HS2.out,HW.out,HB.out⟩
    case measure=>simp [RowKit.intOf];omega
  ·obtain rfl:k=n:=by omega
   have hse:=HSE.out f hf
   have htk:l.take k=l:=List.take_of_length_le (by rw [HN.out];exact Nat.le_refl _)
   rw [htk] at HS
   have HLEN:Hid ((spl 32 l).length=m+1):=by unfold Hid;rw [HS.out,List.length_append,HP.out];rfl
   have HSC:Hid (scells (spl 32 l)=scells P++[.string (bs (l.drop f))]):=by unfold Hid scells;rw [HS.out];simp
   clear htk
   generalize bs (l.drop f)=S at *
   have hbs:=HB.out.size
   go_wp2_with (at_builtin;refine wpList_app1b _ rfl (.tmp 26) (.tmp 30) _ rfl w.heap.size 9 1 16 elStr A c m (scells P) rfl (HW.out.alloc _) wr.heap.size #[.string S] rfl (Blk.new wr _ _) rfl ?h1 (by omega) (by omega) (by simp;omega) ?_)
   case h1=>simp [Value.oneCell']
   intro A' c' w6 hown6 hc6 hb6
   have HW6:Hid (w6.ownsRow w.heap.size 9 1 (.slice A' (m+1) c') (m+1) (scells (spl 32 l))):=by unfold Hid;rw [HSC.out];exact hown6
   have HB6:=Lib.hid ((HB.out.alloc HB.out.size (.cells #[.string S] 9)).trans hb6)
   clear hown6 hb6
   go_wp2_with fail
   go_ret
   rw [HLEN.out]
   exact ⟨⟨A',c',rfl,hc6,own_reads HW6.out⟩,HB6.out⟩
end
end Go.Proofs.YtammfhheibaeaaaGreatDoor
