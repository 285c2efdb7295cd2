/- Parts of the proof of : Wr. -/
import Derived.Test.YtjdfbnlaiiknpaaGreatDoorQ12
set_option maxHeartbeats 20000000
set_option maxRecDepth 1000000
set_option linter.unusedSimpArgs false
set_option linter.unusedVariables false
namespace Go.Proofs.YtjdfbnlaiiknpaaGreatDoor
section
open Go.RowKit Go.Lib
attribute [local go_sem ↓] Go.wp_at_zero Go.wp_at_succ
theorem u8_ne {x y:UInt8} (h:x≠y):(((x.toNat:Nat):Int)==((y.toNat:Nat):Int))=false:=by
 rw [beq_eq_false_iff_ne];intro e;exact h (UInt8.toNat_inj.1 (by omega))
theorem spl_pos (c:UInt8) (l:List UInt8):∃m,(spl c l).length=m+1:=by
 cases h:(spl c l).length with
 | zero =>
  exfalso
  cases l with
  | nil=>simp [spl] at h
  | cons x r =>
   unfold spl at h
   split at h
   ·simp at h
   ·split at h <;> simp at h
 | succ m=>exact ⟨m,rfl⟩
theorem spl_hit (c:UInt8):∀p:List UInt8,spl c (p++[c])=spl c p++[[]]:=by
 intro p
 induction p with
 | nil=>show (if c=c then _ else _)=_;rw [if_pos rfl];rfl
 | cons x r ih =>
  show (if x=c then _ else _)=(if x=c then _ else _)++_
  by_cases h:x=c
  ·rw [if_pos h,if_pos h];show [] :: spl c (r++[c])=_;rw [ih];rfl
  ·rw [if_neg h,if_neg h]
   show (match spl c (r++[c]) with | []=>_ | p :: ps=>_)=_
   rw [ih]
   cases hs:spl c r with
   | nil=>obtain ⟨m,hm⟩:=spl_pos c r;rw [hs] at hm;cases hm
   | cons q qs=>rfl
theorem spl_miss {c x:UInt8} (hx:x≠c):∀(p:List UInt8) (P:List (List UInt8)) (q:List UInt8),spl c p=P++[q]→spl c (p++[x])=P++[q++[x]]:=by
 intro p
 induction p with
 | nil =>
  intro P q h
  have h':P=[]∧q=[]:=by
   cases P with
   | nil=>simp [spl] at h;exact ⟨rfl,h⟩
   | cons a r=>simp [spl] at h
  obtain ⟨rfl,rfl⟩:=h'
  show (if x=c then _ else _)=_
  rw [if_neg hx];rfl
 | cons y r ih =>
  intro P q h
  change (if y=c then _ else _)=_ at h
  show (if y=c then _ else _)=_
  by_cases hy:y=c
  ·rw [if_pos hy] at h ⊢
   cases P with
   | nil =>
    obtain ⟨m,hm⟩:=spl_pos c r
    have h1:=congrArg List.length h
    simp [hm] at h1
   | cons a P' =>
    obtain ⟨h1,h2⟩:=List.cons.inj h
    subst h1
    show [] :: spl c (r++[x])=_
    rw [ih P' q h2];rfl
  ·rw [if_neg hy] at h ⊢
   show (match spl c (r++[x]) with | []=>_ | p :: ps=>_)=_
   cases hs:spl c r with
   | nil=>obtain ⟨m,hm⟩:=spl_pos c r;rw [hs] at hm;cases hm
   | cons a t =>
    rw [hs] at h
    change (y :: a) :: t=P++[q] at h
    cases P with
    | nil =>
     obtain ⟨h1,h2⟩:=List.cons.inj h
     subst h1;subst h2
     rw [ih [] a (by rw [hs];rfl)];rfl
    | cons b P' =>
     obtain ⟨h1,h2⟩:=List.cons.inj h
     subst h1
     rw [ih (a :: P') q (by rw [hs,h2];rfl)];rfl
theorem l11Words_any (l:List UInt8) (w:World) (hlen:l.length≤1048576) :
 Calls Tryz.prog 33 #[.string (bs l)] w fun en w'=>(∃(A:Option Addr) (c:Nat),en=.returned (.slice A (spl 32 l).length c)∧(spl 32 l).length≤c∧Reads w' w'.heap.size 1 A (spl 32 l).length (scells (spl 32 l)))∧Below w.heap.size w w':=by
 have HSZ:=Lib.hid (bs_size l)
 have HIX:=Lib.hid (idx_strk l)
 have HSL:Hid (∀(f k:Nat),f≤k→k≤l.length→∀W,(Instr.slice 9 (.string (bs l)) (some (.int .i64 (f:Int))) (some (.int .i64 (k:Int))) none).run Tryz.prog W=.ok (.string (bs ((l.take k).drop f))) W):=fun f k hf hk W=>by
  rw [run_slice_string_if (h:=Tryz.underlying9),if_pos ⟨by omega,by rw [bs_size];omega⟩,if_pos ⟨by omega,by omega⟩,Int.toNat_natCast,Int.toNat_natCast,bs_extract,List.drop_take]
 have HSE:Hid (∀(f:Nat),f≤l.length→∀W,(Instr.slice 9 (.string (bs l)) (some (.int .i64 (f:Int))) none none).run Tryz.prog W=.ok (.string (bs (l.drop f))) W):=fun f hf W=>by
  rw [run_slice_string_from_if (h:=Tryz.underlying9),if_pos ⟨by omega,by rw [bs_size];omega⟩,Int.toNat_natCast,bs_extract,bs_size,List.take_of_length_le (by rw [List.length_drop];exact Nat.le_refl _)]
 have HO1:=Lib.hid (own_empty w 9 1)
 have HB1:=Lib.hid ((Below.refl w.heap.size w).alloc (Nat.le_refl _) (.cells #[] 9))
 obtain ⟨L,hL⟩:∃L,bs l=L:=⟨_,rfl⟩
 rw [hL] at HSZ HIX HSL HSE ⊢
 clear hL
 obtain ⟨n,hn⟩:∃n,l.length=n:=⟨_,rfl⟩
 rw [hn] at hlen HSL HSE HSZ
 have hsz:L.size=n:=HSZ.out
 have HN:=Lib.hid hn;clear hn HSZ
 go_enter Tryz.func33,Tryz.ntmps33
 go_wp2_with fail
 go_loopw [3,4,5] (fun v fr i wr=>∃(k f m:Nat) (A:Option Addr) (c:Nat) (P:List (List UInt8)),k≤n∧f≤k∧m≤k∧i=.int .i64 k∧fr=.int .i64 f∧v=.slice A m c∧m≤c∧Hid (P.length=m)∧Hid (spl 32 (l.take k)=P++[(l.take k).drop f])∧Hid (wr.ownsRow w.heap.size 9 1 (.slice A m c) m (scells P))∧Hid (Below w.heap.size w wr)) (fun _ _ i _=>n+1-(RowKit.intOf i).toNat)
 case atStart=>exact ⟨0,0,0,_,_,[],Nat.zero_le _,Nat.le_refl _,Nat.le_refl _,rfl,rfl,rfl,Nat.le_refl _,rfl,rfl,HO1.out,HB1.out⟩
 case round =>
  clear HO1 HB1
  obtain ⟨k,f,m,A,c,P,hk,hf,hmk,rfl,rfl,rfl,hmc,HP,HS,HW,HB⟩:=hrel
  by_cases hlt:k<n
  ·obtain ⟨y,hy⟩:∃y,l[k]?=some y:=⟨l[k]'(by have:=HN.out;omega),List.getElem?_eq_getElem _⟩
   have hidx:=HIX.out k y hy
   have i1:(k:Int)<(n:Int):=by omega
   have htk:l.take (k+1)=l.take k++[y]:=by rw [List.take_add_one,hy];rfl
   have htl:(l.take k).length=k:=by rw [List.length_take,HN.out];omega
   by_cases hy10:y=32
   ·subst hy10
    have e1:(((32:UInt8).toNat:Int)==32)=true:=rfl
    generalize (((32:UInt8).toNat:Nat):Int)=xi at *
    have hsl:=HSL.out f k hf hk
    have HS2:Hid (spl 32 (l.take (k+1))=(P++[(l.take k).drop f])++[(l.take (k+1)).drop (k+1)]):=by
     have hd:(l.take (k+1)).drop (k+1)=[]:=List.drop_eq_nil_of_le (by rw [List.length_take];omega)
     unfold Hid
     rw [hd,htk,spl_hit,HS.out]
    have HP2:Hid ((P++[(l.take k).drop f]).length=m+1):=by unfold Hid;rw [List.length_append,HP.out];rfl
    clear htk htl
    have HSC:Hid (scells (P++[(l.take k).drop f])=scells P++[.string (bs ((l.take k).drop f))]):=by unfold Hid scells;simp
    generalize P++[(l.take k).drop f]=P2 at *
    generalize bs ((l.take k).drop f)=S at *
    have hbs:=HB.out.size
    go_wp2_with (at_builtin;refine wpList_app1b _ rfl (.tmp 17) (.tmp 22) _ rfl w.heap.size 9 1 16 elStr A c m (scells P) rfl (HW.out.alloc _) wr.heap.size #[.string S] rfl (Blk.new wr _ _) rfl ?h1 (by omega) (by omega) (by simp;omega) ?_)
    case h1=>simp [Value.oneCell']
    intro A' c' w6 hown6 hc6 hb6
    have HW6:Hid (w6.ownsRow w.heap.size 9 1 (.slice A' (m+1) c') (m+1) (scells P2)):=by unfold Hid;rw [HSC.out];exact hown6
    have HB6:=Lib.hid ((HB.out.alloc HB.out.size (.cells #[.string S] 9)).trans hb6)
    clear hown6 hb6
    go_wp2_with fail
    go_roundw
    case rel=>exact ⟨k+1,k+1,m+1,A',c',P2,by omega,by omega,by omega,by go_num,by go_num,rfl,hc6,HP2.out,HS2.out,HW6.out,HB6.out⟩
    case measure=>simp [RowKit.intOf];omega
   ·have e1:((y.toNat:Int)==32)=false:=u8_ne hy10
    have HS2:Hid (spl 32 (l.take (k+1))=P++[(l.take (k+1)).drop f]):=by
     unfold Hid
     rw [htk,spl_miss hy10 _ _ _ HS.out,List.drop_append_of_le_length (by omega)]
    clear htk htl
    generalize ((y.toNat:Nat):Int)=xi at *
    go_wp2_with fail
    go_roundw
    case rel=>exact ⟨k+1,f,m,A,c,P,by omega,by omega,by omega,by go_num,rfl,rfl,hmc,HP.out,HS2.out,HW.out,HB.out⟩
    case measure=>simp [RowKit.intOf];omega
  ·obtain rfl:k=n:=by omega
   have hse:=HSE.out f hf
   have htk:l.take k=l:=List.take_of_length_le (by rw [HN.out];exact Nat.le_refl _)
   rw [htk] at HS
   have HLEN:Hid ((spl 32 l).length=m+1):=by unfold Hid;rw [HS.out,List.length_append,HP.out];rfl
   have HSC:Hid (scells (spl 32 l)=scells P++[.string (bs (l.drop f))]):=by unfold Hid scells;rw [HS.out];simp
   clear htk
   generalize bs (l.drop f)=S at *
   have hbs:=HB.out.size
   go_wp2_with (at_builtin;refine wpList_app1b _ rfl (.tmp 26) (.tmp 30) _ rfl w.heap.size 9 1 16 elStr A c m (scells P) rfl (HW.out.alloc _) wr.heap.size #[.string S] rfl (Blk.new wr _ _) rfl ?h1 (by omega) (by omega) (by simp;omega) ?_)
   case h1=>simp [Value.oneCell']
   intro A' c' w6 hown6 hc6 hb6
   have HW6:Hid (w6.ownsRow w.heap.size 9 1 (.slice A' (m+1) c') (m+1) (scells (spl 32 l))):=by unfold Hid;rw [HSC.out];exact hown6
   have HB6:=Lib.hid ((HB.out.alloc HB.out.size (.cells #[.string S] 9)).trans hb6)
   clear hown6 hb6
   go_wp2_with fail
   go_ret
   rw [HLEN.out]
   exact ⟨⟨A',c',rfl,hc6,own_reads HW6.out⟩,HB6.out⟩
def dgf (l:List UInt8):Int:=if (1≤l.length∧l.length≤10)∧∀c∈l,48≤c.toNat∧c.toNat≤57 then ((dval l:Nat):Int) else -1
theorem l1Digits_any (l:List UInt8) (w:World) (hlen:l.length≤1048576) :
 Calls Tryz.prog 151 #[.string (bs l)] w fun en w'=>en=.returned (.int .i64 (dgf l))∧w'=w:=by
 have HSZ:=Lib.hid (bs_size l)
 have HIX:=Lib.hid (idx_strk l)
 have HIN:=Lib.hid (fun W=>l6In_any (l.length:Int) 1 10 W)
 obtain ⟨L,hL⟩:∃L,bs l=L:=⟨_,rfl⟩
 rw [hL] at HSZ HIX ⊢
 clear hL
 obtain ⟨n,hn⟩:∃n,l.length=n:=⟨_,rfl⟩
 rw [hn] at hlen HSZ HIN
 have hsz:L.size=n:=HSZ.out
 have HN:=Lib.hid hn;clear hn HSZ
 by_cases h10:1≤n∧n≤10
 ·have hi:inB (n:Int) 1 10=true:=inB_iff.2 (by omega)
  rw [hi] at HIN;clear hi
  go_enter Tryz.func151,Tryz.ntmps151
  go_wp2_with fail
  refine (HIN.out _).mono ?_
  rintro en w1 ⟨rfl,rfl⟩
  go_wp2_with fail
  go_loop [3,4] (fun v i=>∃k:Nat,k≤n∧i=.int .i64 k∧v=.int .i64 (dval (l.take k):Nat)∧Hid (∀c∈l.take k,48≤c.toNat∧c.toNat≤57)) (fun _ i=>n+1-(RowKit.intOf i).toNat)
  case atStart=>exact ⟨0,Nat.zero_le _,rfl,rfl,fun c hc=>by simp at hc⟩
  case round =>
   obtain ⟨k,hk,rfl,rfl,HD⟩:=hrel
   by_cases hlt:k<n
   ·obtain ⟨y,hy⟩:∃y,l[k]?=some y:=⟨l[k]'(by have:=HN.out;omega),List.getElem?_eq_getElem _⟩
    have hidx:=HIX.out k y hy
    have i1:(k:Int)<(n:Int):=by omega
    have htk:l.take (k+1)=l.take k++[y]:=by rw [List.take_add_one,hy];rfl
    have hvb:dval (l.take k)≤10000000000:=by
     have h1:=dval_le (l.take k) (fun z hz=>(HD.out z hz).2)
     have h2:(l.take k).length≤9:=by have:=List.length_take_le k l;omega
     have h3:=Nat.pow_le_pow_right (show 0<10 by omega) h2
     omega
    have HBAD:Hid (¬(48≤y.toNat∧y.toNat≤57)→dgf l=-1):=fun hbad=>if_neg fun h=>hbad (h.2 y (List.mem_of_getElem? hy))
    by_cases h48:y.toNat<48
    ·have hb:=HBAD.out (by omega)
     have HM:=Lib.hid hb
     clear hb htk hvb hy
     obtain ⟨yn,hyn⟩:∃yn,y.toNat=yn:=⟨_,rfl⟩
     rw [hyn] at hidx h48
     clear hyn
     go_wp2_with fail
     go_ret
     exact ⟨ret_int HM.out.symm,rfl⟩
    by_cases h57:57<y.toNat
    ·have hb:=HBAD.out (by omega)
     have HM:=Lib.hid hb
     clear hb htk hvb hy
     obtain ⟨yn,hyn⟩:∃yn,y.toNat=yn:=⟨_,rfl⟩
     rw [hyn] at hidx h48 h57
     clear hyn
     go_wp2_with fail
     go_ret
     exact ⟨ret_int HM.out.symm,rfl⟩
    have HD2:Hid (∀c∈l.take (k+1),48≤c.toNat∧c.toNat≤57):=fun c hc=>by
     rw [htk,List.mem_append,List.mem_singleton] at hc
     rcases hc with hc | rfl
     ·exact HD.out c hc
     ·omega
    have HTK:Hid (dval (l.take (k+1))=dval (l.take k)*10+(y.toNat-48)):=by
     unfold Hid;rw [htk,←dval_snoc]
    clear htk hy HBAD
    generalize dval (l.take k)=v at *
    obtain ⟨yn,hyn⟩:∃yn,y.toNat=yn:=⟨_,rfl⟩
    rw [hyn] at hidx h48 h57 HTK
    clear hyn
    go_wp2_with fail
    go_round
    case rel=>exact ⟨k+1,by omega,by go_num,by rw [HTK.out];exact congrArg (Value.int .i64) (by omega),HD2.out⟩
    case measure=>simp [RowKit.intOf];omega
   ·obtain rfl:k=n:=by omega
    have HV:Hid (dval (l.take k)=dval l):=by unfold Hid;rw [List.take_of_length_le (by rw [HN.out];exact Nat.le_refl _)]
    rw [HV.out]
    rw [List.take_of_length_le (by rw [HN.out];exact Nat.le_refl _)] at HD
    have HG:Hid (dgf l=((dval l:Nat):Int)):=if_pos ⟨by rw [HN.out];exact h10,HD.out⟩
    go_wp2_with fail
    go_ret
    exact ⟨ret_int HG.out.symm,rfl⟩
 ·have hi:inB (n:Int) 1 10=false:=by
   cases h:inB (n:Int) 1 10
   ·rfl
   ·have:=inB_iff.1 h;omega
  rw [hi] at HIN;clear hi
  go_enter Tryz.func151,Tryz.ntmps151
  go_wp2_with fail
  refine (HIN.out _).mono ?_
  rintro en w1 ⟨rfl,rfl⟩
  go_wp2_with fail
  go_ret
  have HG:dgf l=-1:=if_neg fun h=>h10 (by have:=h.1;rwa [HN.out] at this)
  exact ⟨ret_int HG.symm,rfl⟩
theorem dgf_bd {q:List UInt8} (h3:q.length≤3):-1≤dgf q∧dgf q≤999:=by
 unfold dgf
 split
 ·rename_i h
  have h1:=dval_le q (fun c hc=>(h.2 c hc).2)
  have h2:=Nat.pow_le_pow_right (show 0<10 by omega) h3
  omega
 ·omega
theorem numB_dgf (s:List UInt8):numB s=(decide ((dgs s).length≤3) && decide (0≤dgf (dgs s))):=by
 unfold numB dgf
 rw [Bool.eq_iff_iff]
 simp only [Bool.and_eq_true,decide_eq_true_eq,List.all_eq_true]
 constructor
 ·intro ⟨⟨h1,h2⟩,h3⟩
  refine ⟨h2,?_⟩
  rw [if_pos ⟨⟨h1,by omega⟩,fun c hc=>by have:=h3 c hc;unfold isD at this;simpa using this⟩]
  omega
 ·intro ⟨h1,h2⟩
  split at h2
  ·rename_i h
   exact ⟨⟨h.1.1,h1⟩,fun c hc=>by have:=h.2 c hc;unfold isD;simpa using this⟩
  ·omega
theorem numOf_dgf (s:List UInt8):numOf s=if (dgs s).length≤3∧0≤dgf (dgs s) then (if dgs s=s then dgf (dgs s) else -(dgf (dgs s))) else 999:=by
 unfold numOf
 rw [numB_dgf]
 by_cases h:(dgs s).length≤3∧0≤dgf (dgs s)
 ·rw [if_pos h,if_pos (by simp [h.1,h.2])]
  have hd:dgf (dgs s)=((dval (dgs s):Nat):Int):=by
   have:=h.2
   unfold dgf at this ⊢
   split
   ·rfl
   ·rename_i hn;rw [if_neg hn] at this;omega
  rw [hd]
 ·rw [if_neg h,if_neg (by simpa using h)]
theorem l51Number_any (s:List UInt8) (w:World) (hl:s.length≤1000) :
 Calls Tryz.prog 95 #[.string (bs s)] w fun e w'=>e=.returned (.int .i64 (numOf s))∧w'=w:=by
 have HNO:=Lib.hid (numOf_dgf s)
 have HD:=Lib.hid (fun (q:List UInt8) (hq:q.length≤1000) W=>l1Digits_any q W (by omega))
 rw [HNO.out]
 rcases s with _ | ⟨c,r⟩
 ·have hd:dgf []=-1:=by unfold dgf;rw [if_neg (by simp)]
  have hc:=HD.out [] (by simp)
  rw [hd] at hc
  rw [show dgs []=[] from rfl,hd,if_neg (by simp)]
  have HC:=Lib.hid hc
  clear hd hc HD HNO hl
  rw [bs_nil] at *
  go_enter Tryz.func95,Tryz.ntmps95
  go_wp2_with fail
  refine (HC.out _).mono ?_
  rintro e w1 ⟨rfl,rfl⟩
  go_wp2_with fail
  go_ret
  exact ⟨rfl,rfl⟩
 ·have hix:∀W:World,(Instr.index 9 (.string (bs (c :: r))) (.int .i64 0)).run Tryz.prog W=.ok (.int .u8 (c.toNat:Int)) W:=fun W=>idx_strk (c :: r) 0 c rfl W
  have hsz:(bs (c :: r)).size=r.length+1:=by rw [bs_size];rfl
  have hcl:(c :: r).length=r.length+1:=rfl
  by_cases h45:c=45
  ·subst h45
   have hdg:dgs ((45:UInt8) :: r)=r:=rfl
   have hsl:∀W:World,(Instr.slice 9 (.string (bs ((45:UInt8) :: r))) (some (.int .i64 1)) none none).run Tryz.prog W=.ok (.string (bs r)) W:=fun W=>sl_tail ((45:UInt8) :: r) 1 (by simp) W
   rw [hdg,if_neg (show ¬r=(45:UInt8) :: r from fun h=>by have:=congrArg List.length h;simp at this)]
   have HC:=Lib.hid (HD.out r (by rw [hcl] at hl;omega))
   have hrs:(bs r).size=r.length:=bs_size r
   have e1:(((45:UInt8).toNat:Int)==45)=true:=rfl
   have hbd:=@dgf_bd r
   generalize (((45:UInt8).toNat:Nat):Int)=C at *
   generalize dgf r=D at *
   obtain ⟨m,hm⟩:∃m,r.length=m:=⟨_,rfl⟩
   rw [hm] at hsz hrs hcl hbd ⊢
   rw [hcl] at hl
   clear HNO HD hdg hm hcl
   generalize bs ((45:UInt8) :: r)=X at *
   generalize bs r=Y at *
   have hpos:0<X.size:=by omega
   by_cases h3:m≤3
   ·have hb:=hbd h3
    have g3:¬(3<Y.size):=by omega
    by_cases hD:0≤D
    ·rw [if_pos ⟨h3,hD⟩]
     have g4:¬(D<0):=by omega
     go_enter Tryz.func95,Tryz.ntmps95
     go_wp2_with fail
     refine (HC.out _).mono ?_
     rintro e w1 ⟨rfl,rfl⟩
     go_wp2_with fail
     refine (HC.out _).mono ?_
     rintro e w1 ⟨rfl,rfl⟩
     go_wp2_with fail
     go_ret
     exact ⟨ret_int (by omega),rfl⟩
    ·rw [if_neg (fun h=>hD h.2)]
     have g4:D<0:=by omega
     go_enter Tryz.func95,Tryz.ntmps95
     go_wp2_with fail
     refine (HC.out _).mono ?_
     rintro e w1 ⟨rfl,rfl⟩
     go_wp2_with fail
     go_ret
     exact ⟨rfl,rfl⟩
   ·rw [if_neg (fun h=>h3 h.1)]
    have g3:3<Y.size:=by omega
    go_enter Tryz.func95,Tryz.ntmps95
    go_wp2_with fail
    go_ret
    exact ⟨rfl,rfl⟩
  ·have hdg:dgs (c :: r)=c :: r:=by show (if c=45 then r else c :: r)=_;rw [if_neg h45]
   rw [hdg,if_pos rfl]
   have HC:=Lib.hid (HD.out (c :: r) hl)
   have e1:((c.toNat:Int)==45)=false:=u8_ne h45
   have hbd:=@dgf_bd (c :: r)
   generalize ((c.toNat:Nat):Int)=C at *
   generalize dgf (c :: r)=D at *
   rw [hcl] at hbd hl ⊢
   obtain ⟨m,hm⟩:∃m,r.length=m:=⟨_,rfl⟩
   rw [hm] at hsz hbd hl ⊢
   clear HNO HD hdg hm hcl
   generalize bs (c :: r)=X at *
   have hpos:0<X.size:=by omega
   by_cases h3:m+1≤3
   ·have hb:=hbd h3
    have g3:¬(3<X.size):=by omega
    by_cases hD:0≤D
    ·rw [if_pos ⟨h3,hD⟩]
     have g4:¬(D<0):=by omega
     go_enter Tryz.func95,Tryz.ntmps95
     go_wp2_with fail
     refine (HC.out _).mono ?_
     rintro e w1 ⟨rfl,rfl⟩
     go_wp2_with fail
     refine (HC.out _).mono ?_
     rintro e w1 ⟨rfl,rfl⟩
     go_wp2_with fail
     go_ret
     exact ⟨ret_int (by omega),rfl⟩
    ·rw [if_neg (fun h=>hD h.2)]
     have g4:D<0:=by omega
     go_enter Tryz.func95,Tryz.ntmps95
     go_wp2_with fail
     refine (HC.out _).mono ?_
     rintro e w1 ⟨rfl,rfl⟩
     go_wp2_with fail
     go_ret
     exact ⟨rfl,rfl⟩
   ·rw [if_neg (fun h=>h3 h.1)]
    have g3:3<X.size:=by omega
    go_enter Tryz.func95,Tryz.ntmps95
    go_wp2_with fail
    go_ret
    exact ⟨rfl,rfl⟩
end
end Go.Proofs.YtjdfbnlaiiknpaaGreatDoor
