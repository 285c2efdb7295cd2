/- Parts of the proof of : Words. -/
import Derived.Deep.AppendLies
import Derived.Deep.Draws
import Derived.Lib.Hide
import Derived.Laws.BitsAllLaws
import Derived.IntWalk
import Derived.OwnWalk
set_option maxHeartbeats 20000000
set_option maxRecDepth 1000000
set_option linter.unusedSimpArgs false
set_option linter.unusedVariables false
namespace Go.Proofs.YtlgdndnaiogooaaGreatDoor
section
open Go.RowKit
def Reads (w:World) (B size:Nat) (A:Option Addr) (n:Nat) (xs:List Value):Prop :=
 xs.length=n*size∧(0<n→∃b off,A=some ⟨b,off,none⟩∧b<B∧∀j u,xs[j]?=some u→w.cell? ⟨b,off+j,none⟩=some u)
section
variable {w w' : World} {B B' size n : Nat} {A : Option Addr} {xs : List Value}
theorem Reads.none_:Reads w B size A 0 []:=⟨by simp,fun h=>absurd h (by omega)⟩
theorem Reads.keep (h:Reads w B size A n xs) (hk:∀p:Addr,p.block<B→w'.cell? p=w.cell? p):Reads w' B size A n xs :=
 ⟨h.1,fun hn=>by
  obtain ⟨b,off,e,hb,hc⟩:=h.2 hn
  exact ⟨b,off,e,hb,fun j u hu=>(hk _ hb).trans (hc j u hu)⟩⟩
theorem Reads.more (h:Reads w B size A n xs) (hB:B≤B'):Reads w B' size A n xs :=
 ⟨h.1,fun hn=>by
  obtain ⟨b,off,e,hb,hc⟩:=h.2 hn
  exact ⟨b,off,e,by omega,hc⟩⟩
theorem Reads.drew (h:Reads w B size A n xs):Reads w.drew B size A n xs:=h
theorem Reads.take {k:Nat} (h:Reads w B size A n xs) (hk:k≤n):Reads w B size A k (xs.take (k*size)):=by
 refine ⟨by rw [List.length_take,h.1];have:=Nat.mul_le_mul_right size hk;omega,fun hn=>?_⟩
 obtain ⟨b,off,rfl,hb,hcell⟩:=h.2 (by omega)
 refine ⟨b,off,rfl,hb,fun j u hu=>hcell j u ?_⟩
 rw [List.getElem?_take] at hu
 split at hu <;> simp_all
theorem Reads.below (h:Reads w B size A n xs) (hb:Below B w w'):Reads w' B size A n xs:=h.keep fun _ hp=>hb.cell hp
end
theorem gb_refl (w:World) (row:Option Nat):w.grownBy w row:=⟨rfl,rfl,rfl,Nat.le_refl _,fun _ _ _=>rfl⟩
theorem gb_drewN {a w:World} {row:Option Nat} (h:a.grownBy w row) (n:Nat):a.grownBy (w.drewN n) row:=⟨h.os,h.tape,h.output,h.size,h.block⟩
theorem gb_drew {a w:World} {row:Option Nat} (h:a.grownBy w row):a.grownBy w.drew row:=⟨h.os,h.tape,h.output,h.size,h.block⟩
theorem gb_alloc {a w:World} {row:Option Nat} (h:a.grownBy w row) (o:Obj):a.grownBy (w.alloc o) row :=
 ⟨h.os,h.tape,h.output,Nat.le_trans h.size (by simp),fun i hi hne=>(Below.heap_alloc w o i (Nat.lt_of_lt_of_le hi h.size)).trans (h.block i hi hne)⟩
theorem gb_setCell {a w:World} {g:Nat} (h:a.grownBy w (some g)) {p:Addr} (hp:p.block=g∨a.heap.size≤p.block) (u:Value):a.grownBy (w.setCell p u) (some g) :=
 ⟨h.os,h.tape,h.output,by simpa [World.setCell] using h.size,fun i hi hne=>(Below.heap_setCell w p u i (by
  rintro rfl
  rcases hp with hp | hp
  ·exact hne (by rw [hp])
  ·omega)).trans (h.block i hi hne)⟩
theorem gb_trans {a b c:World} {row:Option Nat} (h:a.grownBy b row) (k:b.grownBy c row):a.grownBy c row :=
 ⟨k.os.trans h.os,k.tape.trans h.tape,k.output.trans h.output,Nat.le_trans h.size k.size,fun i hi hne=>(k.block i (Nat.lt_of_lt_of_le hi h.size) hne).trans (h.block i hi hne)⟩
theorem gb_below {a w w':World} {row:Option Nat} (h:a.grownBy w row) (k:Below w.heap.size w w'):a.grownBy w' row :=
 gb_trans h ⟨k.os,k.tape,k.output,k.size,fun i hi _=>k.block i hi⟩
theorem below_of_gb {B:Nat} {a w w':World} {g:Nat} (h:Below B a w) (k:w.grownBy w' (some g)) (hB:B≤w.heap.size) (hg:B≤g):Below B a w' :=
 h.grown k hB (fun i e=>by cases e;exact hg)
def Blk (w:World) (g:Nat) (t:TypeId) (cs:Array Value):Prop:=w.heap[g]?=some (.cells cs t (0,0))
section
variable {w w' : World} {g : Nat} {t : TypeId} {cs : Array Value}
theorem Blk.lt (h:Blk w g t cs):g<w.heap.size:=by
 rcases Nat.lt_or_ge g w.heap.size with hlt | hge
 ·exact hlt
 ·unfold Blk at h;rw [Array.getElem?_eq_none hge] at h;cases h
theorem Blk.cell (h:Blk w g t cs) (i:Nat):w.cell? ⟨g,i,none⟩=cs[i]?:=cell_of_row w g i cs t (0,0) h
theorem Blk.frozen (h:Blk w g t cs) (i:Nat):w.frozen? ⟨g,i,none⟩=false:=by
 unfold Blk at h
 simp [World.frozen?,h]
theorem Blk.new (w:World) (t:TypeId) (cs:Array Value):Blk (w.alloc (.cells cs t)) w.heap.size t cs:=heap_alloc_new w _
theorem Blk.drew (h:Blk w g t cs):Blk w.drew g t cs:=h
theorem Blk.drewN (h:Blk w g t cs) (n:Nat):Blk (w.drewN n) g t cs:=h
theorem Blk.alloc (h:Blk w g t cs) (o:Obj):Blk (w.alloc o) g t cs:=(Below.heap_alloc w o g h.lt).trans h
theorem Blk.set (h:Blk w g t cs) (i:Nat) (u:Value):Blk (w.setCell ⟨g,i,none⟩ u) g t (cs.setIfInBounds i u):=by
 unfold Blk at h ⊢
 simp [World.setCell,Array.getElem?_modify,h]
theorem Blk.far (h:Blk w g t cs) {p:Addr} (hp:g≠p.block) (u:Value):Blk (w.setCell p u) g t cs:=(Below.heap_setCell w p u g hp).trans h
theorem Blk.below {B:Nat} (h:Blk w g t cs) (hb:Below B w w') (hg:g<B):Blk w' g t cs:=(hb.block g hg).trans h
theorem Blk.sub (h:Blk w g t cs) (hb:Below w.heap.size w w'):Blk w' g t cs:=(hb.block g h.lt).trans h
theorem Blk.gb {R:Nat} (h:Blk w g t cs) (hb:w.grownBy w' (some R)) (hg:g≠R):Blk w' g t cs:=(hb.block g h.lt (by simpa using hg)).trans h
theorem Blk.grown {row:Option Nat} (h:Blk w g t cs) (hb:w.grownBy w' row) (hg:some g≠row):Blk w' g t cs:=(hb.block g h.lt hg).trans h
end
theorem blk1 {w:World} {g:Nat} {t:TypeId} {a:Value} (h:Blk w g t #[a]):w.cell? ⟨g,0,none⟩=some a∧w.frozen? ⟨g,0,none⟩=false:=⟨h.cell 0,h.frozen 0⟩
theorem blk2 {w:World} {g:Nat} {t:TypeId} {a b:Value} (h:Blk w g t #[a,b]) :
 w.cell? ⟨g,0,none⟩=some a∧w.cell? ⟨g,1,none⟩=some b∧w.frozen? ⟨g,0,none⟩=false∧w.frozen? ⟨g,1,none⟩=false:=⟨h.cell 0,h.cell 1,h.frozen 0,h.frozen 1⟩
theorem blk3 {w:World} {g:Nat} {t:TypeId} {a b c:Value} (h:Blk w g t #[a,b,c]) :
 w.cell? ⟨g,0,none⟩=some a∧w.cell? ⟨g,1,none⟩=some b∧w.cell? ⟨g,2,none⟩=some c∧w.frozen? ⟨g,0,none⟩=false∧w.frozen? ⟨g,1,none⟩=false∧w.frozen? ⟨g,2,none⟩=false :=
 ⟨h.cell 0,h.cell 1,h.cell 2,h.frozen 0,h.frozen 1,h.frozen 2⟩
def ElemOk (P:Program) (t e:TypeId) (size bytes:Nat):Prop :=
 P.underlying t=some (.slice e)∧∃i z,P.info? e=some i∧i.zero=some z∧i.size=size∧i.bytes=bytes∧z.cells.size=size∧0<size
theorem elemOk {P:Program} {t e:TypeId} {size bytes:Nat} {z:Value} (ht:P.underlying t=some (.slice e)) (hi:(P.info? e).map (fun i=>(i.zero,i.size,i.bytes))=some (some z,size,bytes)) (hz:z.cells.size=size) (hs:0<size) :
 ElemOk P t e size bytes:=by
 obtain ⟨i,h1,h2,h3,h4⟩:=info_parts hi
 exact ⟨ht,i,z,h1,h2,h3,h4,hz,hs⟩
theorem own_form {w:World} {base:Nat} {e:TypeId} {size n:Nat} {v:Value} {xs:List Value} (h:w.ownsRow base e size v n xs):∃A c,v=.slice A n c∧n≤c:=by
 rcases h.2 with ⟨rfl,rfl⟩ | ⟨g,cap,cur,rfl,_,_,hnc,_⟩
 ·exact ⟨none,0,rfl,Nat.le_refl _⟩
 ·exact ⟨_,cap,rfl,hnc⟩
theorem own_reads {w:World} {base:Nat} {e:TypeId} {size n c:Nat} {A:Option Addr} {xs:List Value} (h:w.ownsRow base e size (.slice A n c) n xs):Reads w w.heap.size size A n xs:=by
 refine ⟨h.1,fun hn=>?_⟩
 rcases h.2 with ⟨hv,h0⟩ | ⟨g,cap,cur,hv,_,hh,_⟩
 ·omega
 ·have hA:A=some ⟨g,0,none⟩:=by injection hv
  subst hA
  have hlt:g<w.heap.size:=by
   rcases Nat.lt_or_ge g w.heap.size with hlt | hge
   ·exact hlt
   ·rw [Array.getElem?_eq_none hge] at hh;cases hh
  refine ⟨g,0,rfl,hlt,fun j u hu=>?_⟩
  have:=h.cells (g:=g) rfl j u hu
  have e2:(⟨g,0,none⟩:Addr).add j=⟨g,0+j,none⟩:=by unfold Addr.add;split <;> simp_all
  rw [←e2];exact this
theorem own_below {w w':World} {base:Nat} {e:TypeId} {size n:Nat} {v:Value} {xs:List Value} (h:w.ownsRow base e size v n xs) (hb:Below w.heap.size w w'):w'.ownsRow base e size v n xs :=
 h.kept (row:=none) ⟨hb.os,hb.tape,hb.output,hb.size,fun k hk _=>hb.block k hk⟩ (by cases v.ownBlock <;> simp)
theorem own_gb {w w':World} {R base:Nat} {e:TypeId} {size n:Nat} {v:Value} {xs:List Value} (h:w.ownsRow base e size v n xs) (hb:w.grownBy w' (some R)) (hR:R<base):w'.ownsRow base e size v n xs :=
 h.kept hb (by
  cases hv:v.ownBlock with
  | none=>simp
  | some g=>exact .inr (by simp;have:=(h.lt g hv).1;omega))
theorem own_empty (w:World) (e:TypeId) (size:Nat):(w.alloc (.cells #[] e)).ownsRow w.heap.size e size (.slice (some ⟨w.heap.size,0,none⟩) 0 0) 0 [] :=
 ⟨by simp,.inr ⟨w.heap.size,0,#[],rfl,Nat.le_refl _,heap_alloc_new w _,Nat.le_refl _,Nat.zero_le _,by simp,by simp⟩⟩
theorem wpList_app1 {P:Program} (w:World) {ops:Array Oper} {rest:List Oper} {o:Oper} {a:Act} {Q:Exit→Act→World→Prop} (hgd:o.guard=none) (s x:Operand) (t:TypeId)
 (ho:o.op=.call { callee:=.builtin .append,args:=#[s,x],argTypes:=#[t,t] })
 (base:Nat) (e:TypeId) (size bytes:Nat) (hE:ElemOk P t e size bytes)
 (A:Option Addr) (c n:Nat) (xs:List Value) (hs:a.eval s=.slice A n c) (hown:w.ownsRow base e size (.slice A n c) n xs)
 (L:Nat) (cs:Array Value) (hx:a.eval x=.slice (some ⟨L,0,none⟩) 1 1) (hL:Blk w L e cs) (hcs:cs.size=size) (h1:∀u∈cs.toList,u.oneCell'=true)
 (hn:n≤1000000) (hby:bytes≤1000000) (hbase:base≤w.heap.size)
 (h:∀A' c' w',w'.ownsRow base e size (.slice A' (n+1) c') (n+1) (xs++cs.toList)→n+1≤c'→Below base w w'→wpList P ops Q rest (a.put o.dst (.slice A' (n+1) c')) w'):wpList P ops Q (o :: rest) a w:=by
 obtain ⟨ht,i,z,hi,hz,hsize,hbytes,hzs,hsz⟩:=hE
 refine wpList_append_own w hgd s x t ho base e i z size bytes ht hi hz hsize hbytes hzs hsz _ n xs hs hown ⟨L,0,none⟩ 1 1 cs.toList hx (by simp [hcs]) ?_ h1 (by unfold maxLen;omega) ?_ hbase ?_
 ·intro j u hj
  have:(⟨L,0,none⟩:Addr).add j=⟨L,j,none⟩:=by unfold Addr.add;split <;> simp_all
  rw [this,hL.cell]
  simpa using hj
 ·calc (n+1)*bytes≤1000001*1000000:=Nat.mul_le_mul (by omega) hby
   _≤_:=by omega
 ·intro v' w' hown' hg _
  obtain ⟨A',c',rfl,hc'⟩:=own_form hown'
  refine h A' c' w' hown' hc' ?_
  exact (Below.refl base w).grown hg hbase (fun k hk=>(hown.lt k hk).1)
def Filled (cs:Array Value) (vs:List Value):Prop:=∀(j:Nat) (u:Value),vs[j]?=some u→cs[j]?=some u
theorem Filled.put {cs:Array Value} {vs:List Value} (h:Filled cs vs) {j:Nat} (hj:vs.length=j) (hs:j<cs.size) (u:Value):Filled (cs.setIfInBounds j u) (vs++[u]):=by
 intro i x hx
 rw [List.getElem?_append] at hx
 rw [Array.getElem?_setIfInBounds]
 split at hx
 ·rw [if_neg (by omega)];exact h i x hx
 ·have:i=j:=by
   rcases Nat.lt_or_ge i (j+1) with h1 | h1
   ·omega
   ·rw [List.getElem?_eq_none (by simp;omega)] at hx;cases hx
  subst this
  rw [if_pos rfl,if_pos hs]
  simpa [hj] using hx
def Bytes (w:World) (B:Nat) (A:Option Addr) (n:Nat):Prop :=
 0<n→∃b off,A=some ⟨b,off,none⟩∧b<B∧∀j,j<n→∃x:Int,0≤x∧x≤255∧w.cell? ⟨b,off+j,none⟩=some (.int .u8 x)
theorem Bytes.keep {w w':World} {B:Nat} {A:Option Addr} {n:Nat} (h:Bytes w B A n) (hk:∀p:Addr,p.block<B→w'.cell? p=w.cell? p):Bytes w' B A n:=fun hn=>by
 obtain ⟨b,off,e,hb,hc⟩:=h hn
 exact ⟨b,off,e,hb,fun j hj=>by obtain ⟨x,h1,h2,h3⟩:=hc j hj;exact ⟨x,h1,h2,(hk _ hb).trans h3⟩⟩
def Rd (T:TypeId) (w:World) (B R N:Nat):Prop :=
 ∃A n c p,w.heap[R]?=some (.cells #[.slice A n c,.int .i64 (p:Nat)] T (0,0))∧p≤N∧B≤R∧n≤2000∧Bytes w B A n
theorem Rd.lt {T:TypeId} {w:World} {B R N:Nat} (h:Rd T w B R N):R<w.heap.size:=by
 obtain ⟨A,n,c,p,hh,_⟩:=h
 rcases Nat.lt_or_ge R w.heap.size with hlt | hge
 ·exact hlt
 ·rw [Array.getElem?_eq_none hge] at hh;cases hh
theorem Rd.le {T:TypeId} {w:World} {B R N:Nat} (h:Rd T w B R N):B≤R:=by obtain ⟨_,_,_,_,_,_,h3,_⟩:=h;exact h3
theorem Rd.more {T:TypeId} {w:World} {B R N N':Nat} (h:Rd T w B R N) (hN:N≤N'):Rd T w B R N':=by
 obtain ⟨A,n,c,p,h1,h2,h3⟩:=h;exact ⟨A,n,c,p,h1,by omega,h3⟩
theorem Rd.keep {T:TypeId} {w w':World} {B R N:Nat} (h:Rd T w B R N) (hk:∀k,k<B∨k=R→w'.heap[k]?=w.heap[k]?):Rd T w' B R N:=by
 obtain ⟨A,n,c,p,h1,h2,h3,h4,h5⟩:=h
 exact ⟨A,n,c,p,(hk R (.inr rfl)).trans h1,h2,h3,h4,h5.keep fun q hq=>World.cell?_of_block (hk _ (.inl hq))⟩
theorem Rd.below {T:TypeId} {w w':World} {B R N:Nat} (h:Rd T w B R N) (k:Below w.heap.size w w'):Rd T w' B R N :=
 h.keep fun i hi=>k.block i (by have:=h.lt;obtain ⟨_,_,_,_,_,_,h3,_⟩:=h;omega)
theorem Rd.alloc {T:TypeId} {w:World} {B R N:Nat} (h:Rd T w B R N) (o:Obj):Rd T (w.alloc o) B R N:=h.below ((Below.refl _ _).alloc (Nat.le_refl _) _)
theorem Rd.drew {T:TypeId} {w:World} {B R N:Nat} (h:Rd T w B R N):Rd T w.drew B R N:=h
theorem Rd.drewN {T:TypeId} {w:World} {B R N:Nat} (h:Rd T w B R N) (k:Nat):Rd T (w.drewN k) B R N:=h
theorem Rd.setCell {T:TypeId} {w:World} {B R N:Nat} (h:Rd T w B R N) {p:Addr} (hp:B≤p.block) (hne:p.block≠R) (u:Value):Rd T (w.setCell p u) B R N :=
 h.keep fun i hi=>Below.heap_setCell _ _ _ _ (by omega)
theorem Rd.sub {T:TypeId} {w w':World} {B R N base:Nat} (h:Rd T w B R N) (k:Below base w w') (hR:R<base):Rd T w' B R N :=
 h.keep fun i hi=>k.block i (by have:=h.le;omega)
theorem ofInt_i64 (a:Nat) (ha:a<9223372036854775808):(BitVec.ofInt 64 (a:Int)).toNat=a:=by
 rw [BitVec.ofInt_natCast,BitVec.toNat_ofNat];exact Nat.mod_eq_of_lt (by omega)
theorem i64_xor_nat (a b:Nat) (ha:a<9223372036854775808) (hb:b<9223372036854775808):bits .xor .i64 (a:Int) (b:Int)=((a ^^^ b:Nat):Int):=by
 have hx:a ^^^ b<2 ^ 63:=Nat.xor_lt_two_pow (by omega) (by omega)
 show IntKind.i64.wrap ((BitVec.ofInt 64 (a:Int) ^^^ BitVec.ofInt 64 (b:Int)).toNat:Int)=_
 rw [BitVec.toNat_xor,ofInt_i64 a ha,ofInt_i64 b hb,IntKind.wrap_i64]
 omega
theorem wrap64_small (n:Int) (h:0≤n) (h':n<4611686018427387904):wrap64 n=n:=IntWalk.wrap64_in n ⟨by omega,by omega⟩
theorem mix_pick (x y p n m:Int) (hx:0≤x) (hx':x≤255) (hy:0≤y) (hy':y≤255) (hp:0≤p) (hp':p≤1000000) (hn:1≤n) (hm:1≤m) :
 0≤(bits BinOp.xor IntKind.i64 (wrap64 (x*131+y*1117+p*29+wrap64 (wrap64 (p / n)*53))) (wrap64 ((wrap64 (x*131+y*1117+p*29+wrap64 (wrap64 (p / n)*53))).tdiv 64))).tmod m ∧
 (bits BinOp.xor IntKind.i64 (wrap64 (x*131+y*1117+p*29+wrap64 (wrap64 (p / n)*53))) (wrap64 ((wrap64 (x*131+y*1117+p*29+wrap64 (wrap64 (p / n)*53))).tdiv 64))).tmod m<m:=by
 have d0:0≤p / n:=Int.ediv_nonneg hp (by omega)
 have d1:p / n≤p:=Int.ediv_le_self _ hp
 rw [wrap64_small (p / n) d0 (by omega),wrap64_small (p / n*53) (by omega) (by omega),wrap64_small (x*131+y*1117+p*29+p / n*53) (by omega) (by omega)]
 generalize hz:x*131+y*1117+p*29+p / n*53=z
 have z0:0≤z:=by omega
 have z1:z≤200000000:=by omega
 clear hz d0 d1
 obtain ⟨k,rfl⟩:=Int.eq_ofNat_of_zero_le z0
 rw [Int.tdiv_eq_ediv_of_nonneg z0,wrap64_small ((k:Int) / 64) (by omega) (by omega),show ((k:Int) / 64)=((k / 64:Nat):Int) from rfl,i64_xor_nat k (k / 64) (by omega) (by omega),
  Int.tmod_eq_emod_of_nonneg (by omega)]
 exact ⟨Int.emod_nonneg _ (by omega),Int.emod_lt_of_pos _ (by omega)⟩
def Pk (m v:Int):Prop:=0≤v∧(1≤m→v<m)∧(m<1→v=0)
end
end Go.Proofs.YtlgdndnaiogooaaGreatDoor
