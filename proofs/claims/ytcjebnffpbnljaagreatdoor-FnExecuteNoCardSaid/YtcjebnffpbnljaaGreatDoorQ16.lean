/- Parts of the proof of : Mi. -/
import Derived.Test.YtcjebnffpbnljaaGreatDoorQ15
import Derived.Lib.TrailingZeros
import Derived.WideKeyEntry
import Derived.DeepKeys4
import Derived.RangeFuncBox
import Derived.RangeFuncCalls
import Derived.OwnWalkIn
import Derived.LoopNIn
import Derived.LoopIn
import Derived.Shelf.RegionOpen
set_option maxHeartbeats 20000000
set_option maxRecDepth 1000000
set_option linter.unusedSimpArgs false
set_option linter.unusedVariables false
section
namespace Go.Proofs.YtcjebnffpbnljaaGreatDoor.Mi
section
open Go.RowKit
def Apart (v:Value) (T:Nat):Prop:=v.ownBlock≠some T
theorem apart_new {w:World} {base:Nat} {e:TypeId} {size n:Nat} {v:Value} {xs:List Value} (h:w.ownsRow base e size v n xs) {T:Nat} (hT:w.heap.size≤T):Apart v T:=fun e'=>by
 have:=(h.lt T e').2;omega
def Others (v:Value) (w:World) (v':Value) (w':World):Prop:=∀T,T<w.heap.size→Apart v T→Apart v' T∧w'.heap[T]?=w.heap[T]?
theorem Others.blk {v v':Value} {w w':World} (h:Others v w v' w') {T:Nat} {t:TypeId} {cs:Array Value} (hb:Blk w T t cs) (ha:Apart v T):Apart v' T∧Blk w' T t cs :=
 ⟨(h T hb.lt ha).1,(h T hb.lt ha).2.trans hb⟩
theorem blk_of_row {P:Program} {w:World} {ty t e:TypeId} {size bytes:Nat} (hE:ElemOk P t e size bytes) {base:Nat} {v:Value} {n:Nat} {xs:List Value} (hown:w.ownsRow base e size v n xs)
 {ad:Addr} {m c:Nat} {news:List Value} (hl:news.length=m*size) (hnews:∀j u,news[j]?=some u→w.cell? (ad.add j)=some u) (h1:∀u∈news,u.oneCell'=true) (hm:0<m) (hn:n+m≤1000000) (hby:bytes≤1000000)
 {v':Value} {w':World} (hr:(Builtin.append_ #[t,t] ty #[v,.slice (some ad) m c]).run P w=.ok v' w'):v'.ownBlock=v.ownBlock∨v'.ownBlock=some w.heap.size:=by
 obtain⟨ht,i,z,hi,hz,hsize,hbytes,hzs,hsz⟩:=hE
 subst hsize
 have hbb:(n+m)*i.bytes≤140737488355328:=by
  rw[hbytes]
  calc (n+m)*bytes≤1000000*1000000:=Nat.mul_le_mul hn hby
   _≤_:=by omega
 rcases hown.2 with ⟨rfl,rfl⟩ | ⟨g,cap,cur,rfl,hbg,hg,hnc,hcm,hcs,htake⟩
 ·have hr2:=run_append_nil (P:=P) (w:=w) t ty e i z ht hi hz ad m c news hl hnews hm (by omega) (by simp only[Nat.zero_add] at hbb;omega)
  rw[hr] at hr2
  injection hr2 with h _
  subst h
  exact .inr rfl
 ·by_cases hroom:n+m≤cap
  ·have hfit:n*i.size+news.length≤cur.size:=by rw[hl,hcs,←Nat.add_mul];exact Nat.mul_le_mul_right _ hroom
   have hr2:=run_append_room (P:=P) (w:=w) t ty e i ht hi g n cap cur hg ad m c news hl hnews h1 hroom hfit
   rw[hr] at hr2
   injection hr2 with h _
   subst h
   exact .inl rfl
  ·have holds:∀j u,xs[j]?=some u→w.cell? ((⟨g,0,none⟩:Addr).add j)=some u:=hown.cells (g:=g) rfl
   have hr2:=run_append_grow (P:=P) (w:=w) t ty e i z ht hi hz ⟨g,0,none⟩ n cap xs hown.1 holds ad m c news hl hnews (by omega) (by omega) (growslice_fits (by omega) hbb)
   rw[hr] at hr2
   injection hr2 with h _
   subst h
   exact .inr rfl
theorem wpList_app1B {P:Program} (w:World) {ops:Array Oper} {rest:List Oper} {o:Oper} {a:Act} {Q:Exit→Act→World→Prop} (hgd:o.guard=none) (s x:Operand) (t:TypeId)
 (ho:o.op=.call { callee:=.builtin .append,args:=#[s,x],argTypes:=#[t,t] })
 (base:Nat) (e:TypeId) (size bytes:Nat) (hE:ElemOk P t e size bytes)
 (A:Option Addr) (c n:Nat) (xs:List Value) (hs:a.eval s=.slice A n c) (hown:w.ownsRow base e size (.slice A n c) n xs)
 (L:Nat) (cs:Array Value) (hx:a.eval x=.slice (some ⟨L,0,none⟩) 1 1) (hL:Blk w L e cs) (hcs:cs.size=size) (h1:∀u∈cs.toList,u.oneCell'=true)
 (hn:n≤999999) (hby:bytes≤1000000) (hbase:base≤w.heap.size)
 (h:∀A' c' w',w'.ownsRow base e size (.slice A' (n+1) c') (n+1) (xs++cs.toList)→n+1≤c'→Below base w w'→Others (.slice A n c) w (.slice A' (n+1) c') w'→wpList P ops Q rest (a.put o.dst (.slice A' (n+1) c')) w'):wpList P ops Q (o :: rest) a w:=by
 have hl:cs.toList.length=1*size:=by simp[hcs]
 have hnews:∀j u,cs.toList[j]?=some u→w.cell? ((⟨L,0,none⟩:Addr).add j)=some u:=by
  intro j u hj
  have:(⟨L,0,none⟩:Addr).add j=⟨L,j,none⟩:=by unfold Addr.add;split<;>simp_all
  rw[this,hL.cell]
  simpa using hj
 have hE':=hE
 obtain⟨ht,i,z,hi,hz,hsize,hbytes,hzs,hsz⟩:=hE
 obtain⟨v',w',hrun,hown',hg,_⟩:=run_append_own (P:=P) (w:=w) base t o.type e i z size bytes ht hi hz hsize hbytes hzs hsz _ n xs hown ⟨L,0,none⟩ 1 1 cs.toList hl hnews h1 (by unfold maxLen;omega) (by
  calc (n+1)*bytes≤1000001*1000000:=Nat.mul_le_mul (by omega) hby
   _≤_:=by omega) hbase
 have hbk:=blk_of_row hE' hown hl hnews h1 (by omega) (by omega) hby hrun
 obtain⟨A',c',rfl,hc'⟩:=own_form hown'
 have hb:Below base w w':=(Below.refl base w).grown hg hbase (fun k hk=>(hown.lt k hk).1)
 refine wpList_plain hgd fun _ hK=>?_
 unfold Oper.wp execOp
 simp only[ho,resolve,invoke,builtin,Sem.run_bind,Sem.run_pure,Result.andThen_ok,List.map_toArray,List.map_cons,List.map_nil,hs,hx,hrun]
 refine hK _ _ (h A' c' w' hown' hc' hb fun T hT ha=>⟨?_,hg.block T hT (fun e'=>ha e'.symm)⟩)
 intro e'
 rcases hbk with h2 | h2
 ·exact ha (h2.symm.trans e')
 ·rw[h2] at e'
  injection e' with e'
  omega
end
section
open Go.RowKit
def pop (r:Nat):Nat:=(List.range 10).countP fun i=>r.testBit i
def hsum (r:Nat):Nat:=(((List.range 10).filter fun i=>r.testBit i).map fun i=>i / 2).sum
def rsum (r:Nat):Nat:=(((List.range 10).filter fun i=>r.testBit i).map fun i=>i%2).sum
def tzb (r:Nat):Nat:=((List.range 10).find? fun i=>r.testBit i).getD 64
def msum (l:Int) (r:Nat):T2:=((hsum r:Int)-l*(pop r:Int),2*(rsum r:Int)-(pop r:Int))
def mst (l:Int) (n K:Nat):List T2:=((List.range K).filter fun r=>pop r==n).map (msum l)
theorem mst_succ_yes {l:Int} {n K:Nat} (h:pop K=n):mst l n (K+1)=mst l n K++[msum l K]:=by
 simp[mst,List.range_succ,List.filter_append,h]
theorem mst_succ_no {l:Int} {n K:Nat} (h:pop K≠n):mst l n (K+1)=mst l n K:=by
 simp[mst,List.range_succ,List.filter_append,h]
theorem low_step:∀r:Fin 1024,r.val≠0→(r.val &&& (r.val-1))<r.val∧tzb r.val<10∧pop r.val=pop (r.val &&& (r.val-1))+1 ∧
 hsum r.val=hsum (r.val &&& (r.val-1))+tzb r.val / 2∧rsum r.val=rsum (r.val &&& (r.val-1))+tzb r.val%2:=by decide +kernel
theorem pop_le:∀r:Fin 1024,pop r.val≤10∧hsum r.val≤20∧rsum r.val≤5:=by decide +kernel
theorem sums_zero:pop 0=0∧hsum 0=0∧rsum 0=0:=by decide
def capL (l:Nat):Nat:=4*l+2
def decL:Nat→Nat→List T2
 | 0,_=>[]
 | k+1,c=>(((c%400 / 20:Nat):Int)-10,((c%20:Nat):Int)-10) :: decL k (c / 400)
def lit:Nat→Nat→List T2
 | 0,0=>decL 1 210
 | 0,1=>decL 2 84609
 | 0,2=>decL 1 210
 | 1,0=>decL 1 210
 | 1,1=>decL 6 2371315937516589
 | 1,2=>decL 15 672649433318485018886998123327390475370
 | 1,3=>decL 20 6916586398102837666811089159331200243788530654308569
 | 1,4=>decL 15 672649434075341922321172382989342475370
 | 1,5=>decL 6 2371315937516589
 | 1,6=>decL 1 210
 | 2,0=>decL 1 210
 | 2,1=>decL 10 65961708050550002654308569
 | 2,2=>decL 45 899616261324492280055131902996686235985535603027039100116129764640214724029172469813054691918602846897872700824059330
 | 2,3=>decL 120 1377143869884717315889594113689716182513689211765639325069307037917275460504358666418030241199212721782895338794698424017329715455907104505241962395459641646113984181140215800309375776708702284709817699454013582920203883514124064318985762833694502524872194568357481655608318777516435149309707140093412590804684509
 | 2,4=>decL 210 2239133462281747946700422192942434395071290586687803941249201571795161705504177212949144594304210737353989565162690951406798219050243270278415579401082715880626938587176475860646779750218454757892733108001499200723650988034806182268604468500571408576818384868769338680086593407053879185461627526557108452022215414262847238523743077358739602991523487604819161216383603190724937147089444262124626343426500432032491103179744619443612385858824019571330313709266190916909680107277874886245136333128771984682806620463484324822209090240971881736209643290
 | 2,5=>decL 252 43447641339330101609733770906066485665261671959482841073317638156890147228932650718515973451290434660670996895832175957907489001947640717731727025725499663786420961260658408939361654975158890383732218564383018713449410191217168883115978340702941409781457586739043127403920364160387494993564334760640213713955296131317681191392497409031475698275887214824016557011032107788867888963405933219266773082200696998676680431932002131611556963058094760726064112656647217144526986765311598836764628158145118670997326271733838054000468921767302751950864977226876151173102753645192957794657122849352910683049888159608808570346816052674639875210562317964608749521476489
 | 2,6=>decL 210 2239133462281773129544714680340884274200563054664532680586728883647404034676770547575971834560709132423934316850665780835744948847049894487913853848307188810563332690445350720675642936084209421212856076714556153449632416083553479867164801399449968243200334370682184754794477179569963753696178392273098829767994141390234327848413682400624884655151515781754858096399667110864762422064045807780971420609476422914170088891694190861331959454319965479488277229042060432137066213446364919747179617441754761550492353722805846554163355501159918856209643290
 | 2,7=>decL 120 1377143869888169936126696659966836544646688911526349136627982006955747326707742880287305227540734241130357844124898369335885058697430211276582728648197557666658739284900284670270020836110798765191969723082592218595062426353015960408230121211498274091571191417137342097398916879262165966454082390300174062804684509
 | 2,8=>decL 45 899616262197100393513772916666217730633430492509537433896973742337867031204699289932276763446614767167369482776059330
 | 2,9=>decL 10 65961708050550002654308569
 | 2,10=>decL 1 210
 | _,_=>[]
def trms:Nat→Nat→List T2
 | 0,0=>[(0,0)]
 | 0,1=>[(1,0)]
 | 0,2=>[(0,0)]
 | 1,0=>[(0,0)]
 | 1,1=>[(1,1)]
 | 1,2=>[(2,1),(0,2),(0,0)]
 | 1,3=>[(3,0),(1,2),(1,1)]
 | 1,4=>[(2,1),(0,2),(0,0)]
 | 1,5=>[(1,1)]
 | 1,6=>[(0,0)]
 | 2,0=>[(0,0)]
 | 2,1=>[(1,2)]
 | 2,2=>[(2,3),(2,1),(0,4),(0,2),(0,0)]
 | 2,3=>[(3,3),(3,1),(1,5),(1,4),(1,3),(1,2),(1,2),(1,1)]
 | 2,4=>[(4,2),(2,5),(2,4),(2,3),(2,3),(2,2),(2,1),(2,1),(0,6),(0,4),(0,4),(0,3),(0,2),(0,2),(0,0),(0,0)]
 | 2,5=>[(5,0),(3,4),(3,3),(3,2),(3,1),(1,6),(1,5),(1,4),(1,4),(1,3),(1,3),(1,2),(1,2),(1,2),(1,1),(1,0)]
 | 2,6=>[(4,2),(2,5),(2,4),(2,3),(2,3),(2,2),(2,1),(2,1),(0,6),(0,4),(0,4),(0,3),(0,2),(0,2),(0,0),(0,0)]
 | 2,7=>[(3,3),(3,1),(1,5),(1,4),(1,3),(1,2),(1,2),(1,1)]
 | 2,8=>[(2,3),(2,1),(0,4),(0,2),(0,0)]
 | 2,9=>[(1,2)]
 | 2,10=>[(0,0)]
 | _,_=>[]
theorem lit_0_0:mst 0 0 4=lit 0 0:=by decide +kernel
theorem lit_0_1:mst 0 1 4=lit 0 1:=by decide +kernel
theorem lit_0_2:mst 0 2 4=lit 0 2:=by decide +kernel
theorem lit_1_0:mst 1 0 64=lit 1 0:=by decide +kernel
theorem lit_1_1:mst 1 1 64=lit 1 1:=by decide +kernel
theorem lit_1_2:mst 1 2 64=lit 1 2:=by decide +kernel
theorem lit_1_3:mst 1 3 64=lit 1 3:=by decide +kernel
theorem lit_1_4:mst 1 4 64=lit 1 4:=by decide +kernel
theorem lit_1_5:mst 1 5 64=lit 1 5:=by decide +kernel
theorem lit_1_6:mst 1 6 64=lit 1 6:=by decide +kernel
theorem lit_2_0:mst 2 0 1024=lit 2 0:=by decide +kernel
theorem lit_2_1:mst 2 1 1024=lit 2 1:=by decide +kernel
theorem lit_2_2:mst 2 2 1024=lit 2 2:=by decide +kernel
theorem lit_2_3:mst 2 3 1024=lit 2 3:=by decide +kernel
theorem lit_2_4:mst 2 4 1024=lit 2 4:=by decide +kernel
theorem lit_2_5:mst 2 5 1024=lit 2 5:=by decide +kernel
theorem lit_2_6:mst 2 6 1024=lit 2 6:=by decide +kernel
theorem lit_2_7:mst 2 7 1024=lit 2 7:=by decide +kernel
theorem lit_2_8:mst 2 8 1024=lit 2 8:=by decide +kernel
theorem lit_2_9:mst 2 9 1024=lit 2 9:=by decide +kernel
theorem lit_2_10:mst 2 10 1024=lit 2 10:=by decide +kernel
theorem lit_eq {l n:Nat} (hl:l≤2) (hn:n≤capL l):mst l n (2 ^ capL l)=lit l n:=by
 unfold capL at hn ⊢
 have h:l=0∨l=1∨l=2:=by omega
 rcases h with rfl | rfl | rfl
 ·have h:n=0∨n=1∨n=2:=by omega
  rcases h with rfl | rfl | rfl
  ·exact lit_0_0
  ·exact lit_0_1
  ·exact lit_0_2
 ·have h:n=0∨n=1∨n=2∨n=3∨n=4∨n=5∨n=6:=by omega
  rcases h with rfl | rfl | rfl | rfl | rfl | rfl | rfl
  ·exact lit_1_0
  ·exact lit_1_1
  ·exact lit_1_2
  ·exact lit_1_3
  ·exact lit_1_4
  ·exact lit_1_5
  ·exact lit_1_6
 ·have h:n=0∨n=1∨n=2∨n=3∨n=4∨n=5∨n=6∨n=7∨n=8∨n=9∨n=10:=by omega
  rcases h with rfl | rfl | rfl | rfl | rfl | rfl | rfl | rfl | rfl | rfl | rfl
  ·exact lit_2_0
  ·exact lit_2_1
  ·exact lit_2_2
  ·exact lit_2_3
  ·exact lit_2_4
  ·exact lit_2_5
  ·exact lit_2_6
  ·exact lit_2_7
  ·exact lit_2_8
  ·exact lit_2_9
  ·exact lit_2_10
def cnt (ms:List T2) (o s:Int):Int:=(ms.countP fun t=>t==(o,s):Nat)
theorem cnt_snoc (ms:List T2) (t:T2) (o s:Int):cnt (ms++[t]) o s=cnt ms o s+if t=(o,s) then 1 else 0:=by
 unfold cnt;rw[List.countP_append];by_cases h:t=(o,s)<;>simp[h]
theorem cnt_bd (ms:List T2) (o s:Int):0≤cnt ms o s∧cnt ms o s≤ms.length:=by
 unfold cnt;have:=List.countP_le_length (l:=ms) (p:=fun t=>t==(o,s));omega
def rct (t:T2) (o s:Int):Bool:=decide (-t.2≤o∧o≤t.2∧-t.1≤s∧s≤t.1∧(s+t.1)%2=0)
def lft (l n:Nat) (ts:List T2) (o s:Int):Int:=cnt (lit l n) o s-(ts.countP fun t=>rct t o s:Nat)
def ahd (l n:Nat) (s o:Nat):List T2:=(trms l n).filter fun t=>decide ((s:Int)<t.1∨((s:Int)=t.1∧(o:Int)<t.2))
def rep (l n:Nat) (s o:Nat):Nat:=(trms l n).countP fun t=>t==((s:Int),(o:Int))
theorem lft_at:∀l:Fin 3,∀n:Fin 11,n.val≤capL l.val→∀s o:Fin 9,lft l.val n.val (ahd l.val n.val s.val o.val) (o.val:Int) (s.val:Int)=rep l.val n.val s.val o.val:=by decide +kernel
theorem ahd_next:∀l:Fin 3,∀n:Fin 11,n.val≤capL l.val→∀s:Fin 9,∀o:Fin 8,ahd l.val n.val s.val o.val=ahd l.val n.val s.val (o.val+1)++List.replicate (rep l.val n.val s.val (o.val+1)) ((s.val:Int),((o.val+1:Nat):Int)):=by decide +kernel
theorem ahd_row:∀l:Fin 3,∀n:Fin 11,n.val≤capL l.val→∀s:Fin 8,ahd l.val n.val s.val 8=ahd l.val n.val (s.val+1) 0++List.replicate (rep l.val n.val (s.val+1) 0) (((s.val+1:Nat):Int),0):=by decide +kernel
theorem ahd_first:∀l:Fin 3,∀n:Fin 11,n.val≤capL l.val→ahd l.val n.val 8 8=[]:=by decide +kernel
theorem ahd_last:∀l:Fin 3,∀n:Fin 11,n.val≤capL l.val→trms l.val n.val=ahd l.val n.val 0 0++List.replicate (rep l.val n.val 0 0) (0,0):=by decide +kernel
def ways (l:Int):Nat→Int→Int→Int→Int
 | 0,n,o,s=>if n=0∧o=0∧s=0 then 1 else 0
 | d+1,n,o,s=>if n<0∨2*((d:Int)+1)<n then 0 else
  ways l d n o s+ways l d (n-1) (o-(l-d)) (s-1)+ways l d (n-1) (o-(l-d)) (s+1)+ways l d (n-2) (o-2*(l-d)) s
theorem ways_bd (l:Int) (d:Nat):∀n o s,0≤ways l d n o s∧ways l d n o s≤4 ^ d:=by
 induction d with
 | zero=>intro n o s;unfold ways;split<;>simp
 | succ d ih =>
  intro n o s
  unfold ways
  have e:(4:Int) ^ (d+1)=4 ^ d*4:=Int.pow_succ ..
  have h0:(0:Int)≤4 ^ d:=by have:=ih 0 0 0;omega
  split
  ·omega
  ·have h1:=ih n o s
   have h2:=ih (n-1) (o-(l-d)) (s-1)
   have h3:=ih (n-1) (o-(l-d)) (s+1)
   have h4:=ih (n-2) (o-2*(l-d)) s
   omega
def mcS (l n:Nat) (o s:Int):Int:=ways l (2*l+1) n o s
def tcS (l n:Nat) (o s:Int):Int:=mcS l n o s-mcS l n (o+1) s-mcS l n o (s+2)+mcS l n (o+1) (s+2)
theorem ahd_row6:∀l:Fin 3,∀n:Fin 11,n.val≤capL l.val→∀s:Fin 6,ahd l.val n.val s.val 8=ahd l.val n.val s.val 6:=by decide +kernel
theorem ahd_first6:∀l:Fin 3,∀n:Fin 11,n.val≤capL l.val→ahd l.val n.val 5 6=[]:=by decide +kernel
theorem trms_pos:∀l:Fin 3,∀n:Fin 11,n.val≤capL l.val→0<(trms l.val n.val).length∧(trms l.val n.val).length≤40∧(trms l.val n.val).all (fun t=>decide (0≤t.1∧t.1≤8∧0≤t.2∧t.2≤8))=true:=by decide +kernel
theorem lit_len:∀l:Fin 3,∀n:Fin 11,n.val≤capL l.val→(lit l.val n.val).length≤252∧(lit l.val n.val).all (fun t=>decide (-10≤t.1∧t.1≤10∧-10≤t.2∧t.2≤10))=true:=by decide +kernel
end
section
open Go.RowKit
theorem ones64 (x:Nat) (hx:x<1024) (w:World) :
 Calls Tryz.prog 293 #[.int .u64 (x:Int)] w fun e w'=>e=.returned (.int .i64 (pop x:Nat))∧w=w':=by
 go_enter Tryz.func293,Tryz.ntmps293
 go_wp2_with fail
 go_ret
 refine⟨ret_int ?_,rfl⟩
 clear w
 revert x
 decide +kernel
def Dbt (w:World):Prop:=∀k,k<64→w.cell? ⟨7,k,none⟩=some (.int .u8 (Lib.deBruijn64tab.getD k 0:Nat))
theorem Dbt.on {w w':World} (h:Dbt w) (hb:Below w.heap.size w w'):Dbt w':=fun k hk=>(hb.cell (World.block_lt_of_cell? _ _ (h k hk))).trans (h k hk)
theorem neg_and:∀x:Nat,x<1024→0<x→bits BinOp.and IntKind.u64 (x:Int) (IntKind.u64.wrap (-(x:Int)))=((2 ^ tzb x:Nat):Int):=by decide +kernel
theorem tz_idx:∀t:Nat,t<10→∃j:Nat,IntKind.u64.wrap (((2 ^ t:Nat):Int)*285870213051353865) / 288230376151711744=(j:Int)∧j<64∧Lib.deBruijn64tab.getD j 0=t:=by
 intro t ht
 have h:t=0∨t=1∨t=2∨t=3∨t=4∨t=5∨t=6∨t=7∨t=8∨t=9:=by omega
 rcases h with rfl | rfl | rfl | rfl | rfl | rfl | rfl | rfl | rfl | rfl
 ·exact⟨0,by decide +kernel,by omega,by decide⟩
 ·exact⟨1,by decide +kernel,by omega,by decide⟩
 ·exact⟨3,by decide +kernel,by omega,by decide⟩
 ·exact⟨7,by decide +kernel,by omega,by decide⟩
 ·exact⟨15,by decide +kernel,by omega,by decide⟩
 ·exact⟨31,by decide +kernel,by omega,by decide⟩
 ·exact⟨63,by decide +kernel,by omega,by decide⟩
 ·exact⟨62,by decide +kernel,by omega,by decide⟩
 ·exact⟨61,by decide +kernel,by omega,by decide⟩
 ·exact⟨59,by decide +kernel,by omega,by decide⟩
theorem tz64 (x:Nat) (h0:0<x) (hx:x<1024) (w:World) (ht:Dbt w) :
 Calls Tryz.prog 239 #[.int .u64 (x:Int)] w fun e w'=>e=.returned (.int .i64 (tzb x:Nat))∧w=w':=by
 have e0:((x:Int)==0)=false:=by simp;omega
 have hN:=neg_and x hx h0
 have hb:tzb x<10:=(low_step ⟨x,hx⟩ (by simp;omega)).2.1
 obtain⟨j,hE,hj,ht2⟩:=tz_idx (tzb x) hb
 have hc:=ht j hj
 rw[ht2] at hc
 generalize tzb x=t at *
 generalize ((2 ^ t:Nat):Int)=p at *
 have j0:(0:Int)≤(j:Int):=by omega
 have j1:(j:Int)<64:=by omega
 clear ht ht2 hj
 go_enter Tryz.func239,Tryz.ntmps239
 go_wp2_with fail
 go_ret
 exact⟨rfl,rfl⟩
theorem ones_any (x:Nat) (hx:x<1024) (w:World) :
 Calls Tryz.prog 282 #[.int .u64 (x:Int)] w fun e w'=>e=.returned (.int .i64 (pop x:Nat))∧w=w':=by
 have H:=kk (ones64 x hx w)
 go_enter Tryz.func282,Tryz.ntmps282
 go_wp2_with fail
 refine H.out.mono ?_
 rintro e w1 ⟨rfl,rfl⟩
 go_wp2_with fail
 go_ret
 exact⟨rfl,rfl⟩
theorem tz_any (x:Nat) (h0:0<x) (hx:x<1024) (w:World) (ht:Dbt w) :
 Calls Tryz.prog 185 #[.int .u64 (x:Int)] w fun e w'=>e=.returned (.int .i64 (tzb x:Nat))∧w=w':=by
 have H:=kk (tz64 x h0 hx w ht)
 go_enter Tryz.func185,Tryz.ntmps185
 go_wp2_with fail
 refine H.out.mono ?_
 rintro e w1 ⟨rfl,rfl⟩
 go_wp2_with fail
 go_ret
 exact⟨rfl,rfl⟩
theorem capacity_any (l:Int) (h0:0≤l) (h1:l≤3) (w:World) :
 Calls Tryz.prog 202 #[.int .i64 l] w fun e w'=>e=.returned (.int .i64 (4*l+2))∧w=w':=by
 go_enter Tryz.func202,Tryz.ntmps202
 go_wp2_with fail
 go_ret
 exact⟨rfl,rfl⟩
def evB (l n:Int):Bool:=decide (0≤l∧l≤2∧0≤n∧n≤4*l+2)
theorem electronsValid_any (l n:Int) (w:World) :
 Calls Tryz.prog 221 #[.int .i64 l,.int .i64 n] w fun e w'=>e=.returned (.bool (evB l n))∧w=w':=by
 cases h:evB l n
 ·have h2:¬(0≤l∧l≤2∧0≤n∧n≤4*l+2):=of_decide_eq_false h
  by_cases a:0≤l
  ·by_cases b:l≤2
   ·by_cases c:0≤n
    ·have d:¬n≤4*l+2:=fun d=>h2 ⟨a,b,c,d⟩
     have HC:=kk (capacity_any l a (by omega) w)
     clear h h2
     go_enter Tryz.func221,Tryz.ntmps221
     go_wp2_with fail
     refine HC.out.mono ?_
     rintro e w1 ⟨rfl,rfl⟩
     go_wp2_with fail
     go_ret
     exact⟨ret_bool (by simp;omega),rfl⟩
    ·clear h h2
     go_enter Tryz.func221,Tryz.ntmps221
     go_wp2_with fail
     go_ret
     exact⟨ret_bool (by simp;try omega),rfl⟩
   ·clear h h2
    go_enter Tryz.func221,Tryz.ntmps221
    go_wp2_with fail
    go_ret
    exact⟨ret_bool (by simp;try omega),rfl⟩
  ·clear h h2
   go_enter Tryz.func221,Tryz.ntmps221
   go_wp2_with fail
   go_ret
   exact⟨ret_bool (by simp;try omega),rfl⟩
 ·obtain⟨a,b,c,d⟩:0≤l∧l≤2∧0≤n∧n≤4*l+2:=of_decide_eq_true h
  have HC:=kk (capacity_any l a (by omega) w)
  clear h
  go_enter Tryz.func221,Tryz.ntmps221
  go_wp2_with fail
  refine HC.out.mono ?_
  rintro e w1 ⟨rfl,rfl⟩
  go_wp2_with fail
  go_ret
  exact⟨ret_bool (by simp;try omega),rfl⟩
end
section
open Go.RowKit
theorem elSums:ElemOk Tryz.prog 244 220 2 16:=elemOk Tryz.underlying244 (z:=.agg #[.int .i64 0,.int .i64 0]) (by kernel_rfl) rfl (by omega)
def oF (l:Int) (x r:Nat):Int:=((hsum x:Int)-hsum r)-l*((pop x:Int)-pop r)
def sF (x r:Nat):Int:=2*((rsum x:Int)-rsum r)-((pop x:Int)-pop r)
theorem oF_self (l:Int) (x:Nat):oF l x x=0:=by unfold oF;simp
theorem sF_self (x:Nat):sF x x=0:=by unfold sF;simp
theorem oF_zero (l:Int) (x:Nat):oF l x 0=(msum l x).1:=by
 obtain⟨h1,h2,_⟩:=sums_zero
 unfold oF msum;rw[h1,h2];simp
theorem sF_zero (x:Nat):sF x 0=(msum 0 x).2:=by
 obtain⟨h1,_,h3⟩:=sums_zero
 unfold sF msum;rw[h1,h3];simp
theorem F_step (l:Int) {x r:Nat} (h0:0<r) (hr:r<1024):(r &&& (r-1))<r∧tzb r<10∧oF l x (r &&& (r-1))=oF l x r+((tzb r:Int) / 2-l)∧sF x (r &&& (r-1))=sF x r+((tzb r:Int)%2*2-1):=by
 obtain⟨h1,h2,h3,h4,h5⟩:=low_step ⟨r,hr⟩ (by simp;omega)
 simp only at h1 h2 h3 h4 h5
 refine⟨h1,h2,?_,?_⟩
 ·unfold oF
  rw[h3,h4]
  have e:l*((pop x:Int)-((pop (r &&& (r-1))+1:Nat):Int))=l*((pop x:Int)-(pop (r &&& (r-1)):Int))-l:=by
   rw[show((pop x:Int)-((pop (r &&& (r-1))+1:Nat):Int))=((pop x:Int)-(pop (r &&& (r-1)):Int))+(-1) by omega,Int.mul_add];omega
  omega
 ·unfold sF
  omega
theorem F_bd {l:Int} (hl:0≤l∧l≤2) {x r:Nat} (hx:x<1024) (hr:r<1024):(-100≤oF l x r∧oF l x r≤100)∧(-100≤sF x r∧sF x r≤100):=by
 obtain⟨a1,a2,a3⟩:=pop_le ⟨x,hx⟩
 obtain⟨b1,b2,b3⟩:=pop_le ⟨r,hr⟩
 simp only at a1 a2 a3 b1 b2 b3
 unfold oF sF
 have h:l=0∨l=1∨l=2:=by omega
 rcases h with rfl | rfl | rfl<;>omega
theorem and_low:∀r:Nat,r<1024→0<r→bits BinOp.and IntKind.u64 (r:Int) ((r:Int)-1)=((r &&& (r-1):Nat):Int):=by decide +kernel
def MsPost (l n:Nat) (w:World) (e:Ending) (w':World):Prop :=
 ∃(A:Option Addr) (c m:Nat),e=.returned (.slice A m c)∧m≤c∧(lit l n).length=m∧Reads w' w'.heap.size 2 A m (tcells (lit l n))∧Below w.heap.size w w'
theorem microstates_any (l n:Nat) (hl:l≤2) (hn:n≤capL l) (w:World) (ht:Dbt w) :
 Calls Tryz.prog 259 #[.int .i64 (l:Int),.int .i64 (n:Int)] w (MsPost l n w):=by
 have HT:=kk (fun W (hB:Below w.heap.size w W)=>ht.on hB);clear ht
 have HCAP:=kk (fun W=>capacity_any (l:Int) (by omega) (by omega) W)
 have hn':n≤10:=by unfold capL at hn;omega
 have HSH:Hid (IntKind.u64.wrap (2 ^ (4*l+2))=((2 ^ capL l:Nat):Int)):=by
  have h:l=0∨l=1∨l=2:=by omega
  rcases h with rfl | rfl | rfl<;>(unfold Hid;decide +kernel)
 have hK:2 ^ capL l≤1024:=by
  have h:l=0∨l=1∨l=2:=by omega
  rcases h with rfl | rfl | rfl<;>decide
 have HLIT:=kk (lit_eq hl hn)
 generalize 2 ^ capL l=K at *
 have hB0:=Below.refl w.heap.size w
 have hO0:=World.ownsRow_nil w w.heap.size 220 2
 have HO0:=kk hO0;clear hO0
 have HB0:=kk hB0;clear hB0
 have hshl:=HSH.out
 clear hn
 go_enter Tryz.func259,Tryz.ntmps259
 go_wp2_with fail
 refine(HCAP.out _).mono ?_
 rintro e w1 ⟨rfl,rfl⟩
 go_wp2_with fail
 clear hshl
 rw[HSH.out]
 go_loopw [5,13] (fun v i wr=>∃(x m:Nat) (A:Option Addr) (c:Nat),x≤K∧i=.int .u64 x∧v=.slice A m c∧m≤c∧m≤x∧Hid ((mst (l:Int) n x).length=m)∧Hid (wr.ownsRow w.heap.size 220 2 (.slice A m c) m (tcells (mst (l:Int) n x)))∧Hid (Below w.heap.size w wr)) (fun _ i _=>K-(RowKit.intOf i).toNat)
 case atStart=>exact⟨0,0,_,_,Nat.zero_le _,rfl,rfl,Nat.le_refl _,Nat.le_refl _,rfl,HO0.out,HB0.out⟩
 case round =>
  clear HO0 HB0
  obtain⟨wo,rfl⟩:∃wo:World,wo=wr:=⟨_,rfl⟩
  obtain⟨x,m,A,c,hx,rfl,rfl,hmc,hmx,HL,HW,HB⟩:=hrel
  by_cases hlt:x<K
  ·have hx1:x<1024:=by omega
   have i1:(x:Int)<(K:Int):=by omega
   have HON:=kk (fun W=>ones_any x hx1 W)
   by_cases hp:pop x=n
   ·have HSN:=kk (mst_succ_yes (l:=(l:Int)) hp)
    have HO1:=kk (oF_self (l:Int) x)
    have HS1:=kk (sF_self x)
    have HOZ:=kk (oF_zero (l:Int) x)
    have HSZ:=kk (sF_zero x)
    subst hp
    have e1:((pop x:Int) != (pop x:Int))=false:=by simp
    have HBK:=kk (Blk.new wo 220 #[.int .i64 (oF (l:Int) x x),.int .i64 (sF x x)])
    rw[HO1.out,HS1.out] at HBK
    have hsz:=HB.out.size
    have HWA:=kk (HW.out.alloc (.cells #[.int .i64 0,.int .i64 0] 220))
    go_wp2_with fail
    refine(HON.out _).mono ?_
    rintro e w1 ⟨rfl,rfl⟩
    go_wp2_with fail
    clear e1
    go_loopw [8] (fun v wr=>∃r:Nat,r<1024∧v=.int .u64 r∧Hid (Blk wr wo.heap.size 220 #[.int .i64 (oF (l:Int) x r),.int .i64 (sF x r)])∧Hid (World.grownBy (wo.alloc (.cells #[.int .i64 0,.int .i64 0] 220)) wr (some wo.heap.size))) (fun v _=>(RowKit.intOf v).toNat)
    case atStart=>exact⟨x,hx1,rfl,by rw[HO1.out,HS1.out];exact HBK.out,gb_refl _ _⟩
    case round =>
     clear HBK HO1 HS1
     obtain⟨r,hr,rfl,HQ,HG⟩:=hrel
     by_cases hr0:0<r
     ·obtain⟨f1,f2,f3,f4⟩:=F_step (l:Int) (x:=x) hr0 hr
      have HN:=kk f3
      have HN2:=kk f4
      have bF:=F_bd (l:=(l:Int)) (by omega) hx1 hr
      have hal:=and_low r hr hr0
      have HTZ:=kk (fun W hW=>tz_any r hr0 hr W hW)
      have HBW:Hid (Below w.heap.size w wr):=kk ((HB.out.alloc HB.out.size (.cells #[.int .i64 0,.int .i64 0] 220)).grown HG.out (by simp;omega) (fun k e=>by cases e;exact hsz))
      have HDB:=kk (HT.out wr HBW.out)
      obtain⟨c0,c1,z0,z1⟩:=blk2 HQ.out
      have HQ2:=kk ((HQ.out.set 0 (.int .i64 (oF (l:Int) x (r &&& (r-1))))).set 1 (.int .i64 (sF x (r &&& (r-1)))))
      have HG2:=kk (gb_setCell (p:=⟨wo.heap.size,1,none⟩) (gb_setCell (p:=⟨wo.heap.size,0,none⟩) HG.out (.inl rfl) (.int .i64 (oF (l:Int) x (r &&& (r-1))))) (.inl rfl) (.int .i64 (sF x (r &&& (r-1)))))
      rw[f3,f4] at HQ2 HG2
      clear f3 f4
      have e2:((r:Int) != 0)=true:=by simp;omega
      have hr1:(r &&& (r-1))<1024:=by omega
      have HLT:=kk f1;clear f1
      generalize (r &&& (r-1))=r2 at *
      generalize tzb r=t at *
      have HO3:=kk (show oF (l:Int) x r2=oF (l:Int) x r2 from rfl)
      generalize oF (l:Int) x r=O at *
      generalize sF x r=S at *
      go_wp2_with fail
      refine(HTZ.out _ HDB.out).mono ?_
      rintro e w2 ⟨rfl,rfl⟩
      go_wp2_with fail
      go_roundw
      case rel=>exact⟨r2,hr1,by go_num,by rw[HN.out,HN2.out];exact HQ2.out,HG2.out⟩
      case measure=>have:=HLT.out;simp[RowKit.intOf];omega
     ·obtain rfl:r=0:=by omega
      rw[HOZ.out,HSZ.out] at HQ
      have HM2:=kk (show(msum 0 x).2=(msum (l:Int) x).2 from rfl)
      rw[HM2.out] at HQ
      have HWR:=kk (HWA.out.kept HG.out (by
       cases hv:(Value.slice A m c).ownBlock with
       | none=>exact .inl rfl
       | some k=>exact .inr (by have:=(HW.out.lt k hv).2;simp;omega)))
      have HBW:Hid (Below w.heap.size w wr):=kk ((HB.out.alloc HB.out.size (.cells #[.int .i64 0,.int .i64 0] 220)).grown HG.out (by simp;omega) (fun k e=>by cases e;exact hsz))
      obtain⟨c0,c1,z0,z1⟩:=blk2 HQ.out
      have HSC:=kk (congrArg tcells HSN.out)
      rw[tcells_snoc] at HSC
      have HLN:Hid ((mst (l:Int) (pop x) (x+1)).length=m+1):=by unfold Hid;rw[HSN.out,List.length_append,HL.out];rfl
      generalize (msum (l:Int) x).1=O at *
      generalize (msum (l:Int) x).2=S at *
      have hsw:=HBW.out.size
      clear HOZ HSZ
      go_wp2_with (at_builtin;refine wpList_app1 _ rfl (.tmp 45) (.tmp 47) _ rfl w.heap.size 220 2 16 elSums A c m _ rfl (HWR.out.alloc _) wr.heap.size #[.int .i64 O,.int .i64 S] rfl (Blk.new wr _ _) rfl ?h1 (by omega) (by omega) (by simp;omega) ?_)
      case h1=>exact⟨rfl,rfl⟩
      intro A' c' w5 hown5 hc5 hb5
      have HW5:Hid (w5.ownsRow w.heap.size 220 2 (.slice A' (m+1) c') (m+1) (tcells (mst (l:Int) (pop x) (x+1)))):=by unfold Hid;rw[HSC.out];exact hown5
      have HB5:=kk ((HBW.out.alloc hsw (.cells #[.int .i64 O,.int .i64 S] 220)).trans hb5)
      clear hown5 hb5
      go_wp2_with fail
      go_roundw
      case rel=>exact⟨x+1,m+1,A',c',by omega,by go_num,rfl,hc5,by omega,HLN.out,HW5.out,HB5.out⟩
      case measure=>simp[RowKit.intOf];omega
   ·have HSN:=kk (mst_succ_no (l:=(l:Int)) hp)
    have e1:((pop x:Int) != (n:Int))=true:=by simp;omega
    clear hp
    generalize pop x=px at *
    go_wp2_with fail
    refine(HON.out _).mono ?_
    rintro e w1 ⟨rfl,rfl⟩
    go_wp2_with fail
    go_roundw
    case rel=>exact⟨x+1,m,A,c,by omega,by go_num,rfl,hmc,by omega,by rw[HSN.out];exact HL.out,by rw[HSN.out];exact HW.out,HB.out⟩
    case measure=>simp[RowKit.intOf];omega
  ·obtain rfl:x=K:=by omega
   rw[HLIT.out] at HW HL
   have HR:=kk (own_reads HW.out)
   go_wp2_with fail
   go_ret
   exact⟨A,c,m,rfl,hmc,HL.out,HR.out,HB.out⟩
end
section
open Go.RowKit Go.ChangeShapes Go.WideShapes Go.MapKept Go.ChangeMaps
open Go.WideMaps (KeyLaw)
open Go.WideElems (Fit findIdx_born findIdx_arr modify_last set_self)
theorem own_bump {H:Type} {P:Program} {t k e:TypeId} {w:World} {b n:Nat} {D:DataW H} (K:KeyLaw P k) (ht:P.underlying t=some (.map k e)) (he:P.underlying e=some (.int .i64)) (hz:∀u:World,(zeroValue e).run P u=.ok (.int .i64 0) u)
 (hown:w.ownsMap P k (plainElem P e) b n D) (hn:n<maxLen) {key:Value} {kl:Lit} (hkey:keyOf P k key=some kl) :
 ∃(c:Int) (v0:Value) (st:Nat) (w1:World),(Lit.int .i64 c).wf=true∧D.atKey kl (.lit (.int .i64 0))=.lit (.int .i64 c) ∧
  (Instr.lookup t (.map (some b)) key false).run P w=.ok (.int .i64 c) w∧(Instr.mapEntry t (.map (some b)) key).run P w=.ok (.tuple #[v0,.int .i64 (st:Int)]) w1 ∧
  (Instr.lookup t (.map (some b)) key false).run P w1=.ok (.int .i64 c) w1∧w.grownBy w1 (some b) ∧
  ∀c':Int,(Lit.int .i64 c').wf=true→∃w2,(Instr.entryStore t (.map (some b)) (.int .i64 (st:Int)) (.int .i64 c')).run P w1=.ok () w2∧w2.ownsMap P k (plainElem P e) b (n+1) (D.put kl (.lit (.int .i64 c')))∧w.grownBy w2 (some b):=by
 have hw0:(Lit.int .i64 0).wf=true:=by decide
 have KK:=Maps.Keyed.of_law K
 obtain⟨c,hl,hat,hwc⟩:=hown.lookup_int KK ht he (hz w) hkey
 have hown0:=hown
 obtain⟨es,clock,hb,F,hs,hD⟩:=hown
 obtain⟨s1,s2,_⟩:=F.stamped
 have gb1:∀o:Obj,w.grownBy (setBlock w b o) (some b):=fun o=>⟨rfl,rfl,rfl,by simp[setBlock],fun i _ hi=>heap_setBlock_other hb _ (fun e=>hi (by rw[e]))⟩
 have back:∀(es1:Array MapEntry) (clock1:Nat) (c':Int) (es':Array MapEntry) (clock':Nat),(Lit.int .i64 c').wf=true→(Instr.mapUpdate t (.map (some b)) key (.int .i64 c')).run P w=.ok () (setBlock w b (.map es' clock')) →
  (setBlock (setBlock w b (.map es1 clock1)) b (.map es' clock')).ownsMap P k (plainElem P e) b (n+1) (D.put kl (.lit (.int .i64 c')))∧w.grownBy (setBlock (setBlock w b (.map es1 clock1)) b (.map es' clock')) (some b):=by
  intro es1 clock1 c' es' clock' hwf hrun
  obtain⟨w',hrun',hown',_⟩:=hown0.update KK ht hn hkey (plainElem_int he hwf)
  rw[hrun] at hrun'
  injection hrun' with _ hw'
  subst hw'
  obtain⟨es2,ck2,h2,h3⟩:=hown'
  rw[heap_setBlock_same hb] at h2
  injection h2 with h2
  injection h2 with h2a h2b
  subst h2a h2b
  have hb1:(setBlock w b (.map es1 clock1)).heap[b]?=some (.map es1 clock1):=heap_setBlock_same hb _
  refine⟨⟨es',clock',heap_setBlock_same hb1 _,h3⟩,?_⟩
  exact⟨rfl,rfl,rfl,by simp[setBlock],fun i _ hi=>(heap_setBlock_other hb1 _ (fun e=>hi (by rw[e]))).trans (heap_setBlock_other hb _ (fun e=>hi (by rw[e])))⟩
 rcases K.find w hkey es.toList F.keys with ⟨h1,h2⟩ | ⟨j,e0,h1,h2,h3⟩
 ·have hc0:c=0:=by
   have h:=WideElems.atKey_none K F hkey h2 (.lit (.int .i64 0))
   rw[←hD,hat] at h
   injection h with h
   injection h
  have hup:(Instr.mapUpdate t (.map (some b)) key (.int .i64 0)).run P w=.ok () (setBlock w b (.map (es.push ⟨key,.int .i64 0,clock⟩) (clock+1))):=by
   simp[Instr.mapUpdate,run_underlying ht,MapKept.run_getObj_map hb,K.check w false hkey,h1,MapKept.run_setObj_map _ hb,Result.andThen,setBlock]
  obtain⟨w',hrun',hown',_⟩:=hown0.update KK ht hn hkey (plainElem_int he hw0)
  rw[hup] at hrun'
  injection hrun' with _ hw'
  subst hw'
  obtain⟨c1,hl1,hat1,_⟩:=hown'.lookup_int KK ht he (hz _) hkey
  have hc1:c1=0:=by
   rw[Maps.atKey_put_same hown0.isMap (KK.key hkey)] at hat1
   injection hat1 with h
   injection h with _ h
   exact h.symm
  subst hc0 hc1
  refine⟨0,.int .i64 0,clock,setBlock w b (.map (es.push ⟨key,.int .i64 0,clock⟩) (clock+1)),hw0,hat,hl,?_,hl1,gb1 _,fun c' hwf=>?_⟩
  ·simp[Instr.mapEntry,run_underlying ht,MapKept.run_getObj_map hb,K.check w false hkey,h1,hz,MapKept.run_setObj_map _ hb,Result.andThen,setBlock,goInt]
  ·have hb1:(setBlock w b (.map (es.push ⟨key,.int .i64 0,clock⟩) (clock+1))).heap[b]?=some (.map (es.push ⟨key,.int .i64 0,clock⟩) (clock+1)):=heap_setBlock_same hb _
   have hup':(Instr.mapUpdate t (.map (some b)) key (.int .i64 c')).run P w=.ok () (setBlock w b (.map (es.push ⟨key,.int .i64 c',clock⟩) (clock+1))):=by
    simp[Instr.mapUpdate,run_underlying ht,MapKept.run_getObj_map hb,K.check w false hkey,h1,MapKept.run_setObj_map _ hb,Result.andThen,setBlock]
   have hidx:(es.push ⟨key,.int .i64 0,clock⟩).findIdx? (fun e=>((e.born:Nat):Int)==((clock:Nat):Int))=some es.size:=by
    rw[findIdx_arr]
    have:=findIdx_born (l:=(es.push ⟨key,.int .i64 0,clock⟩).toList) (j:=es.size) (e0:=⟨key,.int .i64 0,clock⟩) (by
     simp only[Array.toList_push,List.map_append,List.map_cons,List.map_nil]
     refine List.nodup_append.2 ⟨s2,by simp,fun a ha c hc e1=>?_⟩
     simp only[List.mem_singleton] at hc
     obtain⟨x,hx,rfl⟩:=List.mem_map.1 ha
     have:=s1 x hx
     omega) (by simp)
    exact this
   have hmod:(es.push ⟨key,.int .i64 0,clock⟩).modify es.size (fun e=>{ e with val:=.int .i64 c' })=es.push ⟨key,.int .i64 c',clock⟩:=by
    apply Array.ext'
    rw[Array.toList_modify,Array.toList_push,Array.toList_push,←Array.length_toList,modify_last]
   obtain⟨r1,r2⟩:=back (es.push ⟨key,.int .i64 0,clock⟩) (clock+1) c' _ _ hwf hup'
   have hst:∀w2:World,w2.heap[b]?=some (.map (es.push ⟨key,.int .i64 0,clock⟩) (clock+1))→(Instr.entryStore t (.map (some b)) (.int .i64 (clock:Int)) (.int .i64 c')).run P w2=.ok () (setBlock w2 b (.map (es.push ⟨key,.int .i64 c',clock⟩) (clock+1))):=fun w2 hw2=>by
    simp[Instr.entryStore,MapKept.run_getObj_map hw2,asInt,asIntOf,hidx,hmod,MapKept.run_setObj_map _ hw2,Result.andThen,setBlock]
   exact⟨_,hst _ hb1,r1,r2⟩
 ·have hj:es[j]?=some e0:=by simpa using h2
  have hsame:es.modify j (fun e=>{ e with key:=key })=es:=by
   apply Array.ext'
   rw[Array.toList_modify,modify_eq_set _ _ _ _ h2]
   have:({ e0 with key:=key }:MapEntry)=e0:=by rw[←h3]
   rw[this]
   exact set_self _ _ _ h2
  have hown1:(setBlock w b (.map es clock)).ownsMap P k (plainElem P e) b n D:=⟨es,clock,heap_setBlock_same hb _,F,hs,hD⟩
  obtain⟨c1,hl1,hat1,_⟩:=hown1.lookup_int KK ht he (hz _) hkey
  have hc1:c1=c:=by
   rw[hat] at hat1
   injection hat1 with h
   injection h with _ h
   exact h.symm
  subst hc1
  refine⟨c1,e0.val,e0.born,setBlock w b (.map es clock),hwc,hat,hl,?_,hl1,gb1 _,fun c' hwf=>?_⟩
  ·simp[Instr.mapEntry,run_underlying ht,MapKept.run_getObj_map hb,K.check w false hkey,h1,hj,h3,K.stays w hkey,hsame,MapKept.run_setObj_map _ hb,Result.andThen,setBlock,goInt]
  ·have hb1:(setBlock w b (.map es clock)).heap[b]?=some (.map es clock):=heap_setBlock_same hb _
   have hup':(Instr.mapUpdate t (.map (some b)) key (.int .i64 c')).run P w=.ok () (setBlock w b (.map (es.modify j fun e'=>{ e' with key:=key,val:=.int .i64 c' }) clock)):=by
    simp[Instr.mapUpdate,run_underlying ht,MapKept.run_getObj_map hb,K.check w false hkey,h1,hj,h3,K.stays w hkey,MapKept.run_setObj_map _ hb,Result.andThen,setBlock]
   have hidx:es.findIdx? (fun e=>((e.born:Nat):Int)==((e0.born:Nat):Int))=some j:=by
    rw[findIdx_arr]
    exact findIdx_born s2 h2
   have hmod:es.modify j (fun e=>{ e with val:=.int .i64 c' })=es.modify j (fun e'=>{ e' with key:=key,val:=.int .i64 c' }):=by
    apply Array.ext'
    rw[Array.toList_modify,Array.toList_modify,modify_eq_set _ _ _ _ h2,modify_eq_set _ _ _ _ h2,←h3]
   obtain⟨r1,r2⟩:=back es clock c' _ _ hwf hup'
   have hst:∀w2:World,w2.heap[b]?=some (.map es clock)→(Instr.entryStore t (.map (some b)) (.int .i64 (e0.born:Int)) (.int .i64 c')).run P w2=.ok () (setBlock w2 b (.map (es.modify j fun e'=>{ e' with key:=key,val:=.int .i64 c' }) clock)):=fun w2 hw2=>by
    simp[Instr.entryStore,MapKept.run_getObj_map hw2,asInt,asIntOf,hidx,hmod,MapKept.run_setObj_map _ hw2,Result.andThen,setBlock]
   exact⟨_,hst _ hb1,r1,r2⟩
end
section
open Go.RowKit
theorem cnt_take_bd (ts:List T2) (k:Nat) (o s:Int):0≤cnt (ts.take k) o s∧cnt (ts.take k) o s≤k:=by
 have:=cnt_bd (ts.take k) o s
 have h2:(ts.take k).length≤k:=by rw[List.length_take];omega
 omega
theorem wideSums:(match Tryz.prog.underlying 220 with | some (.array _ _) | some (.struct _)=>true | _=>false)=true:=by kernel_rfl
theorem laidOutM:laidOutB Tryz.prog=true:=by kernel_rfl
theorem lawSums:WideMaps.KeyLaw Tryz.prog 220:=deep_law_laid laidOutM (m:=2) (by omega) (of_decide_eq_true (by kernel_rfl)) (by kernel_rfl) wideSums
def keyV (o s:Int):Value:=.agg #[.int .i64 o,.int .i64 s]
theorem key_some:∀o s:Fin 21,(keyOf Tryz.prog 220 (keyV ((o.val:Int)-10) ((s.val:Int)-10))).isSome=true:=by decide +kernel
def In10 (x:Int):Prop:=-10≤x∧x≤10
theorem key_at {o s:Int} (ho:In10 o) (hs:In10 s):∃kl,keyOf Tryz.prog 220 (keyV o s)=some kl:=by
 have h:=key_some ⟨(o+10).toNat,by unfold In10 at ho;omega⟩ ⟨(s+10).toNat,by unfold In10 at hs;omega⟩
 simp only at h
 unfold In10 at ho hs
 rw[show(((o+10).toNat:Nat):Int)-10=o by omega,show(((s+10).toNat:Nat):Int)-10=s by omega] at h
 exact Option.isSome_iff_exists.1 h
def Tbl (w:World) (b n:Nat) (T:Int→Int→Int):Prop :=
 ∃D:DataW Unit,w.ownsMap Tryz.prog 220 (plainElem Tryz.prog 3) b n D∧∀o s kl,In10 o→In10 s→keyOf Tryz.prog 220 (keyV o s)=some kl→D.atKey kl (.lit (.int .i64 0))=.lit (.int .i64 (T o s))
def upd (T:Int→Int→Int) (o s c:Int):Int→Int→Int:=fun a d=>if a=o∧d=s then c else T a d
theorem upd_same (T:Int→Int→Int) (o s c:Int):upd T o s c o s=c:=by simp[upd]
theorem upd_other (T:Int→Int→Int) {o s a d:Int} (c:Int) (h:¬(a=o∧d=s)):upd T o s c a d=T a d:=by simp[upd,h]
theorem zeroM (u:World):(zeroValue 3).run Tryz.prog u=.ok (.int .i64 0) u:=by kernel_rfl
theorem Tbl.put {w2:World} {b n:Nat} {T:Int→Int→Int} {D:DataW Unit} (hD:∀o s kl,In10 o→In10 s→keyOf Tryz.prog 220 (keyV o s)=some kl→D.atKey kl (.lit (.int .i64 0))=.lit (.int .i64 (T o s)))
 (hm:Maps.IsMap D) {o s:Int} {kl:Lit} (hk:keyOf Tryz.prog 220 (keyV o s)=some kl) (c:Int)
 (hown:w2.ownsMap Tryz.prog 220 (plainElem Tryz.prog 3) b n (D.put kl (.lit (.int .i64 c)))):Tbl w2 b n (upd T o s c):=by
 refine⟨_,hown,fun a d kl' ha hd hk'=>?_⟩
 by_cases h:a=o∧d=s
 ·obtain⟨rfl,rfl⟩:=h
  rw[hk] at hk'
  injection hk' with hk'
  subst hk'
  rw[upd_same,Maps.atKey_put_same hm ((Maps.Keyed.of_law lawSums).key hk)]
 ·rw[upd_other T c h]
  have hne:kl'≠kl:=by
   rintro rfl
   have:=lawSums.inj hk' hk
   simp only[keyV,Value.agg.injEq,Array.mk.injEq,List.cons.injEq,Value.int.injEq,true_and,and_true] at this
   exact h this
  rw[Maps.atKey_put_other hne]
  exact hD a d kl' ha hd hk'
theorem Tbl.kept {w w':World} {b n:Nat} {T:Int→Int→Int} (h:Tbl w b n T) (hb:w'.heap[b]?=w.heap[b]?):Tbl w' b n T:=by
 obtain⟨D,⟨es,ck,h1,h2⟩,h3⟩:=h
 exact⟨D,⟨es,ck,hb.trans h1,h2⟩,h3⟩
theorem Tbl.lt {w:World} {b n:Nat} {T:Int→Int→Int} (h:Tbl w b n T):b<w.heap.size:=by
 obtain⟨D,⟨es,ck,h1,h2⟩,h3⟩:=h
 exact(Array.getElem?_eq_some_iff.1 h1).1
theorem Tbl.more {w:World} {b n n':Nat} {T:Int→Int→Int} (h:Tbl w b n T) (hn:n≤n'):Tbl w b n' T:=by
 obtain⟨D,h1,h3⟩:=h
 exact⟨D,h1.mono hn,h3⟩
theorem Tbl.below {w w':World} {b n:Nat} {T:Int→Int→Int} (h:Tbl w b n T) (hb:Below w.heap.size w w'):Tbl w' b n T:=h.kept (hb.block b h.lt)
theorem Tbl.eq {w:World} {b n:Nat} {T T':Int→Int→Int} (h:Tbl w b n T) (he:∀o s,In10 o→In10 s→T o s=T' o s):Tbl w b n T':=by
 obtain⟨D,h1,h3⟩:=h
 exact⟨D,h1,fun o s kl ho hs hk=>by rw[h3 o s kl ho hs hk,he o s ho hs]⟩
theorem Tbl.look {w:World} {b n:Nat} {T:Int→Int→Int} (h:Tbl w b n T) {o s:Int} (ho:In10 o) (hs:In10 s) :
 (Instr.lookup 217 (.map (some b)) (keyV o s) false).run Tryz.prog w=.ok (.int .i64 (T o s)) w:=by
 obtain⟨D,hown,hD⟩:=h
 obtain⟨kl,hk⟩:=key_at ho hs
 obtain⟨c,hl,hat,_⟩:=hown.lookup_int (Maps.Keyed.of_law lawSums) Tryz.underlying217 Tryz.underlying3 (zeroM w) hk
 rw[hD o s kl ho hs hk] at hat
 injection hat with hat
 injection hat with _ hat
 rw[hat];exact hl
theorem Tbl.bump {w:World} {b n:Nat} {T:Int→Int→Int} (h:Tbl w b n T) (hn:n<maxLen) {o s:Int} (ho:In10 o) (hs:In10 s) :
 ∃(v0:Value) (st:Nat) (w1:World),(Instr.lookup 217 (.map (some b)) (keyV o s) false).run Tryz.prog w=.ok (.int .i64 (T o s)) w ∧
  (Instr.mapEntry 217 (.map (some b)) (keyV o s)).run Tryz.prog w=.ok (.tuple #[v0,.int .i64 (st:Int)]) w1 ∧
  (Instr.lookup 217 (.map (some b)) (keyV o s) false).run Tryz.prog w1=.ok (.int .i64 (T o s)) w1∧w.grownBy w1 (some b) ∧
  ∀c':Int,(Lit.int .i64 c').wf=true→∃w2,(Instr.entryStore 217 (.map (some b)) (.int .i64 (st:Int)) (.int .i64 c')).run Tryz.prog w1=.ok () w2∧Tbl w2 b (n+1) (upd T o s c')∧w.grownBy w2 (some b):=by
 obtain⟨D,hown,hD⟩:=h
 obtain⟨kl,hk⟩:=key_at ho hs
 obtain⟨c,v0,st,w1,hw,hat,hl,he,hl1,hg,hst⟩:=own_bump lawSums Tryz.underlying217 Tryz.underlying3 zeroM hown hn hk
 rw[hD o s kl ho hs hk] at hat
 injection hat with hat
 injection hat with _ hat
 subst hat
 refine⟨v0,st,w1,hl,he,hl1,hg,fun c' hc'=>?_⟩
 obtain⟨w2,h1,h2,h3⟩:=hst c' hc'
 exact⟨w2,h1,Tbl.put hD hown.isMap hk c' h2,h3⟩
theorem tbl_made (w:World):Tbl (w.alloc (.map #[] 0)) w.heap.size 0 (fun _ _=>0) :=
 ⟨.map [],World.ownsMap_made _ _ _ _,fun _ _ _ _ _ _=>rfl⟩
end
section
open Go.RowKit
theorem cell_map {w:World} {b:Nat} {es:Array MapEntry} {ck:Nat} (h:w.heap[b]?=some (.map es ck)) (o:Nat):w.cell? ⟨b,o,none⟩=none:=by
 simp[World.cell?,h]
theorem Tbl.apart {w:World} {b n:Nat} {T:Int→Int→Int} (h:Tbl w b n T) {p:Addr} {u:Value} (hp:p.spot=none) (hc:w.cell? p=some u):p.block≠b:=by
 obtain⟨D,⟨es,ck,h1,h2⟩,h3⟩:=h
 obtain⟨pb,po,ps⟩:=p
 simp only at hp
 subst hp
 rintro rfl
 rw[cell_map h1] at hc;cases hc
end
end Go.Proofs.YtcjebnffpbnljaaGreatDoor.Mi
namespace Go.Proofs.YtcjebnffpbnljaaGreatDoor
section
open Go.RowKit Mi
theorem Reads.tbl {w w':World} {B size n b N:Nat} {A:Option Addr} {xs:List Value} {T:Int→Int→Int} (h:Reads w B size A n xs) (ht:Mi.Tbl w b N T) (hg:w.grownBy w' (some b)):Reads w' B size A n xs :=
 ⟨h.1,fun hn=>by
  obtain⟨g,off,e,hb,hc⟩:=h.2 hn
  refine⟨g,off,e,hb,fun j u hu=>?_⟩
  have hcu:=hc j u hu
  have hne:=ht.apart (p:=⟨g,off+j,none⟩) rfl hcu
  exact(World.cell?_of_block (hg.block g (World.block_lt_of_cell? _ _ hcu) (by simpa using hne))).trans hcu⟩
theorem Blk.tbl {w w':World} {g b N:Nat} {t:TypeId} {cs:Array Value} {T:Int→Int→Int} (h:Blk w g t cs) (ht:Mi.Tbl w b N T) (hg:w.grownBy w' (some b)):Blk w' g t cs:=by
 refine h.gb hg ?_
 rintro rfl
 obtain⟨D,⟨es,ck,h1,h2⟩,h3⟩:=ht
 unfold Blk at h
 rw[h1] at h;cases h
end
end Go.Proofs.YtcjebnffpbnljaaGreatDoor
namespace Go.Proofs.YtcjebnffpbnljaaGreatDoor.Mi
section
open Go.RowKit
theorem below_tbl {B:Nat} {a w w':World} {b:Nat} (h:Below B a w) (hg:w.grownBy w' (some b)) (hB:B≤w.heap.size) (hb:B≤b):Below B a w':=below_of_gb h hg hB hb
theorem wf64 {x:Int} (h1:-1000000≤x) (h2:x≤1000000):(Lit.int .i64 x).wf=true:=by
 have e1:IntKind.i64.min=-9223372036854775808:=by decide
 have e2:IntKind.i64.max=9223372036854775807:=by decide
 simp only[Lit.wf,e1,e2,Bool.and_eq_true,decide_eq_true_eq];omega
theorem wf64' {x:Int} (h1:-4000000≤x) (h2:x≤4000000):(Lit.int .i64 x).wf=true:=by
 have e1:IntKind.i64.min=-9223372036854775808:=by decide
 have e2:IntKind.i64.max=9223372036854775807:=by decide
 simp only[Lit.wf,e1,e2,Bool.and_eq_true,decide_eq_true_eq];omega
def TabPost (l n:Nat) (w:World) (e:Ending) (w':World):Prop :=
 ∃b:Nat,e=.returned (.map (some b))∧w.heap.size≤b∧Tbl w' b 252 (cnt (lit l n))∧Below w.heap.size w w'
theorem newMicroTable_any (l n:Nat) (hl:l≤2) (hn:n≤capL l) (w:World) (ht:Dbt w) :
 Calls Tryz.prog 222 #[.int .i64 (l:Int),.int .i64 (n:Int)] w (TabPost l n w):=by
 have hB1:Below w.heap.size w (w.alloc (.map #[] 0)):=(Below.refl _ _).alloc (Nat.le_refl _) _
 have HMS:=kk (microstates_any l n hl hn (w.alloc (.map #[] 0)) (ht.on hB1))
 have h252:=lit_len ⟨l,by omega⟩ ⟨n,by unfold capL at hn;omega⟩ hn
 simp only at h252
 have HALL:=kk h252.2
 have h252:=h252.1
 clear ht hn
 have HB1:=kk hB1;clear hB1
 have HT0:=kk (tbl_made w)
 have hmm:=@run_makeMap Tryz.prog
 go_enter Tryz.func222,Tryz.ntmps222
 go_wp2_with fail
 refine HMS.out.mono ?_
 rintro e w2 ⟨A,c,m,rfl,hmc,hlen,hr,hb⟩
 clear hmm HMS
 obtain⟨ts,hTS⟩:∃ts,lit l n=ts:=⟨_,rfl⟩
 rw[hTS] at hlen hr h252 HALL
 have HTS:=kk hTS;clear hTS
 have HLEN:=kk hlen
 rw[hlen] at h252
 have HB2:=kk (HB1.out.trans (hb.mono HB1.out.size))
 have HT2:=kk (HT0.out.below hb)
 have HR2:=kk hr
 clear hb hr hlen HB1 HT0
 have hwb:w.heap.size<w2.heap.size:=HT2.out.lt
 have HI0:Hid (Tbl w2 w.heap.size 0 (cnt (ts.take 0))):=HT2.out
 clear HT2
 go_wp2_with fail
 go_loopw [13] (fun i wr=>∃k:Nat,k≤m∧i=.int .i64 k∧Hid (Tbl wr w.heap.size k (cnt (ts.take k)))∧Hid (w2.grownBy wr (some w.heap.size))) (fun i _=>m-(RowKit.intOf i).toNat)
 case atStart=>exact⟨0,Nat.zero_le _,rfl,HI0.out,gb_refl _ _⟩
 case round =>
  obtain⟨k,hk,rfl,HT,HG⟩:=hrel
  by_cases hlt:k<m
  ·obtain⟨bb,off,x,y,rfl,hbb,r1,r2,hxy,htk⟩:=(HR2.out.tbl HI0.out HG.out).term hlt
   have hin:In10 x∧In10 y:=by
    have h:=List.all_eq_true.1 HALL.out (x,y) (List.mem_of_getElem? hxy.out)
    simpa [In10,and_assoc] using h
   have HIX:=kk hin.1;have HIY:=kk hin.2
   have HTA:=kk (HT.out.below ((Below.refl wr.heap.size wr).alloc (Nat.le_refl _) (.cells #[.int .i64 x,.int .i64 y] 220)))
   have HGA:=kk (gb_alloc HG.out (.cells #[.int .i64 x,.int .i64 y] 220))
   have HBK:=kk (Blk.new wr 220 #[.int .i64 x,.int .i64 y])
   have i1:(k:Int)<(m:Int):=by omega
   have i0:(0:Int)≤(k:Int):=by omega
   have hcb:=cnt_take_bd ts k x y
   have HSN:Hid (∀o s,upd (cnt (ts.take k)) x y (cnt (ts.take k) x y+1) o s=cnt (ts.take (k+1)) o s):=fun o s=>by
    rw[htk.out,cnt_snoc]
    by_cases h:o=x∧s=y
    ·obtain⟨rfl,rfl⟩:=h
     rw[upd_same,if_pos rfl]
    ·rw[upd_other _ _ h,if_neg (fun h'=>h (by injection h' with h1 h2;exact⟨h1.symm,h2.symm⟩))];omega
   clear hin hxy htk
   obtain⟨C,hC⟩:∃C,cnt (ts.take k) x y=C:=⟨_,rfl⟩
   rw[hC] at HSN hcb
   go_wp2_with fail
   obtain⟨W,hW⟩:∃W,wr.alloc (.cells #[.int .i64 x,.int .i64 y] 220)=W:=⟨_,rfl⟩
   obtain⟨tb,htb⟩:∃tb,wr.heap.size=tb:=⟨_,rfl⟩
   rw[hW] at HTA HGA HBK
   rw[htb] at HBK
   simp only[hW,htb]
   have HTD:=kk (HTA.out.kept (w':=W.drew) rfl)
   obtain⟨v0,st,W1,l1,e1,l2,hg1,hst⟩:=HTD.out.bump (by unfold maxLen;omega) HIX.out HIY.out
   obtain⟨W2,s1,ht2,hg2⟩:=hst (C+1) (wf64 (by omega) (by omega))
   rw[hC] at l1 l2
   have HT2:=kk (ht2.eq fun o s _ _=>HSN.out o s)
   have HG2:=kk (gb_trans (gb_drew HGA.out) hg2)
   obtain⟨c0,c1,_,_⟩:=blk2 HBK.out.drew
   obtain⟨d0,d1,_,_⟩:=blk2 (HBK.out.drew.tbl HTD.out hg1)
   unfold keyV at l1 l2 e1
   clear hst ht2 hg1 hg2 r1 r2 hW htb hC
   go_region
   go_wp2_with fail
   go_roundw
   case rel=>exact⟨k+1,by omega,by go_num,HT2.out,HG2.out⟩
   case measure=>(simp[RowKit.intOf]<;>omega)
  ·obtain rfl:k=m:=by omega
   have HA:Hid (ts.take k=ts):=List.take_of_length_le (by rw[HLEN.out];exact Nat.le_refl _)
   rw[HA.out,←HTS.out] at HT
   have HBF:=kk (below_tbl HB2.out HG.out (by omega) (Nat.le_refl _))
   go_wp2_with fail
   go_ret
   exact⟨w.heap.size,rfl,Nat.le_refl _,HT.out.more (by omega),HBF.out⟩
end
section
open Go.RowKit
attribute [local go_sem] Oper.semAt_some
abbrev P10:={ x:Int // In10 x }
def prj (j:Int) (k:Nat):List Int:=(List.range k).map fun(i:Nat)=>-j+2*(i:Int)
theorem prj_succ (j:Int) (k:Nat):prj j (k+1)=prj j k++[-j+2*(k:Int)]:=by simp[prj,List.range_succ]
theorem prj_len (j:Int) (k:Nat):(prj j k).length=k:=by simp[prj]
def KpJ (B0:Nat) (W W':World):Prop:=W'.heap[B0]?=W.heap[B0]?
theorem KpJ.trans {B0:Nat} {A B C:World} (h:KpJ B0 A B) (k:KpJ B0 B C):KpJ B0 A C:=Eq.trans k h
theorem proj_in (N:Nat) (hN:1≤N) (l B0:Nat) (j:Nat) (hj:j≤8) (J Jx:List P10→World→Prop) (W:World)
 (hY:∀pre x W,J pre W→pre.length<j+1→YieldAt Fence.wide (N-1) Tryz.prog l #[.int .i64 x.1] W fun e W' =>
  (e=.returned (.bool true)∧J (pre++[x]) W'∧KpJ B0 W W')∨(e=.returned (.bool false)∧Jx (pre++[x]) W'))
 (hB:W.cell? ⟨B0,0,none⟩=some (.int .i64 (j:Int))) (hJ0:J [] W) :
 CallsIn Fence.wide N Tryz.prog 234 #[.func (.yield l) #[] #[],.pointer (some ⟨B0,0,none⟩)] W fun e W'=>(∃v,e=.returned v) ∧
  ((∃ys:List P10,ys.map (·.1)=prj (j:Int) (j+1)∧J ys W')∨(∃pre,True∧Jx pre W')):=by
 have HY:=kk hY;have HJ0:=kk hJ0;have HB:=kk hB
 clear hY hJ0
 have hK0:KpJ B0 W W:=rfl
 refine callsIn_of_wp Tryz.func234 rfl trivial ?_ rfl
 simp only[Tryz.ntmps234,List.size_toArray,List.length_cons,List.length_nil,Nat.reduceAdd,Nat.reduceSub,Array.replicate_succ,Array.replicate_zero,List.push_toArray,List.append_toArray,List.nil_append,List.cons_append]
 refine wpIn_wide.2 ?_
 go_wp2_with fail
 clear hB
 go_loopw [3] (fun i wr=>∃(k:Nat) (pre:List P10),k≤j+1∧i=.int .i64 (-(j:Int)+2*(k:Int))∧Hid (pre.map (·.1)=prj (j:Int) k)∧Hid (J pre wr)∧Hid (KpJ B0 W wr)) (fun i _=>((j:Int)+2-RowKit.intOf i).toNat)
 case atStart=>exact⟨0,[],Nat.zero_le _,by go_num,rfl,HJ0.out,hK0⟩
 case round =>
  clear hK0 HJ0
  obtain⟨k,pre,hk,rfl,HPE,HJ,HK⟩:=hrel
  have hB:wr.cell? ⟨B0,0,none⟩=some (.int .i64 (j:Int)):=(World.cell?_of_block (a:=⟨B0,0,none⟩) (show wr.heap[B0]?=W.heap[B0]? from HK.out)).trans HB.out
  by_cases hlt:k<j+1
  ·have HPS:=kk (prj_succ (j:Int) k)
   have hP:In10 (-(j:Int)+2*(k:Int)):=by unfold In10;omega
   have HLP:Hid (pre.length=k):=by unfold Hid;rw[←prj_len (j:Int) k,←HPE.out,List.length_map]
   have HPX:Hid ((pre++[(⟨-(j:Int)+2*(k:Int),hP⟩:P10)]).map (·.1)=prj (j:Int) (k+1)):=by unfold Hid;rw[List.map_append,HPE.out,prj_succ];rfl
   obtain⟨fn,tmps,assign,body,hyl,hR⟩:=HY.out pre ⟨-(j:Int)+2*(k:Int),hP⟩ wr HJ.out (by rw[HLP.out];omega)
   have HRD:=kk hR;clear hR
   simp only at hyl
   have i1:-(j:Int)+2*(k:Int)≤(j:Int):=by omega
   obtain⟨M,hM⟩:∃M:Int,-(j:Int)+2*(k:Int)=M:=⟨_,rfl⟩
   obtain⟨q,hq⟩:∃q:List P10,pre++[(⟨-(j:Int)+2*(k:Int),hP⟩:P10)]=q:=⟨_,rfl⟩
   rw[hq] at HPX HRD
   clear hq
   rw[hM] at i1 hyl
   simp only[hM]
   have i2:-8≤M:=by omega
   have HM:=kk hM;clear hM
   go_upto_region 3 with (fail)
   refine(wpIn_wide (n:=N)).1 ?_
   gi_wp2
   refine HRD.out.mono ?_
   rintro e w10 (⟨rfl,hJ3,hk3⟩ | ⟨rfl,hJx3⟩)
   ·have HJ3:=kk hJ3
    have HK3:=kk (HK.out.trans hk3)
    clear hJ3 hk3 hyl hB
    gi_wp2
    go_wp2_with fail
    go_roundw
    case rel=>exact⟨k+1,q,by omega,by rw[←HM.out];go_num,HPX.out,HJ3.out,HK3.out⟩
    case measure=>have:=HM.out;simp[RowKit.intOf];omega
   ·have HJX:=kk hJx3;clear hJx3
    gi_wp2
    go_wp2_with fail
    refine bodyPost_ret (results_none rfl _ _ _) rfl ?_
    exact⟨⟨_,rfl⟩,.inr ⟨_,trivial,HJX.out⟩⟩
  ·obtain rfl:k=j+1:=by omega
   have i1:¬(-(j:Int)+2*((j+1:Nat):Int)≤(j:Int)):=by omega
   go_wp2_with fail
   go_end0
   exact⟨⟨_,rfl⟩,.inl ⟨pre,HPE.out,HJ.out⟩⟩
theorem projections_any (j:Int) (w:World) :
 Calls Tryz.prog 178 #[.int .i64 j] w fun e w'=>e=.returned (.func (.func 234) #[] #[.pointer (some ⟨w.heap.size,0,none⟩)])∧w'=w.alloc (.cells #[.int .i64 j] 181):=by
 go_enter Tryz.func178,Tryz.ntmps178
 go_wp2_with fail
 go_ret
 exact⟨rfl,rfl⟩
theorem proj_stops (N:Nat) (hN:1≤N) (B0 j:Nat) (hj:j≤8) (w:World) (hB:w.cell? ⟨B0,0,none⟩=some (.int .i64 (j:Int))) :
 SeqStopsK Fence.wide N Tryz.prog 234 #[.pointer (some ⟨B0,0,none⟩)] (fun x:P10=>#[.int .i64 x.1]) (KpJ B0) (fun ys=>ys.map (·.1)=prj (j:Int) (j+1)) (fun _=>True) (j+1) w:=by
 intro l J Jx W hW _ _ hY hJ0
 exact proj_in N hN l B0 j hj J Jx W hY ((hW.cell (p:=⟨B0,0,none⟩) (World.block_lt_of_cell? _ _ hB)).trans hB) hJ0
end
section
open Go.RowKit Go.Shelf
attribute [local go_sem] Oper.semAt_some
def decRow (T:Int→Int→Int) (o:Int) (ys:List Int):Int→Int→Int:=ys.foldl (fun T s=>upd T o s (T o s-1)) T
theorem decRow_snoc (T:Int→Int→Int) (o:Int) (ys:List Int) (s:Int):decRow T o (ys++[s])=upd (decRow T o ys) o s (decRow T o ys o s-1):=by simp[decRow]
def stk (T:Int→Int→Int) (S L:Nat):Nat→Int→Int→Int
 | 0=>T
 | r+1=>decRow (stk T S L r) (-(L:Int)+(r:Int)) (prj (S:Int) (S+1))
theorem decRow_at (o:Int) (ys:List Int):∀(T:Int→Int→Int) (a d:Int),decRow T o ys a d=T a d-(if a=o then(ys.count d:Int) else 0):=by
 induction ys with
 | nil=>intro T a d;simp[decRow]
 | cons y ys ih =>
  intro T a d
  show decRow (upd T o y (T o y-1)) o ys a d=_
  rw[ih]
  by_cases ha:a=o
  ·subst ha
   rw[if_pos rfl,if_pos rfl]
   by_cases hd:d=y
   ·subst hd
    rw[upd_same,List.count_cons_self];omega
   ·rw[upd_other _ _ (fun h=>hd h.2),List.count_cons_of_ne (fun h=>hd h.symm)]
  ·rw[if_neg ha,if_neg ha,upd_other _ _ (fun h=>ha h.1)]
theorem prj_mem {S:Nat} {k:Nat} {d:Int}:d∈prj (S:Int) k↔-(S:Int)≤d∧d < -(S:Int)+2*k∧(d+S)%2=0:=by
 unfold prj
 simp only[List.mem_map,List.mem_range]
 constructor
 ·rintro⟨i,hi,rfl⟩;omega
 ·rintro⟨h1,h2,h3⟩;exact⟨((d+S) / 2).toNat,by omega,by omega⟩
theorem prj_nodup (S k:Nat):(prj (S:Int) k).Nodup:=by
 induction k with
 | zero=>exact List.nodup_nil
 | succ k ih =>
  rw[prj_succ]
  refine List.nodup_append.2 ⟨ih,by simp,fun a ha c hc e=>?_⟩
  simp only[List.mem_singleton] at hc
  rw[e,hc,prj_mem] at ha
  omega
theorem prj_count (S:Nat) (d:Int):((prj (S:Int) (S+1)).count d:Int)=if -(S:Int)≤d∧d≤S∧(d+S)%2=0 then 1 else 0:=by
 by_cases h:d∈prj (S:Int) (S+1)
 ·rw[(prj_nodup S (S+1)).count,if_pos h]
  rw[prj_mem] at h
  rw[if_pos (by omega)];rfl
 ·rw[List.count_eq_zero_of_not_mem h]
  rw[prj_mem] at h
  rw[if_neg (by omega)];rfl
theorem stk_at (T:Int→Int→Int) (S L:Nat) (a d:Int):∀r:Nat,stk T S L r a d=T a d-(if(-(L:Int)≤a∧a < -(L:Int)+r)∧(-(S:Int)≤d∧d≤S∧(d+S)%2=0) then 1 else 0):=by
 intro r
 induction r with
 | zero=>simp[stk];omega
 | succ r ih =>
  rw[stk,decRow_at,ih,prj_count]
  by_cases hd:-(S:Int)≤d∧d≤S∧(d+S)%2=0
  ·simp only[hd,and_true,if_true]
   by_cases ha:a=-(L:Int)+r
   ·rw[if_pos ha,if_neg (by omega),if_pos (by omega)];omega
   ·rw[if_neg ha]
    by_cases h2:-(L:Int)≤a∧a < -(L:Int)+r
    ·rw[if_pos h2,if_pos (by omega)];omega
    ·rw[if_neg h2,if_neg (by omega)];omega
  ·simp[hd]
theorem stk_all (T:Int→Int→Int) (S L:Nat) (a d:Int):stk T S L (2*L+1) a d=T a d-(if rct ((S:Int),(L:Int)) a d=true then 1 else 0):=by
 rw[stk_at]
 congr 1
 by_cases h:rct ((S:Int),(L:Int)) a d=true
 ·rw[if_pos h]
  unfold rct at h
  rw[decide_eq_true_eq] at h
  simp only at h
  rw[if_pos (by omega)]
 ·rw[if_neg h]
  unfold rct at h
  rw[decide_eq_true_eq] at h
  simp only at h
  rw[if_neg (by omega)]
def mark (D:Nat):Deferred:={ target:=.collected D,args:=#[] }
def Shut (Ds:List Nat) (W:World):Prop:=Ds.Nodup∧∀D∈Ds,W.heap[D]?=some (.deferred (some []))
theorem leaves_marks {F:Fence} {n:Nat} {P:Program} {fn:Func} {tmps:Array Value} {R:Ending→World→Prop} {b0:World} {row:Option Nat}:∀(Ds:List Nat) (W:World),Shut Ds W→(∀D∈Ds,b0.heap.size≤D)→b0.grownBy W row →
 (∀W',(∀k,k∉Ds→W'.heap[k]?=W.heap[k]?)→b0.grownBy W' row→LeavesIn F n P fn tmps R [] .returning W')→LeavesInM F n P fn tmps R (Ds.map mark) .returning W:=by
 intro Ds
 induction Ds with
 | nil=>intro W _ _ hg h;exact h W (fun _ _=>rfl) hg
 | cons D Ds ih =>
  intro W hS hB hg h
  have hD:=hS.2 D (by simp)
  have hn:=List.nodup_cons.1 hS.1
  refine⟨by simp,.inl ⟨D,W.putObj D (.deferred none),rfl,run_takeDeferred hD,?_⟩⟩
  refine ih _ ⟨hn.2,fun E hE=>?_⟩ (fun E hE=>hB E (by simp[hE])) ?_ fun W' hW' hg'=>h W' (fun k hk=>?_) hg'
  ·rw[World.putObj_heap_other (by rintro rfl;exact hn.1 hE)]
   exact hS.2 E (by simp[hE])
  ·exact gb_own hg (grownBy_putObj' W D (.deferred none)) (fun g e=>by cases e;exact hB D (by simp))
  ·rw[hW' k (by simp at hk;exact hk.2),World.putObj_heap_other (by simp at hk;exact hk.1)]
def RowI (w:World) (b z pO N M:Nat) (T:Int→Int→Int) (S L:Nat) (o:Int) (Ds:List Nat) (pre:List P10) (W:World):Prop :=
 Tbl W b (N+pre.length) (decRow T o (pre.map (·.1)))∧Blk W z 217 #[.map (some b)]∧Blk W (z+1) 52 #[.int .i64 (S:Int),.int .i64 (L:Int)]∧Blk W pO 3 #[.int .i64 o]∧w.grownBy W (some b)∧M≤W.heap.size∧Shut Ds W
theorem rowI_own (w:World) (b z pO N M:Nat) (T:Int→Int→Int) (S L:Nat) (o:Int) (Ds:List Nat) (B:Nat) (hB:w.heap.size≤B) (hb:b<B) (hz:z+1<B) (hp:pO<B) (hD:∀D∈Ds,D<B):OwnFrom B (RowI w b z pO N M T S L o Ds):=by
 rintro pre X Y row ⟨h1,h2,h3,h4,h5,hM,h6,h7⟩ hg hr
 have hne:∀k,k<B→some k≠row:=fun k hk e=>by have:=(hr k e.symm).1;omega
 refine⟨h1.kept (hg.block b h1.lt (hne b hb)),h2.grown hg (hne z (by omega)),h3.grown hg (hne _ hz),h4.grown hg (hne _ hp),gb_own h5 hg (fun g e=>by have:=(hr g e).1;omega),Nat.le_trans hM hg.size,h6,fun D hD'=>?_⟩
 have h8:=h7 D hD'
 exact(hg.block D (Array.getElem?_eq_some_iff.1 h8).1 (hne D (hD D hD'))).trans h8
end
section
open Go.RowKit Go.Shelf
attribute [local go_sem] Oper.semAt_some
theorem strike_any (b n S L:Nat) (T:Int→Int→Int) (w:World) (hS:S≤8) (hL:L≤8) (hn:n≤1000000) (ht:Tbl w b n T) (htb:∀a d,-1000000≤T a d∧T a d≤1000000) :
 Calls Tryz.prog 223 #[.map (some b),.agg #[.int .i64 (S:Int),.int .i64 (L:Int)]] w fun e w'=>e=.returned (.tuple #[])∧Tbl w' b (n+200) (stk T S L (2*L+1))∧w.grownBy w' (some b):=by
 refine(callsIn_wide (n:=3)).1 ?_
 refine callsIn_of_wp_marks Tryz.func223 rfl trivial ?_ rfl
 simp only[Tryz.ntmps223,List.size_toArray,List.length_cons,List.length_nil,Nat.reduceAdd,Nat.reduceSub,Array.replicate_succ,Array.replicate_zero,List.push_toArray,List.append_toArray,List.nil_append,List.cons_append]
 have hb:=ht.lt
 have HTB:=kk htb;clear htb
 have HT:=kk ht
 obtain⟨z,hz⟩:∃z,w.heap.size=z:=⟨_,rfl⟩
 have B1:=Blk.new w 217 #[.map (some b)]
 have B2:=Blk.new (w.alloc (.cells #[.map (some b)] 217)) 52 #[.int .i64 (S:Int),.int .i64 (L:Int)]
 have B3:=Blk.new ((w.alloc (.cells #[.map (some b)] 217)).alloc (.cells #[.int .i64 (S:Int),.int .i64 (L:Int)] 52)) 3 #[.int .i64 (-(L:Int))]
 rw[World.size_alloc] at B2
 rw[World.size_alloc,World.size_alloc] at B3
 rw[hz] at B1 B2 B3 hb
 have HB1:=kk ((B1.alloc (.cells #[.int .i64 (S:Int),.int .i64 (L:Int)] 52)).alloc (.cells #[.int .i64 (-(L:Int))] 3))
 have HB2:=kk (B2.alloc (.cells #[.int .i64 (-(L:Int))] 3))
 have HB3:=kk B3
 have HG0:=kk (gb_alloc (gb_alloc (gb_alloc (gb_refl w (some b)) (.cells #[.map (some b)] 217)) (.cells #[.int .i64 (S:Int),.int .i64 (L:Int)] 52)) (.cells #[.int .i64 (-(L:Int))] 3))
 have HT0:=kk (ht.below ((((Below.refl w.heap.size w).alloc (Nat.le_refl _) (.cells #[.map (some b)] 217)).alloc (by simp) (.cells #[.int .i64 (S:Int),.int .i64 (L:Int)] 52)).alloc (by simp;omega) (.cells #[.int .i64 (-(L:Int))] 3)))
 have HC0:=kk (show -(L:Int)+((0:Nat):Int)=-(L:Int) by omega)
 clear ht B1 B2 B3
 gi_wp2
 have HZ:=kk hz;clear hz
 refine wpIn_loop_rounds (2*L+2) ?_
 refine(fun(h:∀(d r:Nat),r+d=2*L+1→∀(pO:Nat) (Ds:List Nat) (u5 u6 u7 u8 u9 u10 u11 u12 u13 u14 u15 u16 u17 u18 u19 u20 u21 u22 u23 u24 u25 u26 u27:Value) (W:World),
  Tbl W b (n+r*9) (stk T S L r)→Blk W z 217 #[.map (some b)]→Blk W (z+1) 52 #[.int .i64 (S:Int),.int .i64 (L:Int)]→Blk W pO 3 #[.int .i64 (-(L:Int)+(r:Int))]→w.grownBy W (some b)→Shut Ds W→(∀D∈Ds,z≤D) →
  Code.roundsIn Fence.wide 3 Tryz.prog _ _ (d+1) { tmps:=#[.map (some b),.agg #[.int .i64 (S:Int),.int .i64 (L:Int)],.pointer (some ⟨z,0,none⟩),.pointer (some ⟨z+1,0,none⟩),.pointer (some ⟨pO,0,none⟩),u5,u6,u7,u8,u9,u10,u11,u12,u13,u14,u15,u16,u17,u18,u19,u20,u21,u22,u23,u24,u25,u26,u27],defers:=Ds.map mark } W) =>
  h (2*L+1) 0 (by omega) (z+1+1) [] _ _ _ _ _ _ _ _ _ _ _ _ _ _ _ _ _ _ _ _ _ _ _ _ (by simpa [stk] using HT0.out) HB1.out HB2.out (by rw[HC0.out];exact HB3.out) HG0.out ⟨List.nodup_nil,fun D hD=>absurd hD (by simp)⟩ (fun D hD=>absurd hD (by simp))) ?_
 clear HT0 HB1 HB2 HB3 HG0 HC0
 intro d
 induction d with
 | zero =>
  intro r hr pO Ds u5 u6 u7 u8 u9 u10 u11 u12 u13 u14 u15 u16 u17 u18 u19 u20 u21 u22 u23 u24 u25 u26 u27 W hT hz1 hz2 hp hg hsh hDs
  obtain rfl:r=2*L+1:=by omega
  rw[roundsIn_succ]
  have c0:=hp.cell 0
  have c1:=hz2.cell 1
  simp only[List.getElem?_toArray,List.getElem?_cons_zero,List.getElem?_cons_succ] at c0 c1
  have hno:¬(-(L:Int)+((2*L+1:Nat):Int)≤(L:Int)):=by omega
  generalize -(L:Int)+((2*L+1:Nat):Int)=o at *
  have HT:=kk hT;have HG:=kk hg;have HSH:=kk hsh;have HD:=kk hDs
  clear hT hg hsh hDs hz1 hz2 hp
  gi_wp2
  refine leaves_marks (b0:=w) (row:=some b) Ds W HSH.out (fun D hD=>by rw[HZ.out];exact HD.out D hD) HG.out fun W' hk hg'=>?_
  have HT':=kk (HT.out.kept (hk b (fun hbD=>by have:=HD.out b hbD;omega)))
  exact⟨.tuple #[],by simp[results,Tryz.results223,go_sem],rfl,HT'.out.more (by omega),hg'⟩
 | succ d ih =>
  intro r hr pO Ds u5 u6 u7 u8 u9 u10 u11 u12 u13 u14 u15 u16 u17 u18 u19 u20 u21 u22 u23 u24 u25 u26 u27 W hT hz1 hz2 hp hg hsh hDs
  rw[roundsIn_succ]
  have c0:=hp.cell 0
  have c1:=hz2.cell 1
  have c2:=hz2.cell 0
  simp only[List.getElem?_toArray,List.getElem?_cons_zero,List.getElem?_cons_succ] at c0 c1 c2
  have hyes:-(L:Int)+(r:Int)≤(L:Int):=by omega
  have ho1:-8≤-(L:Int)+(r:Int):=by omega
  have HN:=kk (show -(L:Int)+((r+1:Nat):Int)=(-(L:Int)+(r:Int))+1 by omega)
  have HSTK:=kk (show stk T S L (r+1)=decRow (stk T S L r) (-(L:Int)+(r:Int)) (prj (S:Int) (S+1)) from rfl)
  generalize -(L:Int)+(r:Int)=o at *
  have HT:=kk hT;have HG:=kk hg;have HSH:=kk hsh;have HD:=kk hDs;have HP:=kk hp;have H1:=kk hz1;have H2:=kk hz2
  have hzW:z+1<W.heap.size:=hz2.lt
  have hpW:pO<W.heap.size:=hp.lt
  clear hT hg hsh hDs hz1 hz2 hp
  gi_wp2_with ((refine⟨trivial,?_⟩;gi_at_call 178;refine(callsIn_wide.2 (projections_any _ _)).mono ?_;rintro e w' ⟨rfl,rfl⟩))
  have hal:Below W.heap.size W (W.alloc (.cells #[.int .i64 (S:Int)] 181)):=(Below.refl _ _).alloc (Nat.le_refl _) _
  have cS:=(Blk.new W 181 #[.int .i64 (S:Int)]).cell 0
  have HI0:Hid (RowI w b z pO (n+r*9) (W.heap.size+1) (stk T S L r) S L o Ds [] (W.alloc (.cells #[.int .i64 (S:Int)] 181))) :=
   ⟨HT.out.below hal,H1.out.sub hal,H2.out.sub hal,HP.out.sub hal,gb_below HG.out hal,by simp,HSH.out.1,fun D hD=>(hal.block D (Array.getElem?_eq_some_iff.1 (HSH.out.2 D hD)).1).trans (HSH.out.2 D hD)⟩
  refine wpIn_rangeFunc_ownG rfl (by omega) (gf:=234) (lb:=#[.pointer (some ⟨W.heap.size,0,none⟩)]) rfl trivial (enters_of Tryz.func234 (by kernel_rfl) rfl)
   (proj_stops 2 (by omega) W.heap.size S hS (W.alloc (.cells #[.int .i64 (S:Int)] 181)) cS) KpJ.trans (fun X l o o' hl ho hc hk=>World.putObj_heap_other (by simp at hl;omega)) (Below.refl _ _) (fun _=>rfl)
   (RowI w b z pO (n+r*9) (W.heap.size+1) (stk T S L r) S L o Ds) (fun _ _ _=>False)
   (rowI_own w b z pO _ _ _ S L o Ds _ (by simp;have:=HG.out.size;omega) (by simp;omega) (by simp;omega) (by simp;omega) (fun D hD=>by have:=(Array.getElem?_eq_some_iff.1 (HSH.out.2 D hD)).1;simp;omega))
   (fun _ _ _ _ _ hs _ _=>hs) HI0.out
   (fun x=>{ tmps:=#[.map (some b),.agg #[.int .i64 (S:Int),.int .i64 (L:Int)],.pointer (some ⟨z,0,none⟩),.pointer (some ⟨z+1,0,none⟩),.pointer (some ⟨pO,0,none⟩),.int .i64 x.1,u6,u7,u8,.int .i64 o,.pointer (some ⟨z+1,1,none⟩),.int .i64 (L:Int),.bool true,u13,u14,.pointer (some ⟨z+1,0,none⟩),.int .i64 (S:Int),.func (.func 234) #[] #[.pointer (some ⟨W.heap.size,0,none⟩)],.int .i64 x.1,u19,u20,u21,u22,u23,u24,u25,u26,u27],defers:=[] }) ?assign ?body ?done ?stop
  case assign =>
   intro l x W K hK
   gi_wp2
   exact hK
  case stop =>
   rintro D c pre W _ _ h _
   exact h.elim
  case body =>
   rintro l pre ⟨x,hx⟩ X ⟨hT,h1,h2,hp,hg,hM,hsh⟩ hlt
   have HTX:=kk hT;have H1X:=kk h1;have H2X:=kk h2;have HPX:=kk hp;have HGX:=kk hg;have HSX:=kk hsh
   have hbX:=hT.lt
   clear hT h1 h2 hp hg hsh hal cS HI0 c0 c1 c2
   have HLB:Hid ((pre++[(⟨x,hx⟩:P10)]).map (·.1)=pre.map (·.1)++[x]):=by unfold Hid;simp
   have HLE:Hid ((pre++[(⟨x,hx⟩:P10)]).length=pre.length+1):=by unfold Hid;simp
   have hpl:=hlt
   have HIO:Hid (In10 o):=by unfold Hid In10;omega
   have HIX:=kk hx
   have HTD:=kk (HTX.out.kept (w':=X.drew) rfl)
   have hTb:-2000000≤decRow (stk T S L r) o (pre.map (·.1)) o x∧decRow (stk T S L r) o (pre.map (·.1)) o x≤2000000:=by
    rw[decRow_at,stk_at]
    have q1:=HTB.out o x
    have q2:=List.count_le_length (a:=x) (l:=pre.map (·.1))
    rw[List.length_map] at q2
    split<;>split<;>omega
   obtain⟨C,hC⟩:∃C,decRow (stk T S L r) o (pre.map (·.1)) o x=C:=⟨_,rfl⟩
   obtain⟨v0,st,W1,l1,e1,l2,hg1,hst⟩:=HTD.out.bump (by unfold maxLen;omega) HIO.out HIX.out
   rw[hC] at hTb l1 l2
   obtain⟨W2,s1,ht2,hg2⟩:=hst (C-1) (wf64' (by omega) (by omega))
   have HT2:Hid (Tbl W2 b (n+r*9+(pre++[(⟨x,hx⟩:P10)]).length) (decRow (stk T S L r) o ((pre++[(⟨x,hx⟩:P10)]).map (·.1)))):=by
    unfold Hid;rw[HLB.out,HLE.out,decRow_snoc,hC];exact ht2
   have HGW:=kk (gb_trans (gb_drew (gb_refl X (some b))) hg2)
   have HGD1:=kk hg1
   have d0:W1.cell? ⟨z,0,none⟩=some (.map (some b)):=((H1X.out.drew).tbl HTD.out HGD1.out).cell 0
   have d1:W1.cell? ⟨pO,0,none⟩=some (.int .i64 o):=((HPX.out.drew).tbl HTD.out HGD1.out).cell 0
   have d2:X.drew.cell? ⟨z,0,none⟩=some (.map (some b)):=H1X.out.drew.cell 0
   have d3:X.drew.cell? ⟨pO,0,none⟩=some (.int .i64 o):=HPX.out.drew.cell 0
   unfold keyV at l1 l2 e1
   clear hst ht2 hg1 hg2 hC
   have u1:IntKind.i64.wrap (C-1)=C-1:=IntWalk.i64_in _ (by omega)
   have hwz:=HZ.out
   have hwW:=HG.out.size
   have HFIN:Hid (KeepsFrom (W.alloc (.cells #[.int .i64 (S:Int)] 181)).heap.size X W2∧KpJ W.heap.size X W2∧RowI w b z pO (n+r*9) (W.heap.size+1) (stk T S L r) S L o Ds (pre++[(⟨x,hx⟩:P10)]) W2):=by
    refine⟨KeepsFrom.of_grownBy HGW.out (fun j e=>by cases e;rw[World.size_alloc];omega),HGW.out.block _ (by omega) (fun e=>by injection e;omega),HT2.out,H1X.out.tbl HTX.out HGW.out,H2X.out.tbl HTX.out HGW.out,HPX.out.tbl HTX.out HGW.out,gb_trans HGX.out HGW.out,Nat.le_trans hM HGW.out.size,HSX.out.1,fun D hD=>?_⟩
    have h8:=HSX.out.2 D hD
    refine(HGW.out.block D (Array.getElem?_eq_some_iff.1 h8).1 ?_).trans h8
    intro e
    injection e with e
    have:=HD.out D hD
    omega
   clear hwz hwW
   gi_wp2
   gi_region
   all_goals
    gi_wp2
    exact HFIN.out
  case done =>
   rintro D ys X hD hys ⟨hT,h1,h2,hp,hg,hM,hsh⟩ hK
   have c3:=hp.cell 0
   simp only[List.getElem?_toArray,List.getElem?_cons_zero] at c3
   have HTX:=kk hT;have H1X:=kk h1;have H2X:=kk h2;have HPX:=kk hp;have HGX:=kk hg;have HSX:=kk hsh;have HKX:=kk hK;have HYS:=kk hys
   clear hT h1 h2 hp hg hsh hal cS HI0 c0 c1 c2 hK hys
   gi_wp2
   have HBE:=kk (Blk.new X 3 #[.int .i64 (o+1)])
   have hal:Below X.heap.size X (X.alloc (.cells #[.int .i64 (o+1)] 3)):=(Below.refl _ _).alloc (Nat.le_refl _) _
   have HTN:Hid (Tbl X b (n+(r+1)*9) (stk T S L (r+1))):=by
    unfold Hid
    rw[HSTK.out,←HYS.out]
    refine HTX.out.more ?_
    have:ys.length=S+1:=by rw[←prj_len (S:Int) (S+1),←HYS.out,List.length_map]
    omega
   refine ih (r+1) (by omega) X.heap.size (D :: Ds) _ _ _ _ _ _ _ _ _ _ _ _ _ _ _ _ _ _ _ _ _ _ _ _ (HTN.out.below hal) (H1X.out.sub hal) (H2X.out.sub hal) (by rw[HN.out];exact HBE.out) (gb_below HGX.out hal) ⟨List.nodup_cons.2 ⟨fun hDD=>?_,HSX.out.1⟩,fun E hE=>?_⟩ (fun E hE=>?_)
   ·have h8:=(Array.getElem?_eq_some_iff.1 (HSH.out.2 D hDD)).1
    rw[World.size_alloc] at hD;omega
   ·rcases List.mem_cons.1 hE with rfl | hE
    ·exact(hal.block E (Array.getElem?_eq_some_iff.1 HKX.out).1).trans HKX.out
    ·exact(hal.block E (Array.getElem?_eq_some_iff.1 (HSX.out.2 E hE)).1).trans (HSX.out.2 E hE)
   ·rcases List.mem_cons.1 hE with rfl | hE
    ·have:=HG.out.size;have:=HZ.out;rw[World.size_alloc] at hD;omega
    ·exact HD.out E hE
end
section
open Go.RowKit
theorem pow4_le {d:Nat} (h:d≤5):(4:Int) ^ d≤1024:=by
 have h5:d=0∨d=1∨d=2∨d=3∨d=4∨d=5:=by omega
 rcases h5 with rfl | rfl | rfl | rfl | rfl | rfl<;>decide
theorem ways_any (l:Int) (hl:0≤l∧l≤2):∀(d:Nat),d≤5→∀(m n o s:Int) (w:World),m+d=l+1→(-2000+100*(d:Int)≤n∧n≤2000)→(-2000+100*(d:Int)≤o∧o≤2000-100*(d:Int))→(-2000+100*(d:Int)≤s∧s≤2000-100*(d:Int)) →
 Calls Tryz.prog 265 #[.int .i64 l,.int .i64 m,.int .i64 n,.int .i64 o,.int .i64 s] w fun e w'=>e=.returned (.int .i64 (ways l d n o s))∧w=w':=by
 intro d
 induction d with
 | zero =>
  intro _ m n o s w hm hn ho hs
  have hlt:l<m:=by omega
  have HW:Hid (ways l 0 n o s=if n=0∧o=0∧s=0 then 1 else 0):=rfl
  by_cases h1:n=0∧o=0∧s=0
  ·obtain⟨rfl,rfl,rfl⟩:=h1
   clear hm
   go_enter Tryz.func265,Tryz.ntmps265
   go_wp2_with fail
   go_ret
   exact⟨ret_int (by rw[HW.out];rfl),rfl⟩
  ·have HZ:Hid (ways l 0 n o s=0):=by unfold Hid;rw[HW.out,if_neg h1]
   clear hm HW
   by_cases hn0:n=0
   ·by_cases ho0:o=0
    ·have hs0:¬s=0:=fun h=>h1 ⟨hn0,ho0,h⟩
     clear h1
     subst hn0 ho0
     have q:(s==0)=false:=by simpa using hs0
     clear hs0
     go_enter Tryz.func265,Tryz.ntmps265
     go_wp2_with fail
     go_ret
     exact⟨ret_int HZ.out.symm,rfl⟩
    ·clear h1
     subst hn0
     have q:(o==0)=false:=by simpa using ho0
     clear ho0
     go_enter Tryz.func265,Tryz.ntmps265
     go_wp2_with fail
     go_ret
     exact⟨ret_int HZ.out.symm,rfl⟩
   ·clear h1
    have q:(n==0)=false:=by simpa using hn0
    clear hn0
    go_enter Tryz.func265,Tryz.ntmps265
    go_wp2_with fail
    go_ret
    exact⟨ret_int HZ.out.symm,rfl⟩
 | succ d ih =>
  intro hd m n o s w hm hn ho hs
  have hle:m≤l:=by omega
  have hmd:l-d=m:=by omega
  by_cases h1:n<0∨2*((d:Int)+1)<n
  ·have HW:Hid (ways l (d+1) n o s=0):=by unfold Hid ways;rw[if_pos h1]
   have e1:2*(l-m+1)=2*((d:Int)+1):=by omega
   have HE:=kk e1
   clear ih
   rcases h1 with h1 | h1
   ·clear hm hmd e1
    go_enter Tryz.func265,Tryz.ntmps265
    go_wp2_with fail
    go_ret
    exact⟨ret_int HW.out.symm,rfl⟩
   ·have h2:2*(l-m+1)<n:=by omega
    have h3:¬n<0:=by omega
    clear hm hmd e1
    go_enter Tryz.func265,Tryz.ntmps265
    go_wp2_with fail
    go_ret
    exact⟨ret_int HW.out.symm,rfl⟩
  ·have HW:Hid (ways l (d+1) n o s=ways l d n o s+ways l d (n-1) (o-m) (s-1)+ways l d (n-1) (o-m) (s+1)+ways l d (n-2) (o-2*m) s):=by unfold Hid;rw[ways,if_neg h1,hmd]
   have h2:¬2*(l-m+1)<n:=by omega
   have h3:¬n<0:=by omega
   have c1:=kk (fun W=>ih (by omega) (m+1) n o s W (by omega) (by omega) (by omega) (by omega))
   have c2:=kk (fun W=>ih (by omega) (m+1) (n-1) (o-m) (s-1) W (by omega) (by omega) (by omega) (by omega))
   have c3:=kk (fun W=>ih (by omega) (m+1) (n-1) (o-m) (s+1) W (by omega) (by omega) (by omega) (by omega))
   have c4:=kk (fun W=>ih (by omega) (m+1) (n-2) (o-2*m) s W (by omega) (by omega) (by omega) (by omega))
   have p4:=pow4_le (d:=d) (by omega)
   have b1:=ways_bd l d n o s
   have b2:=ways_bd l d (n-1) (o-m) (s-1)
   have b3:=ways_bd l d (n-1) (o-m) (s+1)
   have b4:=ways_bd l d (n-2) (o-2*m) s
   have d1:0≤ways l d n o s∧ways l d n o s≤1024:=by omega
   have d2:0≤ways l d (n-1) (o-m) (s-1)∧ways l d (n-1) (o-m) (s-1)≤1024:=by omega
   have d3:0≤ways l d (n-1) (o-m) (s+1)∧ways l d (n-1) (o-m) (s+1)≤1024:=by omega
   have d4:0≤ways l d (n-2) (o-2*m) s∧ways l d (n-2) (o-2*m) s≤1024:=by omega
   have bm:-5≤m∧m≤3:=by omega
   clear b1 b2 b3 b4 p4 ih hm hmd h1
   generalize ways l d n o s=x1 at *
   generalize ways l d (n-1) (o-m) (s-1)=x2 at *
   generalize ways l d (n-1) (o-m) (s+1)=x3 at *
   generalize ways l d (n-2) (o-2*m) s=x4 at *
   generalize ways l (d+1) n o s=x at *
   go_enter Tryz.func265,Tryz.ntmps265
   go_wp2_with fail
   refine(c1.out _).mono ?_
   rintro e w1 ⟨rfl,rfl⟩
   go_wp2_with fail
   refine(c2.out _).mono ?_
   rintro e w1 ⟨rfl,rfl⟩
   go_wp2_with fail
   refine(c3.out _).mono ?_
   rintro e w1 ⟨rfl,rfl⟩
   go_wp2_with fail
   refine(c4.out _).mono ?_
   rintro e w1 ⟨rfl,rfl⟩
   go_wp2_with fail
   go_ret
   exact⟨ret_int HW.out.symm,rfl⟩
theorem l12Ok_any (l n:Int) (hl:-100≤l∧l≤100) (w:World):Calls Tryz.prog 193 #[.int .i64 l,.int .i64 n] w fun e w'=>e=.returned (.bool (inB l 0 2&&inB n 0 (4*l+2)))∧w=w':=by
 have H:=kk (fun n lo hi W=>l6In_any n lo hi W)
 cases h1:inB l 0 2
 ·have HV:=kk (fun W=>l6In_any l 0 2 W)
  rw[h1] at HV
  clear h1
  go_enter Tryz.func193,Tryz.ntmps193
  go_wp2_with fail
  refine(HV.out _).mono ?_
  rintro e w1 ⟨rfl,rfl⟩
  go_wp2_with fail
  go_ret
  exact⟨rfl,rfl⟩
 ·have HV:=kk (fun W=>l6In_any l 0 2 W)
  rw[h1] at HV
  clear h1
  go_enter Tryz.func193,Tryz.ntmps193
  go_wp2_with fail
  refine(HV.out _).mono ?_
  rintro e w1 ⟨rfl,rfl⟩
  go_wp2_with fail
  refine(H.out _ _ _ _).mono ?_
  rintro e w1 ⟨rfl,rfl⟩
  go_wp2_with fail
  go_ret
  exact⟨rfl,rfl⟩
theorem okLN {l n:Nat} (hl:l≤2) (hn:n≤capL l):(inB (l:Int) 0 2&&inB (n:Int) 0 (4*(l:Int)+2))=true:=by
 unfold capL at hn
 rw[Bool.and_eq_true,inB_iff,inB_iff];omega
theorem mcS_bd (l n:Nat) (hl:l≤2) (o s:Int):0≤mcS l n o s∧mcS l n o s≤1024:=by
 have:=ways_bd l (2*l+1) n o s
 have:=pow4_le (d:=2*l+1) (by omega)
 unfold mcS;omega
theorem specMicroCount_any (l n:Nat) (hl:l≤2) (hn:n≤capL l) (o s:Int) (ho:-20≤o∧o≤20) (hs:-20≤s∧s≤20) (w:World) :
 Calls Tryz.prog 241 #[.int .i64 (l:Int),.int .i64 (n:Int),.int .i64 o,.int .i64 s] w fun e w'=>e=.returned (.int .i64 (mcS l n o s))∧w=w':=by
 have HOK:=kk (fun W=>l12Ok_any (l:Int) (n:Int) (by omega) W)
 rw[okLN hl hn] at HOK
 have hn':n≤10:=by unfold capL at hn;omega
 have HO:=kk (fun W=>l6In_any o (-20) 20 W)
 rw[inB_iff.2 ho] at HO
 have HS:=kk (fun W=>l6In_any s (-20) 20 W)
 rw[inB_iff.2 hs] at HS
 have HW:=kk (fun W=>ways_any (l:Int) (by omega) (2*l+1) (by omega) (0-(l:Int)) (n:Int) o s W (by omega) (by omega) (by omega) (by omega))
 have HM:=kk (show ways (l:Int) (2*l+1) (n:Int) o s=mcS l n o s from rfl)
 rw[HM.out] at HW
 simp only[Int.zero_sub] at HW
 generalize mcS l n o s=x at *
 clear hn HM
 go_enter Tryz.func241,Tryz.ntmps241
 go_wp2_with fail
 refine(HOK.out _).mono ?_
 rintro e w1 ⟨rfl,rfl⟩
 go_wp2_with fail
 refine(HO.out _).mono ?_
 rintro e w1 ⟨rfl,rfl⟩
 go_wp2_with fail
 refine(HS.out _).mono ?_
 rintro e w1 ⟨rfl,rfl⟩
 go_wp2_with fail
 refine(HW.out _).mono ?_
 rintro e w1 ⟨rfl,rfl⟩
 go_wp2_with fail
 go_ret
 exact⟨rfl,rfl⟩
theorem specTermCount_any (l n:Nat) (hl:l≤2) (hn:n≤capL l) (o s:Int) (ho:0≤o∧o≤8) (hs:0≤s∧s≤8) (w:World) :
 Calls Tryz.prog 194 #[.int .i64 (l:Int),.int .i64 (n:Int),.agg #[.int .i64 s,.int .i64 o]] w fun e w'=>e=.returned (.int .i64 (tcS l n o s))∧Below w.heap.size w w':=by
 have HOK:=kk (fun W=>l12Ok_any (l:Int) (n:Int) (by omega) W)
 rw[okLN hl hn] at HOK
 have HTV:=kk (fun W=>specTermValid_any (s,o) W)
 rw[tvB_iff.2 ⟨hs,ho⟩] at HTV
 have HM:=kk (fun(o s:Int) (ho:-20≤o∧o≤20) (hs:-20≤s∧s≤20) W=>specMicroCount_any l n hl hn o s ho hs W)
 have HT:=kk (show tcS l n o s=mcS l n o s-mcS l n (o+1) s-mcS l n o (s+2)+mcS l n (o+1) (s+2) from rfl)
 have HBD:=kk (fun o s=>mcS_bd l n hl o s)
 generalize tcS l n o s=x at *
 obtain⟨M,hM⟩:∃M,mcS l n=M:=⟨_,rfl⟩
 rw[hM] at HM HT HBD
 clear hM
 have b1:=HBD.out o s
 have b2:=HBD.out (o+1) s
 have b3:=HBD.out o (s+2)
 have b4:=HBD.out (o+1) (s+2)
 have hB:=(Below.refl w.heap.size w).alloc (Nat.le_refl _) (.cells #[.int .i64 s,.int .i64 o] 52)
 have HB:=kk hB;clear hB
 go_enter Tryz.func194,Tryz.ntmps194
 go_wp2_with fail
 refine(HTV.out _).mono ?_
 rintro e w1 ⟨rfl,hb1⟩
 have HBK:=kk ((Blk.new w 52 #[.int .i64 s,.int .i64 o]).sub hb1)
 have HB1:=kk (HB.out.trans (hb1.mono HB.out.size));clear hb1 HB
 go_wp2_with fail
 refine(HOK.out _).mono ?_
 rintro e w2 ⟨rfl,rfl⟩
 go_wp2_with fail
 have k1:=After.cell (HBK.out.cell 0)
 have k2:=After.cell (HBK.out.cell 1)
 have u1:IntKind.i64.wrap (o+1)=o+1:=IntWalk.i64_in _ (by omega)
 have u2:IntKind.i64.wrap (M o s-M (o+1) s)=M o s-M (o+1) s:=IntWalk.i64_in _ (by omega)
 refine wp_region_after (by kernel_rfl) (by kernel_rfl) ?_
 repeat (go_big_quiet_step ((go_at_call 241;exact after_same _ (HM.out _ _ (by omega) (by omega) _))))
 refine wpQuiet_nil ?_
 intro w9 hw'
 obtain⟨⟨w9',hb9⟩,hw''⟩:=hw'
 subst hw''
 have HBK9:=kk (HBK.out.sub hb9)
 have HB9:=kk (HB1.out.trans (hb9.mono HB1.out.size));clear hb9 k1 k2 u1 u2
 go_wp2_with fail
 have k1:=After.cell (HBK9.out.cell 0)
 have k2:=After.cell (HBK9.out.cell 1)
 have u1:IntKind.i64.wrap (o+1)=o+1:=IntWalk.i64_in _ (by omega)
 have u3:IntKind.i64.wrap (s+2)=s+2:=IntWalk.i64_in _ (by omega)
 have u2:IntKind.i64.wrap (M o s-M (o+1) s-M o (s+2))=M o s-M (o+1) s-M o (s+2):=IntWalk.i64_in _ (by omega)
 have u4:IntKind.i64.wrap (M o s-M (o+1) s-M o (s+2)+M (o+1) (s+2))=M o s-M (o+1) s-M o (s+2)+M (o+1) (s+2):=IntWalk.i64_in _ (by omega)
 refine wp_region_after (by kernel_rfl) (by kernel_rfl) ?_
 repeat (go_big_quiet_step ((go_at_call 241;exact after_same _ (HM.out _ _ (by omega) (by omega) _))))
 refine wpQuiet_nil ?_
 intro w10 hw'
 obtain⟨⟨w10',hb10⟩,hw''⟩:=hw'
 subst hw''
 have HB10:=kk (HB9.out.trans (hb10.mono HB9.out.size));clear hb10 k1 k2 u1 u2 u3 u4
 go_wp2_with fail
 go_ret
 exact⟨ret_int HT.out.symm,HB10.out⟩
end
section
open Go.RowKit
def gen (l:Int):Nat→Int→List T2
 | 0,n=>if n=0 then[(0,0)] else[]
 | d+1,n=>if n<0∨2*((d:Int)+1)<n then[] else
  gen l d n++(gen l d (n-1)).map (fun t=>(t.1+(l-d),t.2+1))++(gen l d (n-1)).map (fun t=>(t.1+(l-d),t.2-1))++(gen l d (n-2)).map (fun t=>(t.1+2*(l-d),t.2))
theorem cnt_app (a b:List T2) (o s:Int):cnt (a++b) o s=cnt a o s+cnt b o s:=by unfold cnt;rw[List.countP_append];omega
theorem cnt_map (a:List T2) (x y o s:Int):cnt (a.map fun t=>(t.1+x,t.2+y)) o s=cnt a (o-x) (s-y):=by
 unfold cnt
 rw[List.countP_map]
 congr 1
 refine List.countP_congr fun t _=>?_
 simp only[Function.comp,beq_iff_eq,Prod.mk.injEq]
 obtain⟨t1,t2⟩:=t
 simp only[Prod.mk.injEq]
 omega
theorem ways_gen (l:Int):∀(d:Nat) (n o s:Int),ways l d n o s=cnt (gen l d n) o s:=by
 intro d
 induction d with
 | zero =>
  intro n o s
  unfold ways gen
  by_cases hn:n=0
  ·by_cases h:o=0∧s=0
   ·obtain⟨rfl,rfl⟩:=h
    subst hn
    rfl
   ·rw[if_neg (fun h'=>h h'.2),if_pos hn]
    have:((0,0)==((o,s):T2))=false:=by
     rw[beq_eq_false_iff_ne];intro e;injection e with e1 e2;exact h ⟨e1.symm,e2.symm⟩
    unfold cnt
    rw[List.countP_cons,this];rfl
  ·rw[if_neg (fun h'=>hn h'.1),if_neg hn];rfl
 | succ d ih =>
  intro n o s
  unfold ways gen
  by_cases h:n<0∨2*((d:Int)+1)<n
  ·rw[if_pos h,if_pos h];rfl
  ·rw[if_neg h,if_neg h,cnt_app,cnt_app,cnt_app,ih,ih,ih,ih]
   have e1:=cnt_map (gen l d (n-1)) (l-d) 1 o s
   have e2:=cnt_map (gen l d (n-1)) (l-d) (-1) o s
   have e3:=cnt_map (gen l d (n-2)) (2*(l-d)) 0 o s
   simp only[Int.sub_neg,Int.sub_zero,Int.add_zero,←Int.sub_eq_add_neg] at e1 e2 e3
   rw[e1,e2,e3]
def glit:Nat→Nat→List T2
 | 0,0=>decL 1 210
 | 0,1=>decL 2 83811
 | 0,2=>decL 1 210
 | 1,0=>decL 1 210
 | 1,1=>decL 6 1940263009851831
 | 1,2=>decL 15 457605118260462349534054508251556893050
 | 1,3=>decL 20 4657220210065583385820489788037220808843048293059851
 | 1,4=>decL 15 457605117503605446099880248589604893050
 | 1,5=>decL 6 1940263009851831
 | 1,6=>decL 1 210
 | 2,0=>decL 1 210
 | 2,1=>decL 10 44414713002081576293059851
 | 2,2=>decL 45 403478516870644851417630438055945342961832818025592478831238656412416854918195951239576887028765574154758878123309090
 | 2,3=>decL 120 482695145671476715250719044987040149936293837577117472953436331864429566864062386213548706169208330848683608573722628614249231912513948126336984972961410985464963187280836831269571591712350346869129668967039048658743484906928567259961605587358129054075173852695149923339049643536196429637661280959218988142683911
 | 2,4=>decL 210 611061535786523907306993703586228951388862656913981189477031549724802632289434652840302780391656427630993176368357128187130808318177782353163367967338336750952008781244576770932167618202597873686214260419553430855296380386246449310342899920481223002128983552283292898860775013998752393485740894495523126925153006789784340423625343693891975955844933447812417730984817861906641800278976790506952603941920620599087844188676433187966561509597033060248633659154861714669267261143177745333811035292280646896140747957568306756738278180080749842737725130
 | 2,5=>decL 252 11683147846289129885225213461556236898387036184400355381137795411044737763146078626886470208935319565028147257895151553826696371456744849482227123148201388845157986107762643692217292393262162247846728804038033918129537177203883748462969027718111221797489781682009504175027004260665136585383033660412417864992072289734950387554871012021155880671481206228615021936336313263763689983962487833364805865167724053954898515436418921020021984310326291905514834711773835487051960603109453794814319210275933960581621096687214577578478446653749879628082391194176480405844614775859673784290245571699720895897480261443823008600552368377991703736806103088022829425891931
 | 2,6=>decL 210 611061535786498724462701216187779072259590188937252450139504237872560303116841318213475540135158032561048424680382298758184078521371158143665093520113863821015614677975701910903304432336843210366091291706496478129314952337499151711782567021602663335747034050370446824152891241482667825251190028779532749179374279662397251098954738652006694292216905270876720850968753941766816525304375244850607526758944629717408858476726861770246987914101087152090670139378992199441881154974687711831767750979297870028455014698246785024784012919892712722737725130
 | 2,7=>decL 120 482695145668024095013616498709919787803294137816407661394761362825957700660678172344273719827686811501221103243522683295693888670990841354996218720223494964920208083520767961308926532310253866386977645338460412983884942068036671170717247209554357487376177003915289481548451541790465612493286030752457516142683911
 | 2,8=>decL 45 403478515998036737958989424386413848313937928543094145050394678714764547742669131120354815500753653885262096171309090
 | 2,9=>decL 10 44414713002081576293059851
 | 2,10=>decL 1 210
 | _,_=>[]
theorem gen_0_0:gen 0 1 0=glit 0 0:=by decide +kernel
theorem gen_0_1:gen 0 1 1=glit 0 1:=by decide +kernel
theorem gen_0_2:gen 0 1 2=glit 0 2:=by decide +kernel
theorem gen_1_0:gen 1 3 0=glit 1 0:=by decide +kernel
theorem gen_1_1:gen 1 3 1=glit 1 1:=by decide +kernel
theorem gen_1_2:gen 1 3 2=glit 1 2:=by decide +kernel
theorem gen_1_3:gen 1 3 3=glit 1 3:=by decide +kernel
theorem gen_1_4:gen 1 3 4=glit 1 4:=by decide +kernel
theorem gen_1_5:gen 1 3 5=glit 1 5:=by decide +kernel
theorem gen_1_6:gen 1 3 6=glit 1 6:=by decide +kernel
theorem gen_2_0:gen 2 5 0=glit 2 0:=by decide +kernel
theorem gen_2_1:gen 2 5 1=glit 2 1:=by decide +kernel
theorem gen_2_2:gen 2 5 2=glit 2 2:=by decide +kernel
theorem gen_2_3:gen 2 5 3=glit 2 3:=by decide +kernel
theorem gen_2_4:gen 2 5 4=glit 2 4:=by decide +kernel
theorem gen_2_5:gen 2 5 5=glit 2 5:=by decide +kernel
theorem gen_2_6:gen 2 5 6=glit 2 6:=by decide +kernel
theorem gen_2_7:gen 2 5 7=glit 2 7:=by decide +kernel
theorem gen_2_8:gen 2 5 8=glit 2 8:=by decide +kernel
theorem gen_2_9:gen 2 5 9=glit 2 9:=by decide +kernel
theorem gen_2_10:gen 2 5 10=glit 2 10:=by decide +kernel
def tcG (ms:List T2) (o s:Int):Int:=cnt ms o s-cnt ms (o+1) s-cnt ms o (s+2)+cnt ms (o+1) (s+2)
theorem tcS_gen (l n:Nat) (o s:Int):tcS l n o s=tcG (gen l (2*l+1) n) o s:=by unfold tcS tcG mcS;rw[ways_gen,ways_gen,ways_gen,ways_gen]
theorem tc_0_0:∀s:Fin 6,∀o:Fin 7,tcG (glit 0 0) (o.val:Int) (s.val:Int)=rep 0 0 s.val o.val:=by decide +kernel
theorem tc_0_1:∀s:Fin 6,∀o:Fin 7,tcG (glit 0 1) (o.val:Int) (s.val:Int)=rep 0 1 s.val o.val:=by decide +kernel
theorem tc_0_2:∀s:Fin 6,∀o:Fin 7,tcG (glit 0 2) (o.val:Int) (s.val:Int)=rep 0 2 s.val o.val:=by decide +kernel
theorem tc_1_0:∀s:Fin 6,∀o:Fin 7,tcG (glit 1 0) (o.val:Int) (s.val:Int)=rep 1 0 s.val o.val:=by decide +kernel
theorem tc_1_1:∀s:Fin 6,∀o:Fin 7,tcG (glit 1 1) (o.val:Int) (s.val:Int)=rep 1 1 s.val o.val:=by decide +kernel
theorem tc_1_2:∀s:Fin 6,∀o:Fin 7,tcG (glit 1 2) (o.val:Int) (s.val:Int)=rep 1 2 s.val o.val:=by decide +kernel
theorem tc_1_3:∀s:Fin 6,∀o:Fin 7,tcG (glit 1 3) (o.val:Int) (s.val:Int)=rep 1 3 s.val o.val:=by decide +kernel
theorem tc_1_4:∀s:Fin 6,∀o:Fin 7,tcG (glit 1 4) (o.val:Int) (s.val:Int)=rep 1 4 s.val o.val:=by decide +kernel
theorem tc_1_5:∀s:Fin 6,∀o:Fin 7,tcG (glit 1 5) (o.val:Int) (s.val:Int)=rep 1 5 s.val o.val:=by decide +kernel
theorem tc_1_6:∀s:Fin 6,∀o:Fin 7,tcG (glit 1 6) (o.val:Int) (s.val:Int)=rep 1 6 s.val o.val:=by decide +kernel
theorem tc_2_0:∀s:Fin 6,∀o:Fin 7,tcG (glit 2 0) (o.val:Int) (s.val:Int)=rep 2 0 s.val o.val:=by decide +kernel
theorem tc_2_1:∀s:Fin 6,∀o:Fin 7,tcG (glit 2 1) (o.val:Int) (s.val:Int)=rep 2 1 s.val o.val:=by decide +kernel
theorem tc_2_2:∀s:Fin 6,∀o:Fin 7,tcG (glit 2 2) (o.val:Int) (s.val:Int)=rep 2 2 s.val o.val:=by decide +kernel
theorem tc_2_3:∀s:Fin 6,∀o:Fin 7,tcG (glit 2 3) (o.val:Int) (s.val:Int)=rep 2 3 s.val o.val:=by decide +kernel
theorem tc_2_4:∀s:Fin 6,∀o:Fin 7,tcG (glit 2 4) (o.val:Int) (s.val:Int)=rep 2 4 s.val o.val:=by decide +kernel
theorem tc_2_5:∀s:Fin 6,∀o:Fin 7,tcG (glit 2 5) (o.val:Int) (s.val:Int)=rep 2 5 s.val o.val:=by decide +kernel
theorem tc_2_6:∀s:Fin 6,∀o:Fin 7,tcG (glit 2 6) (o.val:Int) (s.val:Int)=rep 2 6 s.val o.val:=by decide +kernel
theorem tc_2_7:∀s:Fin 6,∀o:Fin 7,tcG (glit 2 7) (o.val:Int) (s.val:Int)=rep 2 7 s.val o.val:=by decide +kernel
theorem tc_2_8:∀s:Fin 6,∀o:Fin 7,tcG (glit 2 8) (o.val:Int) (s.val:Int)=rep 2 8 s.val o.val:=by decide +kernel
theorem tc_2_9:∀s:Fin 6,∀o:Fin 7,tcG (glit 2 9) (o.val:Int) (s.val:Int)=rep 2 9 s.val o.val:=by decide +kernel
theorem tc_2_10:∀s:Fin 6,∀o:Fin 7,tcG (glit 2 10) (o.val:Int) (s.val:Int)=rep 2 10 s.val o.val:=by decide +kernel
theorem tc_rep {l n:Nat} (hl:l≤2) (hn:n≤capL l) (s:Fin 6) (o:Fin 7):tcS l n (o.val:Int) (s.val:Int)=rep l n s.val o.val:=by
 rw[tcS_gen]
 unfold capL at hn
 have h:l=0∨l=1∨l=2:=by omega
 rcases h with rfl | rfl | rfl
 ·have h:n=0∨n=1∨n=2:=by omega
  rcases h with rfl | rfl | rfl
  ·exact(congrArg (fun g=>tcG g (o.val:Int) (s.val:Int)) gen_0_0).trans (tc_0_0 s o)
  ·exact(congrArg (fun g=>tcG g (o.val:Int) (s.val:Int)) gen_0_1).trans (tc_0_1 s o)
  ·exact(congrArg (fun g=>tcG g (o.val:Int) (s.val:Int)) gen_0_2).trans (tc_0_2 s o)
 ·have h:n=0∨n=1∨n=2∨n=3∨n=4∨n=5∨n=6:=by omega
  rcases h with rfl | rfl | rfl | rfl | rfl | rfl | rfl
  ·exact(congrArg (fun g=>tcG g (o.val:Int) (s.val:Int)) gen_1_0).trans (tc_1_0 s o)
  ·exact(congrArg (fun g=>tcG g (o.val:Int) (s.val:Int)) gen_1_1).trans (tc_1_1 s o)
  ·exact(congrArg (fun g=>tcG g (o.val:Int) (s.val:Int)) gen_1_2).trans (tc_1_2 s o)
  ·exact(congrArg (fun g=>tcG g (o.val:Int) (s.val:Int)) gen_1_3).trans (tc_1_3 s o)
  ·exact(congrArg (fun g=>tcG g (o.val:Int) (s.val:Int)) gen_1_4).trans (tc_1_4 s o)
  ·exact(congrArg (fun g=>tcG g (o.val:Int) (s.val:Int)) gen_1_5).trans (tc_1_5 s o)
  ·exact(congrArg (fun g=>tcG g (o.val:Int) (s.val:Int)) gen_1_6).trans (tc_1_6 s o)
 ·have h:n=0∨n=1∨n=2∨n=3∨n=4∨n=5∨n=6∨n=7∨n=8∨n=9∨n=10:=by omega
  rcases h with rfl | rfl | rfl | rfl | rfl | rfl | rfl | rfl | rfl | rfl | rfl
  ·exact(congrArg (fun g=>tcG g (o.val:Int) (s.val:Int)) gen_2_0).trans (tc_2_0 s o)
  ·exact(congrArg (fun g=>tcG g (o.val:Int) (s.val:Int)) gen_2_1).trans (tc_2_1 s o)
  ·exact(congrArg (fun g=>tcG g (o.val:Int) (s.val:Int)) gen_2_2).trans (tc_2_2 s o)
  ·exact(congrArg (fun g=>tcG g (o.val:Int) (s.val:Int)) gen_2_3).trans (tc_2_3 s o)
  ·exact(congrArg (fun g=>tcG g (o.val:Int) (s.val:Int)) gen_2_4).trans (tc_2_4 s o)
  ·exact(congrArg (fun g=>tcG g (o.val:Int) (s.val:Int)) gen_2_5).trans (tc_2_5 s o)
  ·exact(congrArg (fun g=>tcG g (o.val:Int) (s.val:Int)) gen_2_6).trans (tc_2_6 s o)
  ·exact(congrArg (fun g=>tcG g (o.val:Int) (s.val:Int)) gen_2_7).trans (tc_2_7 s o)
  ·exact(congrArg (fun g=>tcG g (o.val:Int) (s.val:Int)) gen_2_8).trans (tc_2_8 s o)
  ·exact(congrArg (fun g=>tcG g (o.val:Int) (s.val:Int)) gen_2_9).trans (tc_2_9 s o)
  ·exact(congrArg (fun g=>tcG g (o.val:Int) (s.val:Int)) gen_2_10).trans (tc_2_10 s o)
end
section
open Go.RowKit
def nxt (l n s o:Nat):List T2:=ahd l n s o++List.replicate (rep l n s o) ((s:Int),(o:Int))
theorem capL_le {l n:Nat} (hl:l≤2) (hn:n≤capL l):n<11:=by unfold capL at hn;omega
theorem nxt_o {l n s o:Nat} (hl:l≤2) (hn:n≤capL l) (hs:s<9) (ho:o<8):ahd l n s o=nxt l n s (o+1):=ahd_next ⟨l,by omega⟩ ⟨n,capL_le hl hn⟩ hn ⟨s,hs⟩ ⟨o,ho⟩
theorem nxt_s {l n s:Nat} (hl:l≤2) (hn:n≤capL l) (hs:s<8):ahd l n s 8=nxt l n (s+1) 0:=ahd_row ⟨l,by omega⟩ ⟨n,capL_le hl hn⟩ hn ⟨s,hs⟩
theorem nxt_s6 {l n s:Nat} (hl:l≤2) (hn:n≤capL l) (hs:s<6):ahd l n s 6=nxt l n (s+1) 0:=(ahd_row6 ⟨l,by omega⟩ ⟨n,capL_le hl hn⟩ hn ⟨s,hs⟩).symm.trans (nxt_s hl hn (by omega))
theorem nxt_end {l n:Nat} (hl:l≤2) (hn:n≤capL l):nxt l n 0 0=trms l n:=(ahd_last ⟨l,by omega⟩ ⟨n,capL_le hl hn⟩ hn).symm
theorem nxt_at (l n s o:Nat):nxt l n s o=ahd l n s o++List.replicate (rep l n s o) ((s:Int),(o:Int)):=rfl
theorem rep_bd {l n:Nat} (hl:l≤2) (hn:n≤capL l) (s o:Nat):rep l n s o≤40:=by
 have h1:=(trms_pos ⟨l,by omega⟩ ⟨n,capL_le hl hn⟩ hn).2.1
 unfold rep
 have:=List.countP_le_length (l:=trms l n) (p:=fun t=>t==((s:Int),(o:Int)))
 simp only at h1;omega
theorem ahd_len {l n:Nat} (hl:l≤2) (hn:n≤capL l) (s o:Nat):(ahd l n s o).length≤40:=by
 have h1:=(trms_pos ⟨l,by omega⟩ ⟨n,capL_le hl hn⟩ hn).2.1
 unfold ahd
 have:=List.length_filter_le (fun t:T2=>decide ((s:Int)<t.1∨((s:Int)=t.1∧(o:Int)<t.2))) (trms l n)
 simp only at h1;omega
theorem rep_snoc (ts:List T2) (t:T2) (q:Nat):ts++List.replicate (q+1) t=(ts++List.replicate q t)++[t]:=by rw[List.replicate_succ',List.append_assoc]
def TlPost (l n:Nat) (w:World) (e:Ending) (w':World):Prop :=
 ∃(A:Option Addr) (c m:Nat),e=.returned (.slice A m c)∧m≤c∧(trms l n).length=m∧Reads w' w'.heap.size 2 A m (tcells (trms l n))∧Below w.heap.size w w'
def Own (w0 w:World) (A:Option Addr) (c:Nat) (ts:List T2):Prop:=w.ownsRow w0.heap.size 52 2 (.slice A ts.length c) ts.length (tcells ts)∧Below w0.heap.size w0 w∧ts.length≤c
theorem specTermsOf_any (l n:Nat) (hl:l≤2) (hn:n≤capL l) (w:World) :
 Calls Tryz.prog 128 #[.int .i64 (l:Int),.int .i64 (n:Int)] w (TlPost l n w):=by
 have HOK:=kk (fun W=>l12Ok_any (l:Int) (n:Int) (by omega) W)
 rw[okLN hl hn] at HOK
 have HTC:=kk (fun(o s:Nat) (ho:o≤6) (hs:s≤5) W=>specTermCount_any l n hl hn (o:Int) (s:Int) (by omega) (by omega) W)
 have HRP:=kk (fun(o s:Nat) (ho:o≤6) (hs:s≤5)=>tc_rep hl hn ⟨s,by omega⟩ ⟨o,by omega⟩)
 simp only at HRP
 have HRB:=kk (fun s o=>rep_bd hl hn s o)
 have HAL:=kk (fun s o=>ahd_len hl hn s o)
 have HF:Hid (ahd l n 5 6=[]):=ahd_first6 ⟨l,by omega⟩ ⟨n,capL_le hl hn⟩ hn
 have HNO:=kk (fun(s o:Nat) (hs:s≤5) (ho:o≤5)=>nxt_o hl hn (s:=s) (o:=o) (by omega) (by omega))
 have HNS:=kk (fun(s:Nat) (hs:s≤4)=>nxt_s6 hl hn (s:=s) (by omega))
 have HNE:=kk (nxt_end hl hn)
 have hn':n≤10:=by unfold capL at hn;omega
 clear hn
 have HO0:Hid (Own w (w.alloc (.cells #[] 52)) (some ⟨w.heap.size,0,none⟩) 0 []):=⟨own_empty w 52 2,(Below.refl _ _).alloc (Nat.le_refl _) _,Nat.le_refl _⟩
 have HI1:Hid (∀s:Nat,(s:Int)=5→([]:List T2)=ahd l n s 6):=fun s hs=>by
  obtain rfl:s=5:=by omega
  exact HF.out.symm
 have HI2:Hid ((5:Int)=-1→([]:List T2)=trms l n):=fun h=>by omega
 go_enter Tryz.func128,Tryz.ntmps128
 go_wp2_with fail
 refine(HOK.out _).mono ?_
 rintro e w1 ⟨rfl,rfl⟩
 go_wp2_with fail
 go_loopw [5,6] (fun v i wr=>∃(sp:Int) (ts:List T2) (m:Nat) (A:Option Addr) (c:Nat),-1≤sp∧sp≤5∧i=.int .i64 sp∧v=.slice A m c∧Hid (ts.length=m)∧Hid (Own w wr A c ts)∧Hid (∀s:Nat,(s:Int)=sp→ts=ahd l n s 6)∧Hid (sp=-1→ts=trms l n)) (fun _ i _=>(RowKit.intOf i+1).toNat)
 case atStart=>exact⟨5,[],0,_,_,by omega,by omega,rfl,rfl,rfl,HO0.out,HI1.out,HI2.out⟩
 case round =>
  clear HO0 HI1 HI2
  obtain⟨sp,ts,m,A,c,hs0,hs1,rfl,rfl,HL,HW,HA,HE⟩:=hrel
  by_cases hsp:0≤sp
  ·obtain⟨s,rfl⟩:=Int.eq_ofNat_of_zero_le hsp
   have hs5:s≤5:=by omega
   have HA2:=kk (HA.out s rfl);clear HA HE
   have HO1:Hid (∀o:Nat,(o:Int)=6→ts=ahd l n s o):=fun o ho=>by
    obtain rfl:o=6:=by omega
    exact HA2.out
   have HO2:Hid ((6:Int)=-1→ts=nxt l n s 0):=fun h=>by omega
   have i1:(0:Int)≤(s:Int):=by omega
   obtain⟨wm,rfl⟩:∃wm:World,wm=wr:=⟨_,rfl⟩
   go_wp2_with fail
   go_loopw [5,7] (fun v i wr=>∃(op:Int) (ts:List T2) (m:Nat) (A:Option Addr) (c:Nat),-1≤op∧op≤6∧i=.int .i64 op∧v=.slice A m c∧Hid (ts.length=m)∧Hid (Own w wr A c ts)∧Hid (∀o:Nat,(o:Int)=op→ts=ahd l n s o)∧Hid (op=-1→ts=nxt l n s 0)) (fun _ i _=>(RowKit.intOf i+1).toNat)
   case atStart=>exact⟨6,ts,m,A,c,by omega,by omega,rfl,rfl,HL.out,HW.out,HO1.out,HO2.out⟩
   case round =>
    clear HA2 HO1 HO2 HL HW
    obtain⟨op,ts,m,A,c,ho0,ho1,rfl,rfl,HL,HW,HA,HE⟩:=hrel
    by_cases hop:0≤op
    ·obtain⟨o,rfl⟩:=Int.eq_ofNat_of_zero_le hop
     have ho6:o≤6:=by omega
     have HA2:=HA.out o rfl
     subst HA2
     clear HA HE
     have HC:=kk (fun W=>HTC.out o s ho6 hs5 W)
     have HB:=kk HW.out.2.1
     have HRQ:=kk (HRP.out o s ho6 hs5)
     rw[HRQ.out] at HC
     have hR:=HRB.out s o
     have hm:=HAL.out s o
     have HNX:=kk (nxt_at l n s o)
     rw[HL.out] at hm
     generalize rep l n s o=R at *
     have HBK:=kk (Blk.new wr 52 #[.int .i64 (s:Int),.int .i64 (o:Int)])
     have HAP:=kk (apart_new HW.out.1 (Nat.le_refl _))
     have HW1:=kk (HW.out.1.alloc (.cells #[.int .i64 (s:Int),.int .i64 (o:Int)] 52))
     rw[HL.out] at HW1 HAP
     have HB1:=kk (HB.out.alloc HB.out.size (.cells #[.int .i64 (s:Int),.int .i64 (o:Int)] 52))
     have HC0:Hid (m≤c):=by rw[←HL.out];exact HW.out.2.2
     obtain⟨T,hT⟩:∃T,wr.heap.size=T:=⟨_,rfl⟩
     have i2:(0:Int)≤(o:Int):=by omega
     go_wp2_with fail
     refine(HC.out _).mono ?_
     rintro e w2 ⟨rfl,hb2⟩
     rw[hT] at HBK HAP
     have HBK2:=kk (HBK.out.sub hb2)
     have HW2:=kk (own_below HW1.out hb2)
     have HB2:=kk (HB1.out.trans (hb2.mono HB1.out.size))
     have HTs:=kk hT
     clear hb2 HBK HW1 HB1 HC hT
     have HW20:Hid (w2.ownsRow w.heap.size 52 2 (.slice A (m+0) c) (m+0) (tcells (ahd l n s o++List.replicate 0 ((s:Int),(o:Int))))):=by unfold Hid;simpa using HW2.out
     have HN1:Hid (∀o':Nat,(o':Int)=(o:Int)-1→nxt l n s o=ahd l n s o'):=fun o' h=>by
      obtain rfl:o=o'+1:=by omega
      exact(HNO.out s o' hs5 (by omega)).symm
     have HN2:Hid ((o:Int)-1=-1→nxt l n s o=nxt l n s 0):=fun h=>by
      obtain rfl:o=0:=by omega
      rfl
     have HLA:=kk HL.out
     generalize ahd l n s o=ts at *
     generalize nxt l n s o=tn at *
     clear HW2 HL HW
     go_wp2_with fail
     go_loopw [5,9] (fun v i wr=>∃(q:Nat) (A:Option Addr) (c:Nat),q≤R∧i=.int .i64 ((R:Int)-(q:Int))∧v=.slice A (m+q) c∧m+q≤c∧Hid (Blk wr T 52 #[.int .i64 (s:Int),.int .i64 (o:Int)])∧Hid (Apart (.slice A (m+q) c) T)∧Hid (wr.ownsRow w.heap.size 52 2 (.slice A (m+q) c) (m+q) (tcells (ts++List.replicate q ((s:Int),(o:Int)))))∧Hid (Below w.heap.size w wr)) (fun _ i _=>(RowKit.intOf i).toNat)
     case atStart=>exact⟨0,A,c,Nat.zero_le _,by go_num,rfl,HC0.out,HBK2.out,HAP.out,HW20.out,HB2.out⟩
     case round =>
      clear HBK2 HAP HW20 HB2 HC0
      obtain⟨q,A,c,hq,rfl,rfl,hmc,HBK,HAP,HW,HB⟩:=hrel
      by_cases hqR:q<R
      ·have i3:(0:Int)<(R:Int)-(q:Int):=by omega
       obtain⟨c0,c1,_,_⟩:=blk2 HBK.out
       have hsw:=HB.out.size
       have HBA:=kk (HBK.out.alloc (.cells #[.int .i64 (s:Int),.int .i64 (o:Int)] 52))
       go_wp2_with (at_builtin;refine wpList_app1B _ rfl (.tmp 35) (.tmp 37) _ rfl w.heap.size 52 2 16 elTerm A c (m+q) _ rfl (HW.out.alloc _) wr.heap.size #[.int .i64 (s:Int),.int .i64 (o:Int)] rfl (Blk.new wr _ _) rfl ?h1 (by omega) (by omega) (by simp;omega) ?_)
       case h1=>exact⟨rfl,rfl⟩
       intro A' c' w5 hown5 hc5 hb5 hot5
       have HW5:Hid (w5.ownsRow w.heap.size 52 2 (.slice A' (m+(q+1)) c') (m+(q+1)) (tcells (ts++List.replicate (q+1) ((s:Int),(o:Int))))):=by unfold Hid;rw[rep_snoc,tcells_snoc];exact hown5
       have HB5:=kk ((HB.out.alloc hsw (.cells #[.int .i64 (s:Int),.int .i64 (o:Int)] 52)).trans hb5)
       have h5:=hot5.blk HBA.out HAP.out
       have HAP5:Hid (Apart (.slice A' (m+(q+1)) c') T):=h5.1
       have HBK5:=kk h5.2
       clear hown5 hb5 hot5 h5
       have hc5':m+(q+1)≤c':=by omega
       go_wp2_with fail
       go_roundw
       case rel=>exact⟨q+1,A',c',by omega,by go_num,by go_num,hc5',HBK5.out,HAP5.out,HW5.out,HB5.out⟩
       case measure=>(simp[RowKit.intOf]<;>omega)
      ·obtain rfl:q=R:=by omega
       rw[←HNX.out] at HW
       have HLN:Hid (tn.length=m+q):=by unfold Hid;rw[HNX.out,List.length_append,HLA.out,List.length_replicate]
       have HWN:Hid (Own w wr A c tn):=by unfold Hid Own;rw[HLN.out];exact⟨HW.out,HB.out,hmc⟩
       have i4:((q:Int)-(q:Int))=0:=by omega
       go_wp2_with fail
       go_roundw
       case rel=>exact⟨(o:Int)-1,tn,m+q,A,c,by omega,by omega,by go_num,rfl,HLN.out,HWN.out,HN1.out,HN2.out⟩
       case measure=>(simp[RowKit.intOf]<;>omega)
    ·obtain rfl:op=-1:=by omega
     have hTS:=HE.out rfl
     subst hTS
     have HN1:Hid (∀s':Nat,(s':Int)=(s:Int)-1→nxt l n s 0=ahd l n s' 6):=fun s' h=>by
      obtain rfl:s=s'+1:=by omega
      exact(HNS.out s' (by omega)).symm
     have HN2:Hid ((s:Int)-1=-1→nxt l n s 0=trms l n):=fun h=>by
      obtain rfl:s=0:=by omega
      exact HNE.out
     clear HA HE
     generalize nxt l n s 0=tn at *
     go_wp2_with fail
     go_roundw
     case rel=>exact⟨(s:Int)-1,tn,m,A,c,by omega,by omega,by go_num,rfl,HL.out,HW.out,HN1.out,HN2.out⟩
     case measure=>(simp[RowKit.intOf]<;>omega)
  ·obtain rfl:sp=-1:=by omega
   have hTS:=HE.out rfl
   subst hTS
   have HR:Hid (Reads wr wr.heap.size 2 A m (tcells (trms l n))):=by
    have:=own_reads HW.out.1
    rwa [HL.out] at this
   have HC:Hid (m≤c):=by rw[←HL.out];exact HW.out.2.2
   go_wp2_with fail
   go_ret
   exact⟨A,c,m,rfl,HC.out,HL.out,HR.out,HW.out.2.1⟩
end
section
open Go.RowKit
theorem countP_rep (p:T2→Bool) (t:T2) (q:Nat) (ts:List T2):((ts++List.replicate q t).countP p:Int)=(ts.countP p:Int)+if p t=true then(q:Int) else 0:=by
 rw[List.countP_append,List.countP_replicate]
 split<;>simp
theorem rct_self (s o:Nat):rct ((s:Int),(o:Int)) (o:Int) (s:Int)=true:=by unfold rct;rw[decide_eq_true_eq];simp only;omega
theorem lft_snoc (l n:Nat) (ts:List T2) (t:T2) (a d:Int):lft l n (ts++[t]) a d=lft l n ts a d-if rct t a d=true then 1 else 0:=by
 unfold lft
 have:=countP_rep (fun t=>rct t a d) t 1 ts
 rw[List.replicate_one] at this
 rw[this]
 split<;>omega
theorem lft_q {l n:Nat} (hl:l≤2) (hn:n≤capL l) {s o:Nat} (hs:s<9) (ho:o<9) (q:Nat):lft l n (ahd l n s o++List.replicate q ((s:Int),(o:Int))) (o:Int) (s:Int)=(rep l n s o:Int)-(q:Int):=by
 have h:=lft_at ⟨l,by omega⟩ ⟨n,capL_le hl hn⟩ hn ⟨s,hs⟩ ⟨o,ho⟩
 simp only at h
 unfold lft at h ⊢
 rw[countP_rep,rct_self,if_pos rfl]
 omega
theorem lft_bd {l n:Nat} (hl:l≤2) (hn:n≤capL l) (ts:List T2) (hts:ts.length≤1000) (a d:Int):-1000000≤lft l n ts a d∧lft l n ts a d≤1000000:=by
 have h1:=cnt_bd (lit l n) a d
 have h2:=(lit_len ⟨l,by omega⟩ ⟨n,capL_le hl hn⟩ hn).1
 have h3:=List.countP_le_length (l:=ts) (p:=fun t=>rct t a d)
 simp only at h2
 unfold lft
 omega
def OwnT (w2 wr:World) (b:Nat) (l n:Nat) (A:Option Addr) (c:Nat) (ts:List T2):Prop :=
 wr.ownsRow w2.heap.size 52 2 (.slice A ts.length c) ts.length (tcells ts)∧w2.grownBy wr (some b)∧ts.length≤c∧Tbl wr b (252+200*ts.length) (lft l n ts)
def sliceLen:Value→Nat
 | .slice _ n _=>n
 | _=>0
theorem implTermsOf_any (l n:Nat) (hl:l≤2) (hn:n≤capL l) (w:World) (ht:Dbt w) :
 Calls Tryz.prog 154 #[.int .i64 (l:Int),.int .i64 (n:Int)] w (TlPost l n w):=by
 have HEV:=kk (fun W=>electronsValid_any (l:Int) (n:Int) W)
 rw[show evB (l:Int) (n:Int)=true from decide_eq_true (by unfold capL at hn;omega)] at HEV
 have HNT:=kk (newMicroTable_any l n hl hn w ht)
 have HRB:=kk (fun s o=>rep_bd hl hn s o)
 have HAL:=kk (fun s o=>ahd_len hl hn s o)
 have HF:Hid (ahd l n 8 8=[]):=ahd_first ⟨l,by omega⟩ ⟨n,capL_le hl hn⟩ hn
 have HNO:=kk (fun(s o:Nat) (hs:s≤8) (ho:o≤7)=>nxt_o hl hn (s:=s) (o:=o) (by omega) (by omega))
 have HNS:=kk (fun(s:Nat) (hs:s≤7)=>nxt_s hl hn (s:=s) (by omega))
 have HNE:=kk (nxt_end hl hn)
 have HLQ:=kk (fun(s o:Nat) (hs:s≤8) (ho:o≤8) (q:Nat)=>lft_q hl hn (s:=s) (o:=o) (by omega) (by omega) q)
 have HLB:=kk (fun ts h a d=>lft_bd hl hn ts h a d)
 have hn':n≤10:=by unfold capL at hn;omega
 clear hn ht
 go_enter Tryz.func154,Tryz.ntmps154
 go_wp2_with fail
 refine(HEV.out _).mono ?_
 rintro e w1 ⟨rfl,rfl⟩
 go_wp2_with fail
 refine HNT.out.mono ?_
 rintro e w2 ⟨b,rfl,hbw,htb,hb2⟩
 have HB2:=kk hb2
 have hb2lt:b<w2.heap.size:=htb.lt
 have HI0:Hid (OwnT w2 w2 b l n none 0 []):=⟨World.ownsRow_nil _ _ _ _,gb_refl _ _,Nat.le_refl _,htb.eq fun o s _ _=>by simp[lft]⟩
 have HI1:Hid (∀s:Nat,(s:Int)=8→([]:List T2)=ahd l n s 8):=fun s hs=>by
  obtain rfl:s=8:=by omega
  exact HF.out.symm
 have HI2:Hid ((8:Int)=-1→([]:List T2)=trms l n):=fun h=>by omega
 clear htb hb2 HNT
 go_wp2_with fail
 go_loopw [6,7] (fun v i wr=>∃(sp:Int) (ts:List T2) (m:Nat) (A:Option Addr) (c:Nat),-1≤sp∧sp≤8∧i=.int .i64 sp∧v=.slice A m c∧Hid (ts.length=m)∧Hid (OwnT w2 wr b l n A c ts)∧Hid (∀s:Nat,(s:Int)=sp→ts=ahd l n s 8)∧Hid (sp=-1→ts=trms l n)) (fun _ i _=>(RowKit.intOf i+1).toNat)
 case atStart=>exact⟨8,[],0,_,_,by omega,by omega,rfl,rfl,rfl,HI0.out,HI1.out,HI2.out⟩
 case round =>
  clear HI0 HI1 HI2
  obtain⟨sp,ts,m,A,c,hs0,hs1,rfl,rfl,HL,HW,HA,HE⟩:=hrel
  by_cases hsp:0≤sp
  ·obtain⟨s,rfl⟩:=Int.eq_ofNat_of_zero_le hsp
   have hs5:s≤8:=by omega
   have HA2:=kk (HA.out s rfl);clear HA HE
   have HO1:Hid (∀o:Nat,(o:Int)=8→ts=ahd l n s o):=fun o ho=>by
    obtain rfl:o=8:=by omega
    exact HA2.out
   have HO2:Hid ((8:Int)=-1→ts=nxt l n s 0):=fun h=>by omega
   have i1:(0:Int)≤(s:Int):=by omega
   obtain⟨wm,rfl⟩:∃wm:World,wm=wr:=⟨_,rfl⟩
   go_wp2_with fail
   go_loopw [6,8] (fun v i wr=>∃(op:Int) (ts:List T2) (m:Nat) (A:Option Addr) (c:Nat),-1≤op∧op≤8∧i=.int .i64 op∧v=.slice A m c∧Hid (ts.length=m)∧Hid (OwnT w2 wr b l n A c ts)∧Hid (∀o:Nat,(o:Int)=op→ts=ahd l n s o)∧Hid (op=-1→ts=nxt l n s 0)) (fun _ i _=>(RowKit.intOf i+1).toNat)
   case atStart=>exact⟨8,ts,m,A,c,by omega,by omega,rfl,rfl,HL.out,HW.out,HO1.out,HO2.out⟩
   case round =>
    clear HA2 HO1 HO2 HL HW
    obtain⟨wn,rfl⟩:∃wn:World,wn=wr:=⟨_,rfl⟩
    obtain⟨op,ts,m,A,c,ho0,ho1,rfl,rfl,HL,HW,HA,HE⟩:=hrel
    by_cases hop:0≤op
    ·obtain⟨o,rfl⟩:=Int.eq_ofNat_of_zero_le hop
     have ho6:o≤8:=by omega
     have HA2:=HA.out o rfl
     subst HA2
     clear HA HE
     have hR:=HRB.out s o
     have hm:=HAL.out s o
     have HNX:=kk (nxt_at l n s o)
     have HLF:=kk (HLQ.out s o hs5 ho6)
     rw[HL.out] at hm
     generalize rep l n s o=R at *
     have HN1:Hid (∀o':Nat,(o':Int)=(o:Int)-1→nxt l n s o=ahd l n s o'):=fun o' h=>by
      obtain rfl:o=o'+1:=by omega
      exact(HNO.out s o' hs5 (by omega)).symm
     have HN2:Hid ((o:Int)-1=-1→nxt l n s o=nxt l n s 0):=fun h=>by
      obtain rfl:o=0:=by omega
      rfl
     have HLA:=kk HL.out
     have HW0:Hid (OwnT w2 wn b l n A c (ahd l n s o++List.replicate 0 ((s:Int),(o:Int)))):=by unfold Hid;simpa using HW.out
     generalize ahd l n s o=ts at *
     generalize nxt l n s o=tn at *
     have i2:(0:Int)≤(o:Int):=by omega
     clear HL HW
     go_wp2_with fail
     go_loopw [6] (fun v wr=>∃(q:Nat) (A:Option Addr) (c:Nat),q≤R∧v=.slice A (m+q) c∧Hid (OwnT w2 wr b l n A c (ts++List.replicate q ((s:Int),(o:Int))))) (fun v _=>1000-sliceLen v)
     case atStart=>exact⟨0,A,c,Nat.zero_le _,rfl,HW0.out⟩
     case round =>
      clear HW0
      obtain⟨q,A,c,hq,rfl,HW⟩:=hrel
      have HLN:Hid ((ts++List.replicate q ((s:Int),(o:Int))).length=m+q):=by unfold Hid;rw[List.length_append,HLA.out,List.length_replicate]
      have hlk:=HW.out.2.2.2.look (o:=(o:Int)) (s:=(s:Int)) (by unfold In10;omega) (by unfold In10;omega)
      rw[HLF.out q] at hlk
      unfold keyV at hlk
      by_cases hqR:q<R
      ·have i3:(0:Int)<(R:Int)-(q:Int):=by omega
       have hsw:=HW.out.2.1.size
       have HOW:=kk HW.out.1
       rw[HLN.out] at HOW
       have HTB:=kk HW.out.2.2.2
       have HGW:=kk HW.out.2.1
       rw[HLN.out] at HTB
       generalize (R:Int)-(q:Int)=C at *
       obtain⟨pt,hpt⟩:∃pt,wr.heap.size=pt:=⟨_,rfl⟩
       have HBT:=kk (Blk.new wr 52 #[.int .i64 (s:Int),.int .i64 (o:Int)])
       have HBL:=kk (Blk.new (wr.alloc (.cells #[.int .i64 (s:Int),.int .i64 (o:Int)] 52)) 52 #[.int .i64 (s:Int),.int .i64 (o:Int)])
       rw[World.size_alloc] at HBL
       rw[hpt] at HBT HBL
       have HAPT:=kk (apart_new HOW.out (T:=pt) (by rw[hpt];exact Nat.le_refl _))
       have HPT:=kk hpt
       have HBTA:=kk (HBT.out.alloc (.cells #[.int .i64 (s:Int),.int .i64 (o:Int)] 52))
       have HGA:=kk (gb_alloc (gb_alloc HGW.out (.cells #[.int .i64 (s:Int),.int .i64 (o:Int)] 52)) (.cells #[.int .i64 (s:Int),.int .i64 (o:Int)] 52))
       have HOWA:=kk ((HOW.out.alloc (.cells #[.int .i64 (s:Int),.int .i64 (o:Int)] 52)).alloc (.cells #[.int .i64 (s:Int),.int .i64 (o:Int)] 52))
       have HTBA:=kk (HTB.out.below (((Below.refl wr.heap.size wr).alloc (Nat.le_refl _) (.cells #[.int .i64 (s:Int),.int .i64 (o:Int)] 52)).alloc (by simp) (.cells #[.int .i64 (s:Int),.int .i64 (o:Int)] 52)))
       go_wp2_with (at_builtin;refine wpList_app1B _ rfl (.tmp 34) (.tmp 36) _ rfl w2.heap.size 52 2 16 elTerm A c (m+q) _ rfl HOWA.out (pt+1) #[.int .i64 (s:Int),.int .i64 (o:Int)] rfl HBL.out rfl ?h1 (by omega) (by omega) (by simp;omega) ?_)
       case h1=>exact⟨rfl,rfl⟩
       intro A' c' w5 hown5 hc5 hb5 hot5
       have h5:=hot5.blk HBTA.out HAPT.out
       have HBT5:=kk h5.2
       have HG5:=kk (gb_base HGA.out hb5)
       have HT5:=kk (HTBA.out.kept (hb5.block b hb2lt))
       have HO5:Hid (w5.ownsRow w2.heap.size 52 2 (.slice A' (m+(q+1)) c') (m+(q+1)) (tcells (ts++List.replicate (q+1) ((s:Int),(o:Int))))):=by unfold Hid;rw[rep_snoc,tcells_snoc];exact hown5
       clear hown5 hb5 hot5 h5 HBT HBL HOW HTB HGW HBTA HGA HOWA HTBA hlk
       obtain⟨e0,e1,_,_⟩:=blk2 HBT5.out
       have HSK:=kk (strike_any b (252+200*(m+q)) s o (lft l n (ts++List.replicate q ((s:Int),(o:Int)))) w5 hs5 ho6 (by omega) HT5.out (HLB.out _ (by rw[HLN.out];omega)))
       clear hpt
       go_wp2_with fail
       refine HSK.out.mono ?_
       rintro e w6 ⟨rfl,ht6,hg6⟩
       have HLN2:Hid ((ts++List.replicate (q+1) ((s:Int),(o:Int))).length=m+(q+1)):=by unfold Hid;rw[List.length_append,HLA.out,List.length_replicate]
       have HW6:Hid (OwnT w2 w6 b l n A' c' (ts++List.replicate (q+1) ((s:Int),(o:Int)))):=by
        unfold Hid OwnT
        rw[HLN2.out]
        refine⟨own_gb HO5.out hg6 hb2lt,gb_trans HG5.out hg6,by omega,(ht6.eq fun a d _ _=>?_).more (by omega)⟩
        rw[stk_all,rep_snoc,lft_snoc]
       clear ht6 hg6 HSK
       go_wp2_with fail
       go_roundw
       case rel=>exact⟨q+1,A',c',by omega,by go_num,HW6.out⟩
       case measure=>(simp[sliceLen]<;>omega)
      ·obtain rfl:q=R:=by omega
       have i4:((q:Int)-(q:Int))=0:=by omega
       rw[i4] at hlk
       rw[←HNX.out] at HW HLN
       go_wp2_with fail
       go_roundw
       case rel=>exact⟨(o:Int)-1,tn,m+q,A,c,by omega,by omega,by go_num,rfl,HLN.out,HW.out,HN1.out,HN2.out⟩
       case measure=>(simp[RowKit.intOf]<;>omega)
    ·obtain rfl:op=-1:=by omega
     have hTS:=HE.out rfl
     subst hTS
     have HN1:Hid (∀s':Nat,(s':Int)=(s:Int)-1→nxt l n s 0=ahd l n s' 8):=fun s' h=>by
      obtain rfl:s=s'+1:=by omega
      exact(HNS.out s' (by omega)).symm
     have HN2:Hid ((s:Int)-1=-1→nxt l n s 0=trms l n):=fun h=>by
      obtain rfl:s=0:=by omega
      exact HNE.out
     clear HA HE
     generalize nxt l n s 0=tn at *
     go_wp2_with fail
     go_roundw
     case rel=>exact⟨(s:Int)-1,tn,m,A,c,by omega,by omega,by go_num,rfl,HL.out,HW.out,HN1.out,HN2.out⟩
     case measure=>(simp[RowKit.intOf]<;>omega)
  ·obtain rfl:sp=-1:=by omega
   have hTS:=HE.out rfl
   subst hTS
   have HR:Hid (Reads wr wr.heap.size 2 A m (tcells (trms l n))):=by
    have:=own_reads HW.out.1
    rwa [HL.out] at this
   have HC:Hid (m≤c):=by rw[←HL.out];exact HW.out.2.2.1
   have HBF:=kk (below_tbl HB2.out HW.out.2.1 HB2.out.size hbw)
   go_wp2_with fail
   go_ret
   exact⟨A,c,m,rfl,HC.out,HL.out,HR.out,HBF.out⟩
end
end Go.Proofs.YtcjebnffpbnljaaGreatDoor.Mi
end
