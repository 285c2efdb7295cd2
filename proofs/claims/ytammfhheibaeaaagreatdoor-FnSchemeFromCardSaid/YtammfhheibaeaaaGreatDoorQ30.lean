/- Parts of the proof of : ScD. -/
import Derived.Test.YtammfhheibaeaaaGreatDoorQ15
import Derived.Test.YtammfhheibaeaaaGreatDoorQ29
set_option maxHeartbeats 20000000
set_option maxRecDepth 1000000
set_option linter.unusedSimpArgs false
set_option linter.unusedVariables false
namespace Go.Proofs.YtammfhheibaeaaaGreatDoor
section
open Go.RowKit
attribute [local go_sem ↓] Go.wp_at_zero Go.wp_at_succ
theorem own_blk {w:World} {base:Nat} {e:TypeId} {size n c:Nat} {A:Option Addr} {xs:List Value} (h:w.ownsRow base e size (.slice A n c) n xs) (hn:0<n) :
 ∃g cur,A=some ⟨g,0,none⟩∧base≤g∧Blk w g e cur∧Filled cur xs:=by
 have hr:=own_reads h
 rcases h.2 with ⟨hv,h0⟩ | ⟨g,cap,cur,hv,hb,hh,_⟩
 ·omega
 ·have hA:A=some ⟨g,0,none⟩:=by injection hv
  subst hA
  obtain ⟨b,off,e1,_,hc⟩:=hr.2 hn
  cases e1
  refine ⟨g,cur,rfl,hb,hh,fun j u hu=>?_⟩
  have:=hc j u hu
  rw [Nat.zero_add] at this
  rw [←this]
  exact (Blk.cell (t:=e) hh j).symm
theorem Filled.set {cs:Array Value} {vs:List Value} (h:Filled cs vs) (j:Nat) (u:Value):Filled (cs.setIfInBounds j u) (vs.set j u):=by
 intro i x hx
 rw [Array.getElem?_setIfInBounds]
 rw [List.getElem?_set] at hx
 by_cases hij:j=i
 ·subst hij
  rw [if_pos rfl] at hx ⊢
  split at hx
  ·have hl:j<vs.length:=by assumption
   have:=h j _ (List.getElem?_eq_getElem hl)
   have hs:j<cs.size:=by
    rcases Nat.lt_or_ge j cs.size with h1 | h1
    ·exact h1
    ·rw [Array.getElem?_eq_none h1] at this;cases this
   rw [if_pos hs];exact hx
  ·cases hx
 ·rw [if_neg hij] at hx ⊢
  exact h i x hx
theorem ncells_set0 (ns:List T3) (k:Nat) (x:Int):ncells (ns.set k (x,(gN ns k).2))=(ncells ns).set (k*3) (.int .i64 x):=by
 induction ns generalizing k with
 | nil=>simp [ncells]
 | cons t ts ih =>
  cases k with
  | zero=>rfl
  | succ k =>
   rw [show (k+1)*3=k*3+3 by omega]
   show Value.int .i64 t.1 :: Value.int .i64 t.2.1 :: Value.bool t.2.2 :: ncells (ts.set k (x,(gN ts k).2))=_
   rw [ih k];rfl
theorem ncells_set1 (ns:List T3) (k:Nat) (x:Int):ncells (ns.set k ((gN ns k).1,x,(gN ns k).2.2))=(ncells ns).set (k*3+1) (.int .i64 x):=by
 induction ns generalizing k with
 | nil=>simp [ncells]
 | cons t ts ih =>
  cases k with
  | zero=>rfl
  | succ k =>
   rw [show (k+1)*3+1=k*3+1+3 by omega]
   show Value.int .i64 t.1 :: Value.int .i64 t.2.1 :: Value.bool t.2.2 :: ncells (ts.set k ((gN ts k).1,x,(gN ts k).2.2))=_
   rw [ih k];rfl
def LstN (w:World) (A:Option Addr) (n c:Nat) (ns:List T3):Prop:=n≤c∧ns.length=n∧n≤8∧Reads w w.heap.size 3 A n (ncells ns)
def SchemePost (T:TypeId) (w:World) (B R N:Nat) (e:Ending) (w':World):Prop :=
 ∃A c n ns,e=.returned (.slice A n c)∧LstN w' A n c ns∧Rd T w' B R N∧w.grownBy w' (some R)
theorem gN_mem {ns:List T3} {k:Nat} (h:k<ns.length):gN ns k∈ns:=by simp [gN,h]
theorem l93Scheme_any (B R N:Nat) (w:World) (hN:N≤800000) (hR:Rd 79 w B R N) :
 Calls Tryz.prog 20 #[.pointer (some ⟨R,0,none⟩)] w (SchemePost 79 w B R (N+35)):=by
 have hlt:=hR.lt
 have hle:=hR.le
 have HR0:=Lib.hid (hR.alloc (.cells #[] 34))
 clear hR
 go_enter Tryz.func20,Tryz.ntmps20
 go_wp2_with fail
 refine (pick_any B R N 8 _ (by omega) (by omega) (by omega) HR0.out).mono ?_
 rintro e w1 ⟨m,rfl,hv1,hR1,hg1⟩
 have b1:=hv1.lt (by omega)
 have HO:=Lib.hid (own_gb (own_empty w 34 3) hg1 hlt)
 have HR1:=Lib.hid hR1;clear hR1 hv1
 have HG:=Lib.hid (gb_trans (gb_alloc (gb_refl w _) _) hg1);clear hg1 HR0
 obtain ⟨p,rfl⟩:=Int.eq_ofNat_of_zero_le b1.1
 go_wp2_with fail
 refine (pick_any B R (N+1) 2 _ (by omega) (by omega) (by omega) HR1.out).mono ?_
 rintro e w2 ⟨h,rfl,hv2,hR2,hg2⟩
 have b2:=hv2.lt (by omega)
 replace HO:=Lib.hid (own_gb HO.out hg2 hlt)
 have HR2:=Lib.hid hR2;clear hR2 hv2
 replace HG:=Lib.hid (gb_trans HG.out hg2);clear hg2 HR1
 go_wp2_with fail
 go_loopw [3,6,7] (fun v en i wr=>∃(k:Nat) (A:Option Addr) (c:Nat) (ns:List T3) (x:Int),k≤p+1∧i=.int .i64 k∧v=.slice A k c∧en=.int .i64 x∧(0≤x∧x≤4000*k)∧k≤c∧Hid (ns.length=k)∧Hid (∀t∈ns,0≤t.2.1∧t.2.1≤7)∧Hid (wr.ownsRow w.heap.size 34 3 (.slice A k c) k (ncells ns))∧Hid (Rd 79 wr B R (N+2+4*k))∧Hid (w.grownBy wr (some R))) (fun _ _ i _=>p+1-(intOf i).toNat)
 case atStart=>exact ⟨0,_,_,[],0,Nat.zero_le _,rfl,rfl,rfl,by omega,Nat.le_refl _,rfl,fun t ht=>by simp at ht,HO.out,HR2.out,HG.out⟩
 case round =>
  clear HO HR2 HG
  obtain ⟨k,A,c,ns,x,hk,rfl,rfl,rfl,hx,hkc,HT,HIN,HW,HRR,HGR⟩:=hrel
  by_cases hkm:k<p+1
  ·have i9:(k:Int)<1+(p:Int):=by omega
   have i8:(k:Int)<(p:Int)+1:=by omega
   go_wp2_with fail
   refine (pick_any B R _ 4 _ (by omega) (by omega) (by omega) HRR.out).mono ?_
   rintro e w3 ⟨d0,rfl,hv3,hR3,hg3⟩
   have b3:=hv3.lt (by omega)
   have HW3:=Lib.hid (own_gb HW.out hg3 hlt)
   have HG3:=Lib.hid (gb_trans HGR.out hg3)
   have HR3:=Lib.hid hR3
   clear hv3 hR3 hg3 HW HGR HRR
   go_wp2_with fail
   refine (pick_any B R _ 2 _ (by omega) (by omega) (by omega) HR3.out).mono ?_
   rintro e w4 ⟨d1,rfl,hv4,hR4,hg4⟩
   have b4:=hv4.lt (by omega)
   have HW4:=Lib.hid (own_gb HW3.out hg4 hlt)
   have HG4:=Lib.hid (gb_trans HG3.out hg4)
   have HR4:=Lib.hid hR4
   clear hv4 hR4 hg4 HW3 HG3 HR3
   have s4:=HG4.out.size
   go_wp2_with (at_builtin;refine wpList_app1 _ rfl (.tmp 19) (.tmp 30) _ rfl w.heap.size 34 3 24 elNode A c k (ncells ns) rfl (HW4.out.alloc _) w4.heap.size #[.int .i64 x,.int .i64 (h+2*d0),.bool (d1==0)] rfl (Blk.new w4 _ _) rfl ?h1 (by omega) (by omega) (by simp;omega) ?_)
   case h1=>simp [Value.oneCell']
   intro A' c' w5 hown5 hc5 hb5
   have HW5:=Lib.hid hown5;clear hown5
   have HR5:=Lib.hid ((HR4.out.alloc (.cells #[.int .i64 x,.int .i64 (h+2*d0),.bool (d1==0)] 34)).sub hb5 hlt)
   have HG5:=Lib.hid (gb_base (gb_alloc HG4.out (.cells #[.int .i64 x,.int .i64 (h+2*d0),.bool (d1==0)] 34)) hb5)
   clear hb5 HR4 HG4 HW4
   generalize (d1==0)=ob at *
   go_wp2_with fail
   refine (pick_any B R _ 40 _ (by omega) (by omega) (by omega) HR5.out).mono ?_
   rintro e w6 ⟨d2,rfl,hv6,hR6,hg6⟩
   have b6:=hv6.lt (by omega)
   have HW6:=Lib.hid (own_gb HW5.out hg6 hlt)
   have HG6:=Lib.hid (gb_trans HG5.out hg6)
   have HR6:=Lib.hid (hR6.alloc (.cells #[.int .i64 1,.int .i64 10,.int .i64 100] 3))
   have HL6:=Lib.hid (Blk.new w6 3 #[.int .i64 1,.int .i64 10,.int .i64 100])
   have l6:=hR6.lt
   clear hv6 hR6 hg6 HW5 HG5 HR5
   have HW7:=Lib.hid (own_below HW6.out ((Below.refl _ _).alloc (Nat.le_refl _) (.cells #[.int .i64 1,.int .i64 10,.int .i64 100] 3)))
   have HG7:=Lib.hid (gb_alloc HG6.out (.cells #[.int .i64 1,.int .i64 10,.int .i64 100] 3))
   clear HW6 HG6
   go_wp2_with fail
   refine (pick_any B R _ 3 _ (by omega) (by omega) (by omega) HR6.out).mono ?_
   rintro e w8 ⟨d3,rfl,hv8,hR8,hg8⟩
   have b8:=hv8.lt (by omega)
   have HW8:=Lib.hid (own_gb HW7.out hg8 hlt)
   have HG8:=Lib.hid (gb_trans HG7.out hg8)
   have HR8:=Lib.hid hR8
   obtain ⟨j,rfl⟩:∃j:Nat,d3=j:=⟨d3.toNat,by omega⟩
   obtain ⟨f,hf,kf⟩:∃f:Int,w8.cell? ⟨w6.heap.size,j,none⟩=some (.int .i64 f)∧(1≤f∧f≤100):=by
    rw [(HL6.out.gb hg8 (by omega)).cell]
    have hj:j=0∨j=1∨j=2:=by omega
    rcases hj with rfl | rfl | rfl <;> exact ⟨_,rfl,by omega,by omega⟩
   have i1:(0:Int)≤(j:Int):=by omega
   have i2:(j:Int)<3:=by omega
   have m1:0≤d2*f∧d2*f≤39*100:=⟨Int.mul_nonneg (by omega) (by omega),Int.mul_le_mul (by omega) (by omega) (by omega) (by omega)⟩
   clear hv8 hR8 hg8 HW7 HG7 HR6 HL6
   go_wp2_with fail
   clear i1 i2 hf
   go_roundw
   case rel =>
    refine ⟨k+1,A',c',ns++[(x,h+2*d0,ob)],x+1+d2*f,by omega,by go_num,rfl,rfl,by omega,hc5,by show (ns++[_]).length=_;simp [HT.out],fun t ht=>?_,?_,HR8.out.more (by omega),HG8.out⟩
    ·simp only [List.mem_append,List.mem_singleton] at ht
     rcases ht with ht | rfl
     ·exact HIN.out t ht
     ·exact ⟨by show 0≤h+2*d0;omega,by show h+2*d0≤7;omega⟩
    ·unfold Hid;rw [ncells_snoc];exact HW8.out
   case measure=>simp [intOf];omega
  ·obtain rfl:k=p+1:=by omega
   have i9:decide (((p:Int)+1)<1+(p:Int))=false:=decide_eq_false (by omega)
   have i8:decide ((p:Int)+1<(p:Int)+1)=false:=decide_eq_false (by omega)
   go_wp2_with fail
   refine (pick_any B R _ 36 _ (by omega) (by omega) (by omega) HRR.out).mono ?_
   rintro e w4 ⟨s,rfl,hv4,hR4,hg4⟩
   have HW4:=Lib.hid (own_gb HW.out hg4 hlt)
   have HR4:=Lib.hid (hR4.more (N':=N+35) (by omega));clear hR4 hv4
   have HG4:=Lib.hid (gb_trans HGR.out hg4);clear hg4 HRR HGR HW i9 i8
   have HRd:=Lib.hid (own_reads HW4.out)
   obtain ⟨g,cur,rfl,hg,hblk,hfl⟩:=own_blk HW4.out (by omega)
   have HBL:=Lib.hid hblk
   have HFL:=Lib.hid hfl
   have u1:IntKind.i64.wrap (1+(p:Int)-1)=(p:Int):=(IntWalk.i64_in _ (by omega)).trans (by omega)
   have i5:(0:Int)≤(p:Int):=by omega
   have i6:(p:Int)<(p:Int)+1:=by omega
   have i7:p<p+1:=by omega
   obtain ⟨b',off',e',hb',k0,_,_⟩:=HRd.out.node (show 0<p+1 by omega)
   cases e'
   obtain ⟨b',off',e',hb',k1,k2,_⟩:=HRd.out.node (show p<p+1 by omega)
   cases e'
   simp only [Nat.zero_add,Nat.zero_mul] at k0 k1 k2
   have hJ:=HIN.out _ (gN_mem (ns:=ns) (k:=p) (by rw [HT.out];omega))
   by_cases h0:s=0
   ·subst h0
    have f4:=hblk.frozen 0
    have HN:Hid (LstN (w4.setCell ⟨g,0,none⟩ (.int .i64 1)) (some ⟨g,0,none⟩) (p+1) c (ns.set 0 (1,(gN ns 0).2))):=by
     refine ⟨hkc,by rw [List.length_set];exact HT.out,by omega,?_⟩
     rw [ncells_set0]
     exact (hfl.set 0 _).reads (hblk.set 0 _) (by rw [List.length_set,ncells_len,HT.out])
    clear hfl hblk
    generalize (gN ns 0).1=y0 at *
    generalize (gN ns p).1=y1 at *
    generalize (gN ns p).2.1=y2 at *
    go_wp2_with fail
    go_ret
    exact ⟨_,c,p+1,_,rfl,HN.out,HR4.out.setCell (by show B≤g;omega) (by show g≠R;omega) _,gb_setCell HG4.out (.inr hg) _⟩
   have e0:(s==0)=false:=by simpa using h0
   by_cases h1:s=1
   ·subst h1
    have f4:=hblk.frozen (p*3+1)
    have HN:=Lib.hid (fun y:Int=>show LstN (w4.setCell ⟨g,p*3+1,none⟩ (.int .i64 y)) (some ⟨g,0,none⟩) (p+1) c (ns.set p ((gN ns p).1,y,(gN ns p).2.2)) from by
     refine ⟨hkc,by rw [List.length_set];exact HT.out,by omega,?_⟩
     rw [ncells_set1]
     exact (hfl.set (p*3+1) _).reads (hblk.set (p*3+1) _) (by rw [List.length_set,ncells_len,HT.out]))
    clear hfl hblk h0 k0 k1
    generalize (gN ns p).1=y1 at *
    generalize (gN ns p).2.1=y2 at *
    go_wp2_with fail
    go_ret
    exact ⟨_,c,p+1,_,rfl,HN.out _,HR4.out.setCell (by show B≤g;omega) (by show g≠R;omega) _,gb_setCell HG4.out (.inr hg) _⟩
   have e1:(s==1)=false:=by simpa using h1
   by_cases h2:s=2
   ·subst h2
    have f4:=hblk.frozen (p*3)
    have HN:Hid (LstN (w4.setCell ⟨g,p*3,none⟩ (.int .i64 200001)) (some ⟨g,0,none⟩) (p+1) c (ns.set p (200001,(gN ns p).2))):=by
     refine ⟨hkc,by rw [List.length_set];exact HT.out,by omega,?_⟩
     rw [ncells_set0]
     exact (hfl.set (p*3) _).reads (hblk.set (p*3) _) (by rw [List.length_set,ncells_len,HT.out])
    clear hfl hblk h0 h1 k0 k2
    generalize (gN ns p).1=y1 at *
    go_wp2_with fail
    go_ret
    exact ⟨_,c,p+1,_,rfl,HN.out,HR4.out.setCell (by show B≤g;omega) (by show g≠R;omega) _,gb_setCell HG4.out (.inr hg) _⟩
   have e2:(s==2)=false:=by simpa using h2
   clear hfl hblk k0 k1 k2 u1 hJ
   by_cases h3:s=3
   ·subst h3
    clear h0 h1 h2
    go_wp2_with fail
    go_ret
    exact ⟨_,0,0,[],rfl,⟨Nat.le_refl _,rfl,by omega,⟨rfl,fun h=>absurd h (Nat.lt_irrefl 0)⟩⟩,HR4.out.alloc _,gb_alloc HG4.out _⟩
   have e3:(s==3)=false:=by simpa using h3
   clear h0 h1 h2 h3
   go_wp2_with fail
   go_ret
   exact ⟨_,c,p+1,ns,rfl,⟨hkc,HT.out,by omega,HRd.out⟩,HR4.out,HG4.out⟩
end
end Go.Proofs.YtammfhheibaeaaaGreatDoor
