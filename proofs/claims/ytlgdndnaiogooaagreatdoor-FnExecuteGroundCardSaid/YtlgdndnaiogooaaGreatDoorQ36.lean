/- Parts of the proof of : Cfg. -/
import Derived.Test.YtlgdndnaiogooaaGreatDoorQ17
import Derived.Shelf.SlSortCmp.WholeK
import Derived.Lib.TrimU
import Derived.Test.YtlgdndnaiogooaaGreatDoorQ35
set_option maxHeartbeats 20000000
set_option maxRecDepth 1000000
set_option linter.unusedSimpArgs false
set_option linter.unusedVariables false
namespace Go.Proofs.YtlgdndnaiogooaaGreatDoor
section
section
open Go.RowKit Go.Sort
attribute [local go_sem ↓] Go.wp_at_zero Go.wp_at_succ
abbrev S3:=Int × Int × Int
def capB (l:Int):Int:=if 0≤l∧l≤3 then 4*l+2 else 0
def shvB (s:S3):Bool:=decide (1≤s.1) && (decide (s.1≤7) && (decide (0≤s.2.1) && (decide (s.2.1≤3) && (decide (s.2.1<s.1) && (decide (1≤s.2.2) && decide (s.2.2≤capB s.2.1))))))
theorem shvB_iff {s:S3}:shvB s=true↔1≤s.1∧s.1≤7∧0≤s.2.1∧s.2.1≤3∧s.2.1<s.1∧1≤s.2.2∧s.2.2≤capB s.2.1:=by simp [shvB]
def lessS (a b:S3):Bool:=decide (a.1<b.1∨(a.1=b.1∧a.2.1<b.2.1))
def gS (ss:List S3) (k:Nat):S3:=ss[k]?.getD (0,0,0)
def scellsS (ss:List S3):List Value:=ss.flatMap fun s=>[.int .i64 s.1,.int .i64 s.2.1,.int .i64 s.2.2]
theorem scellsS_len (ss:List S3):(scellsS ss).length=ss.length*3:=by
 unfold scellsS;induction ss with
 | nil=>rfl
 | cons t ts ih=>simp only [List.flatMap_cons,List.length_append,ih,List.length_cons,List.length_nil];omega
theorem scellsS_snoc (ss:List S3) (s:S3):scellsS (ss++[s])=scellsS ss++[.int .i64 s.1,.int .i64 s.2.1,.int .i64 s.2.2]:=by simp [scellsS]
theorem scellsS_at:∀(ss:List S3) (i:Nat),i<ss.length→(scellsS ss)[i*3]?=some (.int .i64 (gS ss i).1)∧(scellsS ss)[i*3+1]?=some (.int .i64 (gS ss i).2.1)∧(scellsS ss)[i*3+2]?=some (.int .i64 (gS ss i).2.2)
 | [],i,h=>by simp at h
 | s :: ss,0,_=>⟨rfl,rfl,rfl⟩
 | s :: ss,i+1,h=>by
  obtain ⟨a,b,c⟩:=scellsS_at ss i (by simpa using h)
  have e:scellsS (s :: ss)=.int .i64 s.1 :: .int .i64 s.2.1 :: .int .i64 s.2.2 :: scellsS ss:=rfl
  rw [e,show (i+1)*3=i*3+3 by omega,show i*3+3+1=(i*3+1)+3 by omega,show i*3+3+2=(i*3+2)+3 by omega]
  exact ⟨a,b,c⟩
theorem Reads.shl {w:World} {B:Nat} {A:Option Addr} {n:Nat} {ss:List S3} (h:Reads w B 3 A n (scellsS ss)) {k:Nat} (hk:k<n) :
 ∃b off,A=some ⟨b,off,none⟩∧b<B∧(∀j,j<n→w.cell? ⟨b,off+j*3,none⟩=some (.int .i64 (gS ss j).1)∧w.cell? ⟨b,off+j*3+1,none⟩=some (.int .i64 (gS ss j).2.1)∧w.cell? ⟨b,off+j*3+2,none⟩=some (.int .i64 (gS ss j).2.2)):=by
 obtain ⟨b,off,e,hb,hc⟩:=h.2 (by omega)
 have hl:=h.1
 rw [scellsS_len] at hl
 refine ⟨b,off,e,hb,fun j hj=>?_⟩
 obtain ⟨c1,c2,c3⟩:=scellsS_at ss j (by omega)
 exact ⟨hc _ _ c1,hc _ _ c2,hc _ _ c3⟩
theorem ShellCapacity_any (l:Int) (w:World):Calls Tryz.prog 94 #[.int .i64 l] w fun e w'=>e=.returned (.int .i64 (capB l))∧w=w':=by
 obtain ⟨r,hr⟩:∃r,capB l=r:=⟨_,rfl⟩
 rw [hr]
 have HR:=Lib.hid hr;clear hr
 by_cases h0:0≤l
 case neg =>
  have HE:Hid (r=0):=by unfold Hid;rw [←HR.out];unfold capB;rw [if_neg (by omega)]
  have d0:decide (l<0)=true:=decide_eq_true (by omega)
  clear HR
  go_enter Tryz.func94,Tryz.ntmps94
  go_wp2_with fail
  go_ret
  exact ⟨ret_int HE.out.symm,rfl⟩
 by_cases h1:l≤3
 case neg =>
  have HE:Hid (r=0):=by unfold Hid;rw [←HR.out];unfold capB;rw [if_neg (by omega)]
  have d0:decide (l<0)=false:=decide_eq_false (by omega)
  have d1:decide (3<l)=true:=decide_eq_true (by omega)
  clear HR
  go_enter Tryz.func94,Tryz.ntmps94
  go_wp2_with fail
  go_ret
  exact ⟨ret_int HE.out.symm,rfl⟩
 have HE:Hid (r=4*l+2):=by unfold Hid;rw [←HR.out];unfold capB;rw [if_pos ⟨h0,h1⟩]
 have d0:decide (l<0)=false:=decide_eq_false (by omega)
 have d1:decide (3<l)=false:=decide_eq_false (by omega)
 have u1:IntKind.i64.wrap (4*l)=4*l:=IntWalk.i64_in _ (by omega)
 have u2:IntKind.i64.wrap (4*l+2)=4*l+2:=IntWalk.i64_in _ (by omega)
 clear HR
 go_enter Tryz.func94,Tryz.ntmps94
 go_wp2_with fail
 go_ret
 exact ⟨ret_int HE.out.symm,rfl⟩
theorem ShellValid_all (n l c:Int) (w:World):Calls Tryz.prog 100 #[.agg #[.int .i64 n,.int .i64 l,.int .i64 c]] w fun e w'=>e=.returned (.bool (shvB (n,l,c)))∧Below w.heap.size w w':=by
 have HB:=Lib.hid (bel_alloc (Below.refl w.heap.size w) (.cells #[.int .i64 n,.int .i64 l,.int .i64 c] 87))
 obtain ⟨x1,x2,x3,_,_,_⟩:=blk3 (Blk.new w 87 #[.int .i64 n,.int .i64 l,.int .i64 c])
 obtain ⟨W0,hW0⟩:∃W0,w.alloc (.cells #[.int .i64 n,.int .i64 l,.int .i64 c] 87)=W0:=⟨_,rfl⟩
 rw [hW0] at HB x1 x2 x3
 have HW0:=Lib.hid hW0;clear hW0
 have k1:=After.cell x1
 have k2:=After.cell x2
 have k3:=After.cell x3
 have HC:=Lib.hid (fun W=>ShellCapacity_any l W)
 obtain ⟨r,hr⟩:∃r,shvB (n,l,c)=r:=⟨_,rfl⟩
 rw [hr]
 have HR:=Lib.hid hr;clear hr
 obtain ⟨cp,hcp⟩:∃cp,capB l=cp:=⟨_,rfl⟩
 rw [hcp] at HC
 by_cases h0:1≤n
 case neg =>
  have HE:Hid (r=false):=by unfold Hid;rw [←HR.out];unfold shvB;simp only [hcp];simp [h0]
  clear HR hcp
  have d0:decide (1≤n)=false:=decide_eq_false h0
  clear h0
  clear x1 x2 x3
  go_enter Tryz.func100,Tryz.ntmps100
  go_wp2_with fail
  rw [HW0.out]
  refine wp_region_after (by kernel_rfl) (by kernel_rfl) ?_
  repeat (go_big_quiet_step ((go_at_call 94;exact after_same _ (HC.out _))))
  refine wpQuiet_nil ?_
  intro w9 hw'
  obtain ⟨⟨w9',hb9⟩,hw''⟩:=hw'
  subst hw''
  have HB9:=Lib.hid (bel_sub HB.out hb9);clear hb9
  go_wp2_with fail
  go_ret
  exact ⟨ret_bool (by rw [HE.out]),HB9.out⟩
 by_cases h1:n≤7
 case neg =>
  have HE:Hid (r=false):=by unfold Hid;rw [←HR.out];unfold shvB;simp only [hcp];simp [h1]
  clear HR hcp
  have d0:decide (1≤n)=true:=decide_eq_true h0
  have d1:decide (n≤7)=false:=decide_eq_false h1
  clear h0 h1
  clear x1 x2 x3
  go_enter Tryz.func100,Tryz.ntmps100
  go_wp2_with fail
  rw [HW0.out]
  refine wp_region_after (by kernel_rfl) (by kernel_rfl) ?_
  repeat (go_big_quiet_step ((go_at_call 94;exact after_same _ (HC.out _))))
  refine wpQuiet_nil ?_
  intro w9 hw'
  obtain ⟨⟨w9',hb9⟩,hw''⟩:=hw'
  subst hw''
  have HB9:=Lib.hid (bel_sub HB.out hb9);clear hb9
  go_wp2_with fail
  go_ret
  exact ⟨ret_bool (by rw [HE.out]),HB9.out⟩
 by_cases h2:0≤l
 case neg =>
  have HE:Hid (r=false):=by unfold Hid;rw [←HR.out];unfold shvB;simp only [hcp];simp [h2]
  clear HR hcp
  have d0:decide (1≤n)=true:=decide_eq_true h0
  have d1:decide (n≤7)=true:=decide_eq_true h1
  have d2:decide (0≤l)=false:=decide_eq_false h2
  clear h0 h1 h2
  clear x1 x2 x3
  go_enter Tryz.func100,Tryz.ntmps100
  go_wp2_with fail
  rw [HW0.out]
  refine wp_region_after (by kernel_rfl) (by kernel_rfl) ?_
  repeat (go_big_quiet_step ((go_at_call 94;exact after_same _ (HC.out _))))
  refine wpQuiet_nil ?_
  intro w9 hw'
  obtain ⟨⟨w9',hb9⟩,hw''⟩:=hw'
  subst hw''
  have HB9:=Lib.hid (bel_sub HB.out hb9);clear hb9
  go_wp2_with fail
  go_ret
  exact ⟨ret_bool (by rw [HE.out]),HB9.out⟩
 by_cases h3:l≤3
 case neg =>
  have HE:Hid (r=false):=by unfold Hid;rw [←HR.out];unfold shvB;simp only [hcp];simp [h3]
  clear HR hcp
  have d0:decide (1≤n)=true:=decide_eq_true h0
  have d1:decide (n≤7)=true:=decide_eq_true h1
  have d2:decide (0≤l)=true:=decide_eq_true h2
  have d3:decide (l≤3)=false:=decide_eq_false h3
  clear h0 h1 h2 h3
  clear x1 x2 x3
  go_enter Tryz.func100,Tryz.ntmps100
  go_wp2_with fail
  rw [HW0.out]
  refine wp_region_after (by kernel_rfl) (by kernel_rfl) ?_
  repeat (go_big_quiet_step ((go_at_call 94;exact after_same _ (HC.out _))))
  refine wpQuiet_nil ?_
  intro w9 hw'
  obtain ⟨⟨w9',hb9⟩,hw''⟩:=hw'
  subst hw''
  have HB9:=Lib.hid (bel_sub HB.out hb9);clear hb9
  go_wp2_with fail
  go_ret
  exact ⟨ret_bool (by rw [HE.out]),HB9.out⟩
 by_cases h4:l<n
 case neg =>
  have HE:Hid (r=false):=by unfold Hid;rw [←HR.out];unfold shvB;simp only [hcp];simp [h4]
  clear HR hcp
  have d0:decide (1≤n)=true:=decide_eq_true h0
  have d1:decide (n≤7)=true:=decide_eq_true h1
  have d2:decide (0≤l)=true:=decide_eq_true h2
  have d3:decide (l≤3)=true:=decide_eq_true h3
  have d4:decide (l<n)=false:=decide_eq_false h4
  clear h0 h1 h2 h3 h4
  clear x1 x2 x3
  go_enter Tryz.func100,Tryz.ntmps100
  go_wp2_with fail
  rw [HW0.out]
  refine wp_region_after (by kernel_rfl) (by kernel_rfl) ?_
  repeat (go_big_quiet_step ((go_at_call 94;exact after_same _ (HC.out _))))
  refine wpQuiet_nil ?_
  intro w9 hw'
  obtain ⟨⟨w9',hb9⟩,hw''⟩:=hw'
  subst hw''
  have HB9:=Lib.hid (bel_sub HB.out hb9);clear hb9
  go_wp2_with fail
  go_ret
  exact ⟨ret_bool (by rw [HE.out]),HB9.out⟩
 by_cases h5:1≤c
 case neg =>
  have HE:Hid (r=false):=by unfold Hid;rw [←HR.out];unfold shvB;simp only [hcp];simp [h5]
  clear HR hcp
  have d0:decide (1≤n)=true:=decide_eq_true h0
  have d1:decide (n≤7)=true:=decide_eq_true h1
  have d2:decide (0≤l)=true:=decide_eq_true h2
  have d3:decide (l≤3)=true:=decide_eq_true h3
  have d4:decide (l<n)=true:=decide_eq_true h4
  have d5:decide (1≤c)=false:=decide_eq_false h5
  clear h0 h1 h2 h3 h4 h5
  clear x1 x2 x3
  go_enter Tryz.func100,Tryz.ntmps100
  go_wp2_with fail
  rw [HW0.out]
  refine wp_region_after (by kernel_rfl) (by kernel_rfl) ?_
  repeat (go_big_quiet_step ((go_at_call 94;exact after_same _ (HC.out _))))
  refine wpQuiet_nil ?_
  intro w9 hw'
  obtain ⟨⟨w9',hb9⟩,hw''⟩:=hw'
  subst hw''
  have HB9:=Lib.hid (bel_sub HB.out hb9);clear hb9
  go_wp2_with fail
  go_ret
  exact ⟨ret_bool (by rw [HE.out]),HB9.out⟩
 by_cases h6:c≤cp
 case neg =>
  have HE:Hid (r=false):=by unfold Hid;rw [←HR.out];unfold shvB;simp only [hcp];simp [h6]
  clear HR hcp
  have d0:decide (1≤n)=true:=decide_eq_true h0
  have d1:decide (n≤7)=true:=decide_eq_true h1
  have d2:decide (0≤l)=true:=decide_eq_true h2
  have d3:decide (l≤3)=true:=decide_eq_true h3
  have d4:decide (l<n)=true:=decide_eq_true h4
  have d5:decide (1≤c)=true:=decide_eq_true h5
  have d6:decide (c≤cp)=false:=decide_eq_false h6
  clear h0 h1 h2 h3 h4 h5 h6
  clear x1 x2 x3
  go_enter Tryz.func100,Tryz.ntmps100
  go_wp2_with fail
  rw [HW0.out]
  refine wp_region_after (by kernel_rfl) (by kernel_rfl) ?_
  repeat (go_big_quiet_step ((go_at_call 94;exact after_same _ (HC.out _))))
  refine wpQuiet_nil ?_
  intro w9 hw'
  obtain ⟨⟨w9',hb9⟩,hw''⟩:=hw'
  subst hw''
  have HB9:=Lib.hid (bel_sub HB.out hb9);clear hb9
  go_wp2_with fail
  go_ret
  exact ⟨ret_bool (by rw [HE.out]),HB9.out⟩
 have HE:Hid (r=true):=by unfold Hid;rw [←HR.out];unfold shvB;simp only [hcp];simp [h0,h1,h2,h3,h4,h5,h6]
 clear HR hcp
 have d0:decide (1≤n)=true:=decide_eq_true h0
 have d1:decide (n≤7)=true:=decide_eq_true h1
 have d2:decide (0≤l)=true:=decide_eq_true h2
 have d3:decide (l≤3)=true:=decide_eq_true h3
 have d4:decide (l<n)=true:=decide_eq_true h4
 have d5:decide (1≤c)=true:=decide_eq_true h5
 have d6:decide (c≤cp)=true:=decide_eq_true h6
 clear h0 h1 h2 h3 h4 h5 h6
 clear x1 x2 x3
 go_enter Tryz.func100,Tryz.ntmps100
 go_wp2_with fail
 rw [HW0.out]
 refine wp_region_after (by kernel_rfl) (by kernel_rfl) ?_
 repeat (go_big_quiet_step ((go_at_call 94;exact after_same _ (HC.out _))))
 refine wpQuiet_nil ?_
 intro w9 hw'
 obtain ⟨⟨w9',hb9⟩,hw''⟩:=hw'
 subst hw''
 have HB9:=Lib.hid (bel_sub HB.out hb9);clear hb9
 go_wp2_with fail
 go_ret
 exact ⟨ret_bool (by rw [HE.out]),HB9.out⟩
def or2 (a b:Int):Int:=if a≠0 then a else b
theorem or_any (L:Nat) (a b:Int) (w:World) (hL:Blk w L 3 #[.int .i64 a,.int .i64 b]) :
 Calls Tryz.prog 136 #[.slice (some ⟨L,0,none⟩) 2 2] w fun e w'=>e=.returned (.int .i64 (or2 a b))∧w'=w:=by
 obtain ⟨y1,y2,_,_⟩:=blk2 hL
 clear hL
 go_enter Tryz.func136,Tryz.ntmps136
 go_wp2_with fail
 go_loopw [8] (fun i wr=>∃k:Nat,k≤2∧i=.int .i64 k∧wr=w∧(0<k→a=0)∧(1<k→b=0)) (fun i _=>2-(intOf i).toNat)
 case atStart=>exact ⟨0,by omega,rfl,rfl,fun h=>absurd h (by omega),fun h=>absurd h (by omega)⟩
 case round =>
  obtain ⟨k,hk,rfl,rfl,ha,hb⟩:=hrel
  have hk4:k=0∨k=1∨k=2:=by omega
  rcases hk4 with rfl | rfl | rfl
  ·clear ha hb
   by_cases h:a=0
   ·subst h
    go_wp2_with fail
    go_roundw
    case rel=>exact ⟨1,by omega,rfl,by simp,by simp,fun h=>absurd h (by omega)⟩
    case measure=>simp [intOf]
   ·have e1:(a != 0)=true:=by simpa using h
    have he:or2 a b=a:=by unfold or2;rw [if_pos h]
    have HE:=Lib.hid he;clear he h
    go_wp2_with fail
    go_ret
    exact ⟨ret_int HE.out.symm,rfl⟩
  ·have ha0:=ha (by omega)
   subst ha0
   clear ha hb
   have he:or2 0 b=b:=by simp [or2]
   by_cases h:b=0
   ·subst h
    go_wp2_with fail
    go_roundw
    case rel=>exact ⟨2,by omega,rfl,by simp,by simp,by simp⟩
    case measure=>simp [intOf]
   ·have e1:(b != 0)=true:=by simpa using h
    have HE:=Lib.hid he;clear he h
    go_wp2_with fail
    go_ret
    exact ⟨ret_int HE.out.symm,rfl⟩
  ·have ha0:=ha (by omega)
   have hb0:=hb (by omega)
   subst ha0 hb0
   clear ha hb
   go_wp2_with fail
   go_ret
   exact ⟨by simp [or2],rfl⟩
def encS (x:S3):List Value:=[.int .i64 x.1,.int .i64 x.2.1,.int .i64 x.2.2]
def cfS (x y:S3):Int:=or2 (Lib.compareInt x.1 y.1) (Lib.compareInt x.2.1 y.2.1)
theorem cfS_less (x y:S3):decide (cfS x y<0)=lessS x y:=by
 unfold cfS lessS or2 Lib.compareInt
 rw [decide_eq_decide]
 (repeat' split) <;> omega
theorem compareShells_any (x y:S3) (W:World):Calls Tryz.prog 96 #[.agg #[.int .i64 x.1,.int .i64 x.2.1,.int .i64 x.2.2],.agg #[.int .i64 y.1,.int .i64 y.2.1,.int .i64 y.2.2]] W fun e w'=>e=.returned (.int .i64 (cfS x y))∧∃q os',w'=grow (W.drewN q) os':=by
 obtain ⟨x1,x2,x3⟩:=x
 obtain ⟨y1,y2,y3⟩:=y
 unfold cfS
 have HC1:=Lib.hid (fun W=>Tryz.cmp_Compare_int x1 y1 W)
 have HC2:=Lib.hid (fun W=>Tryz.cmp_Compare_int x2 y2 W)
 generalize Lib.compareInt x1 y1=c1 at *
 generalize Lib.compareInt x2 y2=c2 at *
 obtain ⟨W2,hW2⟩:∃W2,(W.alloc (.cells #[.int .i64 x1,.int .i64 x2,.int .i64 x3] 87)).alloc (.cells #[.int .i64 y1,.int .i64 y2,.int .i64 y3] 87)=W2:=⟨_,rfl⟩
 have HE:Hid (∀o,∃q os',W2.drew.alloc o=grow (W.drewN q) os'):=fun o=>by
  refine ⟨1,(#[.cells #[.int .i64 x1,.int .i64 x2,.int .i64 x3] 87]++#[.cells #[.int .i64 y1,.int .i64 y2,.int .i64 y3] 87])++#[o],?_⟩
  rw [←hW2,alloc_eq_grow,alloc_eq_grow W,alloc_eq_grow (grow _ _),grow_grow]
  show grow (grow (W.drewN 1) _) _=_
  rw [grow_grow]
 have HX:=Lib.hid ((Blk.new W 87 #[.int .i64 x1,.int .i64 x2,.int .i64 x3]).alloc (.cells #[.int .i64 y1,.int .i64 y2,.int .i64 y3] 87))
 have HY:=Lib.hid (Blk.new (W.alloc (.cells #[.int .i64 x1,.int .i64 x2,.int .i64 x3] 87)) 87 #[.int .i64 y1,.int .i64 y2,.int .i64 y3])
 go_enter Tryz.func96,Tryz.ntmps96
 go_wp2_with fail
 rw [hW2] at HX HY
 obtain ⟨p1,p2,p3,_,_,_⟩:=blk3 HX.out
 obtain ⟨q1,q2,q3,_,_,_⟩:=blk3 HY.out
 clear hW2 HX HY
 simp only [World.size_alloc] at q1 q2 q3
 go_still_tail 10,(by kernel_rfl)
 still_call (HC1.out _)
 repeat still_step
 still_call (HC2.out _)
 refine wpStill_nil ?_
 change wpList _ _ _ _ _ W2.drew
 clear p1 p2 p3 q1 q2 q3 HC1 HC2
 generalize W2.drew=W3 at *
 go_wp2_with fail
 refine (or_any W3.heap.size c1 c2 _ (Blk.new _ _ _)).mono ?_
 rintro e w4 ⟨rfl,rfl⟩
 go_wp2_with fail
 go_ret
 exact ⟨rfl,HE.out _⟩
theorem cmpLaysS (blk off size:Nat) (w:World):CmpLays Tryz.prog 96 #[] encS 3 cfS blk off size w :=
 fun _ _ _ _ x y=>compareShells_any x y _
theorem grow_below {W w':World} (h:∃q os',w'=grow (W.drewN q) os'):Below W.heap.size W w':=by
 obtain ⟨q,os,rfl⟩:=h
 exact ⟨rfl,rfl,rfl,by show W.heap.size≤(W.heap++os).size;simp,fun i hi=>by
  show (W.heap++os)[i]?=_
  rw [Array.getElem?_append_left hi]⟩
end
section
open Go.RowKit
attribute [local go_sem ↓] Go.wp_at_zero Go.wp_at_succ
def okAt (ss:List S3) (k:Nat):Bool:=shvB (gS ss k) && (k==0 || lessS (gS ss (k-1)) (gS ss k))
def cvB (ss:List S3):Bool:=(List.range ss.length).all (okAt ss) && !(ss.length==0)
theorem cv_no {ss:List S3} {k:Nat} (hk:k<ss.length) (h:okAt ss k=false):cvB ss=false:=by
 unfold cvB
 rw [Bool.and_eq_false_iff]
 exact .inl (List.all_eq_false.2 ⟨k,List.mem_range.2 hk,by rw [h];simp⟩)
theorem cv_yes {ss:List S3} (h:∀k,k<ss.length→okAt ss k=true):cvB ss=decide (0<ss.length):=by
 unfold cvB
 rw [List.all_eq_true.2 (fun k hk=>h k (List.mem_range.1 hk)),Bool.true_and]
 cases ss <;> simp
theorem ConfigValid_any (A:Option Addr) (n c:Nat) (ss:List S3) (w:World) (hn:n≤1000000) (hl:ss.length=n) (hr:Reads w w.heap.size 3 A n (scellsS ss)) :
 Calls Tryz.prog 52 #[.slice A n c] w fun e w'=>e=.returned (.bool (cvB ss))∧Below w.heap.size w w':=by
 have HL:=Lib.hid hl;clear hl
 have HR:=Lib.hid hr;clear hr
 have hB0:=Below.refl w.heap.size w
 go_enter Tryz.func52,Tryz.ntmps52
 go_wp2_with fail
 go_loopw [3,4,7] (fun _ _ i wr=>∃(k:Nat),k≤n∧i=.int .i64 k∧Hid (∀j,j<k→okAt ss j=true)∧Hid (Below w.heap.size w wr)) (fun _ _ i _=>n-(RowKit.intOf i).toNat)
 case atStart=>exact ⟨0,Nat.zero_le _,rfl,fun j h=>absurd h (by omega),hB0⟩
 case round =>
  clear hB0
  obtain ⟨k,hk,rfl,HO,HB⟩:=hrel
  by_cases hlt:k<n
  ·obtain ⟨b,off,rfl,hb,hc⟩:=(HR.out.below HB.out).shl hlt
   obtain ⟨r1,r2,r3⟩:=hc k hlt
   have HNO:=Lib.hid (fun (h:okAt ss k=false)=>cv_no (by rw [HL.out];exact hlt) h)
   have hok:okAt ss k=(shvB ((gS ss k).1,(gS ss k).2.1,(gS ss k).2.2) && (k==0 || lessS (gS ss (k-1)) (gS ss k))):=rfl
   have HV:=Lib.hid (fun W=>ShellValid_all (gS ss k).1 (gS ss k).2.1 (gS ss k).2.2 W)
   have i1:(k:Int)<(n:Int):=by omega
   have i0:(0:Int)≤(k:Int):=by omega
   have HB1:=Lib.hid (bel_alloc HB.out (.cells #[.int .i64 (gS ss k).1,.int .i64 (gS ss k).2.1,.int .i64 (gS ss k).2.2] 87))
   obtain ⟨y1,y2,y3,_,_,_⟩:=blk3 (Blk.new wr 87 #[.int .i64 (gS ss k).1,.int .i64 (gS ss k).2.1,.int .i64 (gS ss k).2.2])
   have k1:=After.cell y1
   have k2:=After.cell y2
   have k3:=After.cell y3
   clear y1 y2 y3
   cases v:shvB ((gS ss k).1,(gS ss k).2.1,(gS ss k).2.2)
   ·rw [v] at HV hok
    have HE:Hid (cvB ss=false):=HNO.out (by rw [hok];rfl)
    clear hok v hc
    generalize (gS ss k).1=s1 at *
    generalize (gS ss k).2.1=s2 at *
    generalize (gS ss k).2.2=s3 at *
    go_wp2_with fail
    refine wp_region_after (by kernel_rfl) (by kernel_rfl) ?_
    repeat (go_big_quiet_step ((go_at_call 100;exact after_call _ (HV.out _))))
    refine wpQuiet_nil ?_
    intro w9 hw'
    obtain ⟨⟨w9',hb9⟩,hw''⟩:=hw'
    subst hw''
    have HB9:=Lib.hid (bel_sub HB1.out hb9);clear hb9
    go_wp2_with fail
    go_ret
    exact ⟨ret_bool HE.out.symm,HB9.out⟩
   rw [v] at HV hok
   clear v
   by_cases h0:k=0
   ·have HN:Hid (∀j,j<k+1→okAt ss j=true):=fun j hj=>by
     obtain rfl:j=k:=by omega
     rw [hok];simp [h0]
    have d0:decide (0<k)=false:=decide_eq_false (by omega)
    clear hok hc h0
    generalize (gS ss k).1=s1 at *
    generalize (gS ss k).2.1=s2 at *
    generalize (gS ss k).2.2=s3 at *
    go_wp2_with fail
    refine wp_region_after (by kernel_rfl) (by kernel_rfl) ?_
    repeat (go_big_quiet_step ((go_at_call 100;exact after_call _ (HV.out _))))
    refine wpQuiet_nil ?_
    intro w9 hw'
    obtain ⟨⟨w9',hb9⟩,hw''⟩:=hw'
    subst hw''
    have HB9:=Lib.hid (bel_sub HB1.out hb9);clear hb9
    go_wp2_with fail
    go_roundw
    case rel=>exact ⟨k+1,by omega,by go_num,HN.out,HB9.out⟩
    case measure=>simp [RowKit.intOf];omega
   obtain ⟨i,rfl⟩:∃i,k=i+1:=⟨k-1,by omega⟩
   clear h0
   obtain ⟨q1,q2,q3⟩:=hc i (by omega)
   have HCM:=Lib.hid (fun W=>compareShells_any (gS ss i) (gS ss (i+1)) W)
   have hls:=cfS_less (gS ss i) (gS ss (i+1))
   have hok2:okAt ss (i+1)=lessS (gS ss i) (gS ss (i+1)):=by rw [hok];simp
   rw [←hls] at hok2
   have hal:Below wr.heap.size wr (wr.alloc (.cells #[.int .i64 (gS ss (i+1)).1,.int .i64 (gS ss (i+1)).2.1,.int .i64 (gS ss (i+1)).2.2] 87)):=(Below.refl _ _).alloc (Nat.le_refl _) _
   have k4:=After.cell (cell_sub hal q1)
   have k5:=After.cell (cell_sub hal q2)
   have k6:=After.cell (cell_sub hal q3)
   clear hok hc hls q1 q2 q3 hal
   have d0:decide (0<i+1)=true:=decide_eq_true (by omega)
   have i4:IntKind.i64.wrap ((i:Int)+1-1)=(i:Int):=(IntWalk.i64_in _ (by omega)).trans (by omega)
   have i5:(0:Int)≤(i:Int):=by omega
   have i6:(i:Int)<(n:Int):=by omega
   generalize (gS ss (i+1)).1=s1 at *
   generalize (gS ss (i+1)).2.1=s2 at *
   generalize (gS ss (i+1)).2.2=s3 at *
   generalize (gS ss i).1=t1 at *
   generalize (gS ss i).2.1=t2 at *
   generalize (gS ss i).2.2=t3 at *
   obtain ⟨C,hC⟩:∃C,cfS (gS ss i) (gS ss (i+1))=C:=⟨_,rfl⟩
   rw [hC] at HCM hok2
   clear hC
   by_cases hlt0:C<0
   ·have HN:Hid (∀j,j<i+1+1→okAt ss j=true):=fun j hj=>by
     rcases Nat.lt_or_ge j (i+1) with h | h
     ·exact HO.out j h
     ·obtain rfl:j=i+1:=by omega
      rw [hok2];exact decide_eq_true hlt0
    have d1:decide (0≤C)=false:=decide_eq_false (by omega)
    clear hok2
    go_wp2_with fail
    refine wp_region_after (by kernel_rfl) (by kernel_rfl) ?_
    repeat (go_big_quiet_step ((first | (go_at_call 100;exact after_call _ (HV.out _)) | (go_at_call 96;exact after_call _ ((HCM.out _).mono fun _ _ h=>And.intro h.1 (grow_below h.2))))))
    refine wpQuiet_nil ?_
    intro w9 hw'
    obtain ⟨⟨w9',hb9⟩,hw''⟩:=hw'
    subst hw''
    have HB9:=Lib.hid (bel_sub HB1.out hb9);clear hb9
    go_wp2_with fail
    go_roundw
    case rel=>exact ⟨i+1+1,by omega,by go_num,HN.out,HB9.out⟩
    case measure=>simp [RowKit.intOf];omega
   ·have HE:Hid (cvB ss=false):=HNO.out (by rw [hok2];exact decide_eq_false hlt0)
    have d1:decide (0≤C)=true:=decide_eq_true (by omega)
    clear hok2
    go_wp2_with fail
    refine wp_region_after (by kernel_rfl) (by kernel_rfl) ?_
    repeat (go_big_quiet_step ((first | (go_at_call 100;exact after_call _ (HV.out _)) | (go_at_call 96;exact after_call _ ((HCM.out _).mono fun _ _ h=>And.intro h.1 (grow_below h.2))))))
    refine wpQuiet_nil ?_
    intro w9 hw'
    obtain ⟨⟨w9',hb9⟩,hw''⟩:=hw'
    subst hw''
    have HB9:=Lib.hid (bel_sub HB1.out hb9);clear hb9
    go_wp2_with fail
    go_ret
    exact ⟨ret_bool HE.out.symm,HB9.out⟩
  ·obtain rfl:k=n:=by omega
   have HE:Hid (cvB ss=decide (0<k)):=by unfold Hid;rw [cv_yes (fun j hj=>HO.out j (by rw [HL.out] at hj;exact hj)),HL.out]
   have hin:decide ((0:Int)<(k:Int))=decide (0<k):=by rw [decide_eq_decide];omega
   go_wp2_with fail
   go_ret
   exact ⟨ret_bool (by rw [HE.out]),HB.out⟩
end
section
open Go.RowKit
attribute [local go_sem ↓] Go.wp_at_zero Go.wp_at_succ
theorem join_leCk {m:Nat} {L:List (List UInt8)} (h:∀x∈L,x.length≤m):∀k,k≤L.length→(Lib.join (L.take k) [32]).length≤(m+1)*k
 | 0,_=>by simp [Lib.join_nil]
 | k+1,hk=>by
  have ih:=join_leCk h k (by omega)
  have h2:=h L[k] (List.getElem_mem (by omega))
  rw [List.take_succ_eq_append_getElem (by omega),join_snoc,List.length_append,Nat.mul_add]
  split
  ·simp only [List.length_nil];omega
  ·rw [List.length_append];simp only [List.length_cons,List.length_nil];omega
theorem join_leC {m:Nat} {L:List (List UInt8)} (h:∀x∈L,x.length≤m):(Lib.join L [32]).length≤(m+1)*L.length:=by
 have:=join_leCk h L.length (Nat.le_refl _)
 rwa [List.take_length] at this
theorem join_anyC (A:Option Addr) (n c:Nat) (L:List (List UInt8)) (base:Nat) (w:World) (hl:L.length=n) (hc:n≤c) (hn:n≤1000000) (hj:(Lib.join L [32]).length≤1000000) (h:w.ownsRow base 9 1 (.slice A n c) n (scells L)) :
 Calls Tryz.prog 54 #[.slice A n c,.string ⟨#[32]⟩] w fun e w'=>e=.returned (.string (bs (Lib.join L [32])))∧Below w.heap.size w w':=by
 rcases Nat.eq_zero_or_pos n with h0 | h0
 ·subst h0
  obtain rfl:=List.length_eq_zero_iff.1 hl
  exact (Tryz.strings_Join_none A c ⟨#[32]⟩ w).mono fun e w' ⟨he,hw⟩=>⟨he,hw ▸ Below.refl _ _⟩
 ·obtain ⟨g,cur,rfl,hg,hblk,hfl⟩:=own_blk2 h h0
  have hmm:((L.map bs).map fun x:ByteArray=>x.data.toList)=L:=by
   rw [List.map_map]
   conv=>rhs;rw [←List.map_id L]
   rfl
  have hln:(L.map bs).length=n:=by rw [List.length_map,hl]
  have hjj:=Tryz.strings_Join g 0 c (L.map bs) ⟨#[32]⟩ w (fun i x hx=>by
   rw [Nat.zero_add,hblk.cell]
   refine hfl i _ ?_
   unfold scells
   rw [List.getElem?_map] at hx ⊢
   cases hq:L[i]? with
   | none=>rw [hq] at hx;cases hx
   | some l=>rw [hq] at hx;cases hx;rfl) hblk.lt (by rw [hln];omega) (by rw [hln];exact hc) (by rw [hmm];show (Lib.join _ [32]).length≤_;omega)
  rw [hmm,show (⟨#[32]⟩:ByteArray).data.toList=[32] from rfl,hln] at hjj
  exact hjj
def sLs:List UInt8:=[115,112,100,102]
def shT (s:S3):List UInt8:=if shvB s=true then Lib.decDigits s.1.toNat++[sLs.getD s.2.1.toNat 0]++Lib.decDigits s.2.2.toNat else []
def cfgT (ss:List S3):List UInt8:=if cvB ss=true then Lib.join (ss.map shT) [32] else []
theorem shv_nat {s:S3} (h:shvB s=true):∃n l c:Nat,s=((n:Int),(l:Int),(c:Int))∧1≤n∧n≤7∧l≤3∧l<n∧1≤c∧c≤4*l+2:=by
 obtain ⟨h1,h2,h3,h4,h5,h6,h7⟩:=shvB_iff.1 h
 obtain ⟨n,l,c⟩:=s
 simp only at *
 obtain ⟨n,rfl⟩:=Int.eq_ofNat_of_zero_le (show 0≤n by omega)
 obtain ⟨l,rfl⟩:=Int.eq_ofNat_of_zero_le h3
 obtain ⟨c,rfl⟩:=Int.eq_ofNat_of_zero_le (show 0≤c by omega)
 unfold capB at h7
 rw [if_pos ⟨h3,h4⟩] at h7
 exact ⟨n,l,c,rfl,by omega,by omega,by omega,by omega,by omega,by omega⟩
theorem shT_len (s:S3):(shT s).length≤4:=by
 unfold shT
 split
 ·rename_i h
  obtain ⟨n,l,c,rfl,h1,h2,h3,h4,h5,h6⟩:=shv_nat h
  simp only [Int.toNat_natCast,List.length_append,List.length_cons,List.length_nil]
  have a:=dig_len 0 n (by omega)
  have b:=dig_len 1 c (by omega)
  omega
 ·simp
theorem sLs_cut (l:Nat) (h:l≤3):(⟨#[115,112,100,102]⟩:ByteArray).extract l (l+1)=bs [sLs.getD l 0]:=by
 have hl:l=0∨l=1∨l=2∨l=3:=by omega
 rcases hl with rfl | rfl | rfl | rfl <;> rfl
theorem slice_sLs (l:Nat) (h:l≤3) (W:World) :
 (Instr.slice 9 (.string ⟨#[115,112,100,102]⟩) (some (.int .i64 (l:Int))) (some (.int .i64 ((l:Int)+1))) none).run Tryz.prog W=.ok (.string (bs [sLs.getD l 0])) W:=by
 rw [run_slice_string_if (h:=Tryz.underlying9),if_pos ⟨by omega,by show (l:Int)+1≤4;omega⟩,if_pos ⟨by omega,by omega⟩,Int.toNat_natCast,show ((l:Int)+1).toNat=l+1 by omega,sLs_cut l h]
theorem ShellText_any (s:S3) (w:World) :
 Calls Tryz.prog 53 #[.agg #[.int .i64 s.1,.int .i64 s.2.1,.int .i64 s.2.2]] w fun e w'=>e=.returned (.string (bs (shT s)))∧Below w.heap.size w w':=by
 have HV:=Lib.hid (fun W=>ShellValid_all s.1 s.2.1 s.2.2 W)
 rw [show ((s.1,s.2.1,s.2.2):S3)=s from rfl] at HV
 cases hv:shvB s
 ·have he:shT s=[]:=by unfold shT;rw [hv];simp
  rw [he,bs_nil];rw [hv] at HV;clear hv he
  have HB0:=Lib.hid (bel_alloc (Below.refl w.heap.size w) (.cells #[.int .i64 s.1,.int .i64 s.2.1,.int .i64 s.2.2] 87))
  obtain ⟨s1,s2,s3⟩:=s
  simp only at *
  go_enter Tryz.func53,Tryz.ntmps53
  go_wp2_with fail
  refine (HV.out _).mono ?_
  rintro e w1 ⟨rfl,hb1⟩
  have HB:=Lib.hid (bel_sub HB0.out hb1);clear hb1
  go_wp2_with fail
  go_ret
  exact ⟨rfl,HB.out⟩
 obtain ⟨n,l,c,rfl,h1,h2,h3,h4,h5,h6⟩:=shv_nat hv
 have he:bs (shT ((n:Int),(l:Int),(c:Int)))=bs (Lib.decDigits n)++bs [sLs.getD l 0]++bs (Lib.decDigits c):=by unfold shT;rw [if_pos hv,bs_append,bs_append];rfl
 rw [he];rw [hv] at HV;clear hv he
 have HI1:=Lib.hid (fun W=>itoaSmall_any n (by omega) W)
 have HI2:=Lib.hid (fun W=>itoaSmall_any c (by omega) W)
 have hz1:(bs (Lib.decDigits n)).size≤7:=by rw [bs_size];exact dig_len7 (by omega)
 have hz2:(bs (Lib.decDigits c)).size≤7:=by rw [bs_size];exact dig_len7 (by omega)
 have hz3:(bs [sLs.getD l 0]).size≤1:=Nat.le_of_eq (bs_size _)
 have hsl:=fun W=>slice_sLs l (by omega) W
 generalize bs (Lib.decDigits n)=D1 at *
 generalize bs (Lib.decDigits c)=D2 at *
 generalize bs [sLs.getD l 0]=V at *
 have u2:IntKind.i64.wrap ((l:Int)+1)=(l:Int)+1:=IntWalk.i64_in _ (by omega)
 have HB0:=Lib.hid (bel_alloc (Below.refl w.heap.size w) (.cells #[.int .i64 (n:Int),.int .i64 (l:Int),.int .i64 (c:Int)] 87))
 have HX:=Lib.hid (Blk.new w 87 #[.int .i64 (n:Int),.int .i64 (l:Int),.int .i64 (c:Int)])
 simp only at HV ⊢
 go_enter Tryz.func53,Tryz.ntmps53
 go_wp2_with fail
 refine (HV.out _).mono ?_
 rintro e w1 ⟨rfl,hb1⟩
 have HB:=Lib.hid (bel_sub HB0.out hb1)
 obtain ⟨x1,x2,x3⟩:=Level3 (HX.out.sub hb1)
 clear hb1 HB0 HX
 have k1:=After.cell x1
 have k2:=After.cell x2
 have k3:=After.cell x3
 go_wp2_with fail
 refine wp_region_after (by kernel_rfl) (by kernel_rfl) ?_
 repeat (go_big_quiet_step ((go_at_call 45;first | (with_reducible exact after_same _ (HI1.out _)) | (with_reducible exact after_same _ (HI2.out _)))))
 refine wpQuiet_nil ?_
 intro w9 hw'
 obtain ⟨⟨w9',hb9⟩,hw''⟩:=hw'
 subst hw''
 have HB9:=Lib.hid (bel_sub HB.out hb9);clear hb9
 go_wp2_with fail
 go_ret
 exact ⟨rfl,HB9.out⟩
theorem ConfigText_any (A:Option Addr) (n c:Nat) (ss:List S3) (w:World) (hn:n≤1000) (hl:ss.length=n) (hr:Reads w w.heap.size 3 A n (scellsS ss)) :
 Calls Tryz.prog 19 #[.slice A n c] w fun e w'=>e=.returned (.string (bs (cfgT ss)))∧Below w.heap.size w w':=by
 have HV:=Lib.hid (ConfigValid_any A n c ss w (by omega) hl hr)
 have hjl:(Lib.join (ss.map shT) [32]).length≤5*n:=by
  have:=join_leC (m:=4) (L:=ss.map shT) (fun x hx=>by obtain ⟨s,_,rfl⟩:=List.mem_map.1 hx;exact shT_len s)
  rw [List.length_map,hl] at this
  exact this
 have HJL:=Lib.hid hjl;clear hjl
 have HL:=Lib.hid hl;clear hl
 have HR:=Lib.hid hr;clear hr
 cases hv:cvB ss
 ·have he:cfgT ss=[]:=by unfold cfgT;rw [hv];simp
  rw [he,bs_nil];rw [hv] at HV;clear hv he
  go_enter Tryz.func19,Tryz.ntmps19
  go_wp2_with fail
  refine HV.out.mono ?_
  rintro e w1 ⟨rfl,hb1⟩
  have HB:=Lib.hid hb1;clear hb1
  go_wp2_with fail
  go_ret
  exact ⟨rfl,HB.out⟩
 have he:cfgT ss=Lib.join (ss.map shT) [32]:=by unfold cfgT;rw [hv];simp
 rw [he];rw [hv] at HV;clear hv he
 obtain ⟨cs,hcs,hmk⟩:=run_mk0 elStr n (by omega) (by omega)
 have HCS:=Lib.hid hcs;clear hcs
 go_enter Tryz.func19,Tryz.ntmps19
 go_wp2_with fail
 refine HV.out.mono ?_
 rintro e w1 ⟨rfl,hb1⟩
 have HB0:=Lib.hid (bel_alloc hb1 (.cells cs 9))
 have HO:=Lib.hid (World.ownsRow_made (base:=w.heap.size) (e:=9) (size:=1) w1 cs n hb1.size (by unfold maxLen;omega) HCS.out)
 clear hb1
 go_wp2_with fail
 go_loopw [3,5,14] (fun v _ i wr=>∃(k:Nat) (A':Option Addr) (c':Nat),k≤n∧i=.int .i64 k∧v=.slice A' k c'∧k≤c'∧Hid (wr.ownsRow w.heap.size 9 1 (.slice A' k c') k (scells ((ss.take k).map shT)))∧Hid (Below w.heap.size w wr)) (fun _ _ i _=>n-(RowKit.intOf i).toNat)
 case atStart=>exact ⟨0,_,_,Nat.zero_le _,rfl,rfl,Nat.zero_le _,HO.out,HB0.out⟩
 case round =>
  clear HO HB0 hmk
  obtain ⟨k,A',c',hk,rfl,rfl,hkc,HW,HB⟩:=hrel
  by_cases hlt:k<n
  ·obtain ⟨b,off,rfl,hb,hc⟩:=(HR.out.below HB.out).shl hlt
   obtain ⟨r1,r2,r3⟩:=hc k hlt
   have hkl:k<ss.length:=by rw [HL.out];exact hlt
   have hjk:ss[k]=gS ss k:=by simp [gS,hkl]
   have HJ:Hid (scells ((ss.take (k+1)).map shT)=scells ((ss.take k).map shT)++[.string (bs (shT (gS ss k)))]):=by
    unfold Hid scells
    rw [List.take_succ_eq_append_getElem hkl,List.map_append,List.map_append,hjk]
    rfl
   have HX:=Lib.hid (fun W=>ShellText_any (gS ss k) W)
   clear hc hjk hkl
   generalize bs (shT (gS ss k))=T at *
   generalize (gS ss k).1=s1 at *
   generalize (gS ss k).2.1=s2 at *
   generalize (gS ss k).2.2=s3 at *
   have i1:(k:Int)<(n:Int):=by omega
   have i0:(0:Int)≤(k:Int):=by omega
   have hal:Below wr.heap.size wr (wr.alloc (.cells #[.int .i64 s1,.int .i64 s2,.int .i64 s3] 87)):=(Below.refl _ _).alloc (Nat.le_refl _) _
   have HB1:=Lib.hid (bel_sub HB.out hal)
   have HW1:=Lib.hid (own_below HW.out hal)
   clear hal
   go_wp2_with fail
   refine (HX.out _).mono ?_
   rintro e w6 ⟨rfl,hb6⟩
   have HB3:=Lib.hid (bel_sub HB1.out hb6)
   have HW3:=Lib.hid (own_below HW1.out hb6)
   have hs3:=HB3.out.size
   clear hb6 HB1 HW1
   go_wp2_with (at_builtin;refine wpList_app1 _ rfl (.tmp 18) (.tmp 21) _ rfl w.heap.size 9 1 16 elStr A' c' k (scells ((ss.take k).map shT)) rfl (HW3.out.alloc _) w6.heap.size #[.string T] rfl (Blk.new w6 _ _) rfl ?h1 (by omega) (by omega) (by simp;omega) ?_)
   case h1=>simp [Value.oneCell']
   intro A2 c2 w7 hown7 hc7 hb7
   have HW7:=Lib.hid hown7
   have HB7:=Lib.hid ((HB3.out.alloc HB3.out.size (.cells #[.string T] 9)).trans hb7)
   clear hown7 hb7 HB3 HW3
   go_wp2_with fail
   go_roundw
   case rel =>
    refine ⟨k+1,A2,c2,by omega,by go_num,rfl,hc7,?_,HB7.out⟩
    unfold Hid
    rw [HJ.out];simpa only [List.map_take] using HW7.out
   case measure=>simp [RowKit.intOf];omega
  ·obtain rfl:k=n:=by omega
   have htk:ss.take k=ss:=List.take_of_length_le (by rw [HL.out];exact Nat.le_refl _)
   rw [htk] at HW
   have HJN:=Lib.hid (join_anyC A' k c' (ss.map shT) w.heap.size wr (by rw [List.length_map,HL.out]) hkc (by omega) (by have:=HJL.out;omega) HW.out)
   have HB9:=Lib.hid HB.out
   clear HW HB htk
   go_wp2_with fail
   refine HJN.out.mono ?_
   rintro e w5 ⟨rfl,hb5⟩
   have HB5:=Lib.hid (bel_sub HB9.out hb5);clear hb5
   go_wp2_with fail
   go_ret
   exact ⟨rfl,HB5.out⟩
end
section
open Go.RowKit Go.Lib
attribute [local go_sem ↓] Go.wp_at_zero Go.wp_at_succ
def allSh:List S3:=(List.range 7).flatMap fun n=>(List.range (min 4 (n+1))).flatMap fun l=>(List.range (4*l+2)).map fun (c:Nat)=>((n:Int)+1,(l:Int),(c:Int)+1)
theorem allSh_mem {s:S3} (h:shvB s=true):s∈allSh:=by
 obtain ⟨n,l,c,rfl,h1,h2,h3,h4,h5,h6⟩:=shv_nat h
 unfold allSh
 refine List.mem_flatMap.2 ⟨n-1,List.mem_range.2 (by omega),List.mem_flatMap.2 ⟨l,List.mem_range.2 (by omega),List.mem_map.2 ⟨c-1,List.mem_range.2 (by omega),?_⟩⟩⟩
 rw [show ((n-1:Nat):Int)+1=(n:Int) by omega,show ((c-1:Nat):Int)+1=(c:Int) by omega]
theorem allSh_valid:∀s∈allSh,shvB s=true∧(3≤(shT s).length∧(shT s).length≤4)∧(shT s)[0]?=some (UInt8.ofNat (48+s.1.toNat))∧(shT s)[1]?=some (sLs.getD s.2.1.toNat 0)∧(shT s).drop 2=Lib.decDigits s.2.2.toNat∧32∉shT s∧10∉shT s∧(shT s).all (fun c=>decide (c.toNat<128))=true:=by decide +kernel
def shF (s:List UInt8):S3 × Bool:=match allSh.find? fun x=>decide (shT x=s) with
 | some x=>(x,true)
 | none=>((0,0,0),false)
theorem shF_yes {s:List UInt8} (h:(shF s).2=true):shvB (shF s).1=true∧shT (shF s).1=s:=by
 unfold shF at *
 split at h
 ·rename_i x hx
  have h2:decide (shT x=s)=true:=List.find?_some (p:=fun x=>decide (shT x=s)) hx
  exact ⟨(allSh_valid x (List.mem_of_find?_eq_some hx)).1,of_decide_eq_true h2⟩
 ·cases h
theorem shF_no {s:List UInt8} (h:(shF s).2=false):shF s=((0,0,0),false)∧∀x,shvB x=true→shT x≠s:=by
 unfold shF at *
 split at h
 ·cases h
 ·rename_i hx
  refine ⟨rfl,fun x hv e=>?_⟩
  have:=List.find?_eq_none.1 hx x (allSh_mem hv)
  simp [e] at this
theorem shT_inj {x y:S3} (hx:shvB x=true) (hy:shvB y=true) (h:shT x=shT y):x=y:=by
 have hd:∀x∈allSh,∀y∈allSh,shT x=shT y→x=y:=by decide +kernel
 exact hd x (allSh_mem hx) y (allSh_mem hy) h
theorem shF_text {x:S3} (h:shvB x=true):shF (shT x)=(x,true):=by
 cases hf:(shF (shT x)).2
 ·exact absurd rfl ((shF_no hf).2 x h)
 ·have:=shF_yes hf
  have e:=shT_inj this.1 h this.2
  rw [show shF (shT x)=((shF (shT x)).1,(shF (shT x)).2) from rfl,e,hf]
theorem bs_at (l:List UInt8) (i:Nat) (h:i<l.length):(bs l)[i]'(by rw [bs_size];exact h)=l[i]:=rfl
theorem runes_ascii (l:List UInt8) (ha:∀c∈l,c.toNat<128):∀(bound i:Nat) (acc:List Int),l.length≤i+bound→Conv.runesFrom (bs l) bound i (acc.map (Value.int .i32)).toArray=((acc++(l.drop i).map (fun c=>(c.toNat:Int))).map (Value.int .i32)).toArray
 | 0,i,acc,h=>by simp [Conv.runesFrom,List.drop_eq_nil_of_le (show l.length≤i by omega)]
 | bound+1,i,acc,h=>by
  unfold Conv.runesFrom
  by_cases hi:i<l.length
  ·rw [if_pos (by rw [bs_size];exact hi)]
   have hx:((bs l)[i]'(by rw [bs_size];exact hi))=l[i]:=bs_at l i hi
   have hd:=decode_ascii (bs l) i (by rw [bs_size];exact hi) (by rw [hx];exact ha _ (List.getElem_mem hi))
   rw [hx] at hd
   rw [hd]
   have ih:=runes_ascii l ha bound (i+1) (acc++[(l[i].toNat:Int)]) (by omega)
   simp only
   have hd2:l.drop i=l[i] :: l.drop (i+1):=List.drop_eq_getElem_cons hi
   rw [show (acc.map (Value.int .i32)).toArray.push (Value.int .i32 (Int.ofNat l[i].toNat))=((acc++[(l[i].toNat:Int)]).map (Value.int .i32)).toArray by simp,ih,hd2,List.map_cons,List.append_assoc,List.singleton_append]
  ·rw [if_neg (by rw [bs_size];exact hi),List.drop_eq_nil_of_le (by omega)];simp
theorem runesBytes_ascii:∀(l:List UInt8),(∀c∈l,c.toNat<128)→runesBytes (l.map fun c=>(c.toNat:Int))=bs l:=by
 have h:∀(l:List UInt8) (r:List UInt8),(∀c∈l,c.toNat<128)→(l.map fun c=>(c.toNat:Int)).foldl (fun r n=>r++Utf8.encode n) (bs r)=bs (r++l):=by
  intro l
  induction l with
  | nil=>intro r _;simp
  | cons c l ih =>
   intro r hc
   have h1:=hc c (by simp)
   have he:Utf8.encode (c.toNat:Int)=bs [c]:=by
    unfold Utf8.encode
    have hv:Utf8.valid (c.toNat:Int)=true:=by unfold Utf8.valid;simp;omega
    simp only [hv,if_true,Int.toNat_natCast]
    rw [if_pos h1]
    show (⟨#[UInt8.ofNat c.toNat]⟩:ByteArray)=_
    rw [UInt8.ofNat_toNat];rfl
   rw [List.map_cons,List.foldl_cons,he,bs_append,ih _ (fun x hx=>hc x (by simp [hx]))]
   simp
 intro l hl
 exact h l [] hl
end
section
open Go.RowKit Go.Lib
attribute [local go_sem ↓] Go.wp_at_zero Go.wp_at_succ
def Er (w:World):Prop:=(∃te pe,w.cell? ⟨8,0,none⟩=some (.iface te pe))∧∃te pe,w.cell? ⟨9,0,none⟩=some (.iface te pe)
theorem Er.on {w w':World} (h:Er w) (hb:Below w.heap.size w w'):Er w':=by
 obtain ⟨⟨t,p,h1⟩,⟨t',p',h2⟩⟩:=h
 exact ⟨⟨t,p,(hb.cell (World.block_lt_of_cell? _ _ h1)).trans h1⟩,⟨t',p',(hb.cell (World.block_lt_of_cell? _ _ h2)).trans h2⟩⟩
theorem Atoi_ex (s:ByteArray) (w:World) (he:Er w) (hl:s.size≤281474976710656) :
 Calls Tryz.prog 181 #[.string s] w fun en w'=>(∃(v:Int) (x:Value),en=.returned (.tuple #[.int .i64 v,x])∧(x=.nilIface∨∃N,x=.iface 251 (.pointer (some ⟨N,0,none⟩)))∧∀c,Lib.atoiAll s.data.toList=.ok c→v=c∧x=.nilIface)∧Below w.heap.size w w':=by
 obtain ⟨⟨t,p,h1⟩,⟨t',p',h2⟩⟩:=he
 rcases h:Lib.atoiAll s.data.toList with v | _ | _
 ·skip
  refine (Tryz.strconv_Atoi_ok s (by omega) v h w).mono ?_
  rintro en w' ⟨rfl,hw⟩
  refine ⟨⟨_,_,rfl,.inl rfl,fun c hc=>by injection hc with hc;exact ⟨hc,rfl⟩⟩,?_⟩
  rcases hw with rfl | ⟨r,rfl⟩
  ·exact Below.refl _ _
  ·exact Lib.bytesWorld_below _ _ _
 ·skip
  have hA:Calls Tryz.prog 181 #[.string s] w fun e w'=>∃N,e=.returned (.tuple #[.int .i64 0,.iface 251 (.pointer (some ⟨N,0,none⟩))])∧w.heap.size≤N∧w'.heap[N]?=some (.cells #[.string ⟨#[65,116,111,105]⟩,.string s,.iface t p] 265 (0,0))∧Below w.heap.size w w':=Any.strconv_Atoi_syntax Tryz.laysC172 s (by omega) h _ w h1 (.inr ⟨_,_,rfl⟩)
  refine hA.mono ?_
  rintro en w' ⟨N,rfl,_,_,hb⟩
  exact ⟨⟨_,_,rfl,.inr ⟨N,rfl⟩,fun c hc=>by cases hc⟩,hb⟩
 ·skip
  refine (Tryz.strconv_Atoi_range s (by omega) h _ w h2 (.inr ⟨_,_,rfl⟩)).mono ?_
  rintro en w' ⟨N,rfl,_,_,hb⟩
  exact ⟨⟨_,_,rfl,.inr ⟨N,rfl⟩,fun c hc=>by cases hc⟩,hb⟩
theorem conv_runes (s:ByteArray) (zs:List Int) (hz:Conv.runesFrom s s.size 0 #[]=(zs.map (Value.int .i32)).toArray) (hl:zs.length≤1000000) (w:World) :
 ∃(c:Nat) (W1:World),(convert 9 254 (.string s)).run Tryz.prog w=.ok (.slice (some ⟨w.heap.size,0,none⟩) zs.length c) W1∧Below w.heap.size w W1∧zs.length≤c∧w.heap.size<W1.heap.size ∧
  ∀j z,zs[j]?=some z→W1.cell? ⟨w.heap.size,j,none⟩=some (.int .i32 z):=by
 have hsz:(Conv.runesFrom s s.size 0 #[]).size=zs.length:=by rw [hz];simp
 have h:=run_runes_of_string w 9 254 21 s Tryz.underlying9 Tryz.underlying254 Tryz.underlying21 (by rw [hsz];omega)
 rw [hsz] at h
 refine ⟨_,_,h,(Below.refl _ _).drew.alloc (Nat.le_refl _) _,grownCap_ge w zs.length 0 _,by show _<(World.alloc _ _).heap.size;simp,fun j z hj=>?_⟩
 have hjl:j<zs.length:=by
  rcases Nat.lt_or_ge j zs.length with h1 | h1
  ·exact h1
  ·rw [List.getElem?_eq_none h1] at hj;cases hj
 refine (cell_of_row (w.drew.alloc _) w.heap.size j _ _ _ (heap_alloc_new w.drew _)).trans ?_
 rw [hz,Array.getElem?_append_left (by simpa using hjl)]
 simp [hj]
theorem slice_runes (b n c:Nat) (h3:3≤n) (hc:n≤c) (w:World):(Instr.slice 254 (.slice (some ⟨b,0,none⟩) n c) (some (.int .i64 2)) none none).run Tryz.prog w=.ok (.slice (some ⟨b,2,none⟩) (n-2) (c-2)) w:=by
 have hs:(sizeOf (Tryz.prog.elem 254)).run Tryz.prog w=.ok 1 w:=by kernel_rfl
 rw [run_slice_l w 254 _ n c (show Tryz.prog.underlying 254=some (.slice (Tryz.prog.elem 254)) by kernel_rfl) .i64 2 (by omega) (by omega),hs]
 simp only [Result.andThen_ok,sliced,Option.map_some,Nat.mul_one]
 show Result.ok (Value.slice (if c=2 then some ⟨b,0,none⟩ else some ((⟨b,0,none⟩:Addr).add 2)) (n-2) (c-2)) w=_
 rw [if_neg (by omega)]
 simp [Addr.add]
theorem conv_back (b n c:Nat) (zs:List Int) (w:World) (hn:zs.length=n) (h3:3≤n) (hc:∀j z,zs[j]?=some z→w.cell? ⟨b,j,none⟩=some (.int .i32 z)) :
 (convert 254 9 (.slice (some ⟨b,2,none⟩) (n-2) c)).run Tryz.prog w=.ok (.string (runesBytes (zs.drop 2))) w:=by
 have h:=run_convert_runes (P:=Tryz.prog) w 254 9 21 ⟨b,2,none⟩ (n-2) c (zs.drop 2) (by rw [List.length_drop];omega) Tryz.underlying254 Tryz.underlying21 Tryz.underlying9 (fun j hj=>by
  rw [List.length_drop] at hj
  have e:(⟨b,2,none⟩:Addr).add j=⟨b,2+j,none⟩:=by unfold Addr.add;split <;> simp_all
  rw [e]
  refine hc _ _ ?_
  rw [List.getD_eq_getElem?_getD,List.getElem?_drop,List.getElem?_eq_getElem (by omega)];rfl)
 rw [h,List.take_of_length_le (by rw [List.length_drop];omega)]
def SFPost (w:World) (s:List UInt8) (zs:List Int) (L:Int) (R:Int→Value→Prop) (e:Ending) (w':World):Prop :=
 ((∃x:S3,e=.returned (.tuple #[.agg #[.int .i64 x.1,.int .i64 x.2.1,.int .i64 x.2.2],.bool true])∧shT x=s∧3≤zs.length) ∨
  (e=.returned (.tuple #[.agg #[.int .i64 0,.int .i64 0,.int .i64 0],.bool false])∧(zs.length<3∨4<zs.length∨∃v y,R v y∧(y≠.nilIface∨shT (zs.getD 0 0-48,L,v)≠s))))∧Below w.heap.size w w'
theorem ShellFrom_core (s:List UInt8) (zs:List Int) (L:Int) (R:Int→Value→Prop) (w:World) (hz:Conv.runesFrom (bs s) (bs s).size 0 #[]=(zs.map (Value.int .i32)).toArray) (hzb:∀z∈zs,0≤z∧z≤1114111) (hzl:zs.length≤1000000)
 (hAT:3≤zs.length→∀W,Below w.heap.size w W→Calls Tryz.prog 181 #[.string (runesBytes (zs.drop 2))] W fun en w'=>(∃(v:Int) (x:Value),en=.returned (.tuple #[.int .i64 v,x])∧(x=.nilIface∨∃N,x=.iface 251 (.pointer (some ⟨N,0,none⟩)))∧R v x)∧Below W.heap.size W w')
 (hIX:3≤zs.length→∀W,Calls Tryz.prog 231 #[.string ⟨#[115,112,100,102]⟩,.int .i32 (zs.getD 1 0)] W fun e w'=>e=.returned (.int .i64 L)∧Below W.heap.size W w') :
 Calls Tryz.prog 211 #[.string (bs s)] w (SFPost w s zs L R):=by
 have HB0:=Lib.hid (bel_alloc (Below.refl w.heap.size w) (.cells #[.int .i64 0,.int .i64 0,.int .i64 0] 87))
 have HX0:=Lib.hid (Blk.new w 87 #[.int .i64 0,.int .i64 0,.int .i64 0])
 obtain ⟨cap,W1,hcv,hb1,hcap,hsz1,hcell⟩:=conv_runes (bs s) zs hz hzl (w.alloc (.cells #[.int .i64 0,.int .i64 0,.int .i64 0] 87))
 rw [World.size_alloc] at hcv hcell hsz1
 have HB1:=Lib.hid (bel_sub HB0.out hb1)
 have HX1:=Lib.hid (HX0.out.sub hb1)
 have HCELL:=Lib.hid hcell
 clear hb1 HB0 HX0 hz hcell
 obtain ⟨n,hn⟩:∃n,zs.length=n:=⟨_,rfl⟩
 have HSE:Hid (∀x,bs (shT x)=bs s→shT x=s):=fun x h=>bs_inj h
 obtain ⟨X,hX⟩:∃X,bs s=X:=⟨_,rfl⟩
 rw [hX] at hcv HSE ⊢
 rw [hn] at hcv hcap hzl hAT hIX
 have HAT:=Lib.hid hAT;have HIX:=Lib.hid hIX;have HZB:=Lib.hid hzb;have HN:=Lib.hid hn;have HXE:=Lib.hid hX
 clear hAT hIX hzb hn hX
 by_cases h3:3≤n
 case neg =>
  have d0:decide ((n:Int)<3)=true:=decide_eq_true (by omega)
  have HBZ:=Lib.hid (bel_set (g:=w.heap.size) (i:=2) (u:=.int .i64 0) (bel_set2 (g:=w.heap.size) (x:=.int .i64 0) (y:=.int .i64 0) HB1.out (Nat.le_refl _)) (Nat.le_refl _))
  have HZ:=Lib.hid (((HX1.out.set 0 (.int .i64 0)).set 1 (.int .i64 0)).set 2 (.int .i64 0))
  go_enter Tryz.func211,Tryz.ntmps211
  obtain ⟨x1,x2,x3,f1,f2,f3⟩:=blk3 HX1.out
  go_wp2_with fail
  refine bodyPost_ret (results_ct3 rfl _ _ w.heap.size _ _ rfl HZ.out Tryz.underlying87 rfl (by kernel_rfl)) rfl ?_
  exact ⟨.inr ⟨rfl,.inl (by rw [HN.out];omega)⟩,HBZ.out⟩
 have d0:decide ((n:Int)<3)=false:=decide_eq_false (by omega)
 by_cases h4:n≤4
 case neg =>
  have d1:decide ((4:Int)<n)=true:=decide_eq_true (by omega)
  have HBZ:=Lib.hid (bel_set (g:=w.heap.size) (i:=2) (u:=.int .i64 0) (bel_set2 (g:=w.heap.size) (x:=.int .i64 0) (y:=.int .i64 0) HB1.out (Nat.le_refl _)) (Nat.le_refl _))
  have HZ:=Lib.hid (((HX1.out.set 0 (.int .i64 0)).set 1 (.int .i64 0)).set 2 (.int .i64 0))
  go_enter Tryz.func211,Tryz.ntmps211
  obtain ⟨x1,x2,x3,f1,f2,f3⟩:=blk3 HX1.out
  go_wp2_with fail
  refine bodyPost_ret (results_ct3 rfl _ _ w.heap.size _ _ rfl HZ.out Tryz.underlying87 rfl (by kernel_rfl)) rfl ?_
  exact ⟨.inr ⟨rfl,.inr (.inl (by rw [HN.out];omega))⟩,HBZ.out⟩
 have d1:decide ((4:Int)<n)=false:=decide_eq_false (by omega)
 have hsl:=slice_runes (w.heap.size+1) n cap h3 hcap
 have hcb:=conv_back (w.heap.size+1) n (cap-2) zs W1 HN.out h3 HCELL.out
 have hc0:W1.cell? ⟨w.heap.size+1,0,none⟩=some (.int .i32 (zs.getD 0 0)):=HCELL.out 0 _ (by rw [List.getD_eq_getElem?_getD,List.getElem?_eq_getElem (by rw [HN.out];omega)];rfl)
 have hc1:W1.cell? ⟨w.heap.size+1,1,none⟩=some (.int .i32 (zs.getD 1 0)):=HCELL.out 1 _ (by rw [List.getD_eq_getElem?_getD,List.getElem?_eq_getElem (by rw [HN.out];omega)];rfl)
 have hz0:0≤zs.getD 0 0∧zs.getD 0 0≤1114111:=HZB.out _ (by rw [List.getD_eq_getElem?_getD,List.getElem?_eq_getElem (by rw [HN.out];omega)];exact List.getElem_mem _)
 have HAT3:=Lib.hid (HAT.out h3);have HIX3:=Lib.hid (HIX.out h3)
 clear HAT HIX HCELL HZB
 generalize runesBytes (zs.drop 2)=Y at hcb HAT3
 have HNL:Hid (zs.length=n):=HN.out
 clear HN
 obtain ⟨z0,hz0e⟩:∃z,zs.getD 0 0=z:=⟨_,rfl⟩
 obtain ⟨z1,hz1e⟩:∃z,zs.getD 1 0=z:=⟨_,rfl⟩
 rw [hz0e] at hc0 hz0
 rw [hz1e] at hc1 HIX3
 have HZE:=Lib.hid hz0e
 clear hz0e hz1e
 go_enter Tryz.func211,Tryz.ntmps211
 go_wp2_with fail
 refine (HAT3.out _ HB1.out).mono ?_
 rintro e w2 ⟨⟨v,x,rfl,hx,hR⟩,hb2⟩
 have HB2:=Lib.hid (bel_sub HB1.out hb2)
 have HX2:=Lib.hid (HX1.out.sub hb2)
 have c0:=cell_sub hb2 hc0
 have c1:=cell_sub hb2 hc1
 have HR:=Lib.hid hR
 clear hb2 hR hcb hsl hc0 hc1 HB1 HX1 HAT3
 by_cases hxn:x=.nilIface
 case neg =>
  rcases hx with hx | ⟨N,rfl⟩
  ·exact absurd hx hxn
  have HBZ:=Lib.hid (bel_set (g:=w.heap.size) (i:=2) (u:=.int .i64 0) (bel_set2 (g:=w.heap.size) (x:=.int .i64 0) (y:=.int .i64 0) HB2.out (Nat.le_refl _)) (Nat.le_refl _))
  have HZ:=Lib.hid (((HX2.out.set 0 (.int .i64 0)).set 1 (.int .i64 0)).set 2 (.int .i64 0))
  obtain ⟨x1,x2,x3,f1,f2,f3⟩:=blk3 HX2.out
  go_wp2_with fail
  refine bodyPost_ret (results_ct3 rfl _ _ w.heap.size _ _ rfl HZ.out Tryz.underlying87 rfl (by kernel_rfl)) rfl ?_
  exact ⟨.inr ⟨rfl,.inr (.inr ⟨v,_,HR.out,.inl hxn⟩)⟩,HBZ.out⟩
 subst hxn
 clear hx
 have u1:IntKind.i32.wrap (z0-48)=z0-48:=IntWalk.i32_in _ (by omega)
 have u2:IntKind.i64.wrap (z0-48)=z0-48:=IntWalk.i64_in _ (by omega)
 go_wp2_with fail
 refine Fr.region_free' [(87,7)] [(87,7,.tmp 39)] (fun _=>87) (fun _=>#[.int .i64 0,.int .i64 0,.int .i64 0]) (fun _=>#[.int .i64 (z0-48),.int .i64 L,.int .i64 v]) 46 (by kernel_rfl) rfl (by kernel_rfl) rfl rfl ?hxq ?hal ?h
 case hxq=>intro s hs e he;simp at hs;subst hs;simp at he;subst he;simp
 case hal=>intro x hx W;simp at hx;subst hx;simp [go_sem]
 case h =>
 apply Exists.intro
 refine ⟨?hW,?hst,?hQ⟩
 case hW =>
  intro A θ hne
  have k0:=fun p:Fr.AftB w2 (fun _=>87) A θ=>p.cell c0
  have k1:=fun p:Fr.AftB w2 (fun _=>87) A θ=>p.cell c1
  simp only [List.filter_cons,List.filter_nil,Fr.isQ,Fr.alOf,Fr.stOf,Option.isNone_none,Option.isNone_some,Bool.and_self,Bool.and_true,Bool.and_false,Bool.false_eq_true,↓reduceIte]
  repeat (go_big_quiet_step ((go_at_call 231;(with_reducible exact Fr.aftB_call _ (HIX3.out _)))))
  exact wpQuiet_nil rfl
 case hst =>
  intro s hs W g hB
  simp at hs
  subst hs
  exact st_3 (by kernel_rfl) W g _ _ _ (.int .i64 (z0-48)) (.int .i64 L) (.int .i64 v) rfl rfl rfl hB
 case hQ =>
  intro A w' hb hals hap
  obtain ⟨hA,hbl⟩:=hals (87,7) (by simp)
  simp only at hA hbl
  have HB3:=Lib.hid (bel_sub HB2.out hb)
  have HX3:=Lib.hid (HX2.out.sub hb)
  have HG3:=Lib.hid hbl
  have hgs:w.heap.size≠A 7:=fun e=>by have:=HX2.out.lt;omega
  obtain ⟨y1,y2,y3,_,_,_⟩:=blk3 hbl
  clear hals hap hb hbl c0 c1
  simp only [Fr.putAls,Act.put,List.setIfInBounds_toArray,List.set_cons_succ,List.set_cons_zero]
  generalize A 7=g at *
  go_wp2_with fail
  refine (ShellText_any (z0-48,L,v) _).mono ?_
  rintro e w4 ⟨rfl,hb4⟩
  have HB4:=Lib.hid (bel_sub HB3.out hb4)
  have HX4:=Lib.hid (HX3.out.sub hb4)
  have HG4:=Lib.hid (HG3.out.sub hb4)
  clear hb4 y1 y2 y3
  obtain ⟨y1,y2,y3,_,_,_⟩:=blk3 HG4.out
  obtain ⟨x1,x2,x3,f1,f2,f3⟩:=blk3 HX4.out
  have hlt:=HX4.out.lt
  have hltg:=HG4.out.lt
  by_cases hq:shT (z0-48,L,v)=s
  ·have dq:((bs (shT (z0-48,L,v))).toList==X.toList)=true:=by rw [←HXE.out,bs_eq];exact decide_eq_true hq
   have HBZ:=Lib.hid (bel_set (g:=w.heap.size) (i:=2) (u:=.int .i64 v) (bel_set2 (g:=w.heap.size) (x:=.int .i64 (z0-48)) (y:=.int .i64 L) HB4.out (Nat.le_refl _)) (Nat.le_refl _))
   have HZ:=Lib.hid (((HX4.out.set 0 (.int .i64 (z0-48))).set 1 (.int .i64 L)).set 2 (.int .i64 v))
   generalize bs (shT (z0-48,L,v))=Y2 at *
   go_wp2_with fail
   refine bodyPost_ret (results_ct3 rfl _ _ w.heap.size _ _ rfl HZ.out Tryz.underlying87 rfl (by kernel_rfl)) rfl ?_
   exact ⟨.inl ⟨(z0-48,L,v),rfl,hq,by rw [HNL.out];exact h3⟩,HBZ.out⟩
  ·have dq:((bs (shT (z0-48,L,v))).toList==X.toList)=false:=by rw [←HXE.out,bs_eq];exact decide_eq_false hq
   have HBZ:=Lib.hid (bel_set (g:=w.heap.size) (i:=2) (u:=.int .i64 0) (bel_set2 (g:=w.heap.size) (x:=.int .i64 0) (y:=.int .i64 0) HB4.out (Nat.le_refl _)) (Nat.le_refl _))
   have HZ:=Lib.hid (((HX4.out.set 0 (.int .i64 0)).set 1 (.int .i64 0)).set 2 (.int .i64 0))
   have hnq:shT (zs.getD 0 0-48,L,v)≠s:=by rw [HZE.out];exact hq
   generalize bs (shT (z0-48,L,v))=Y2 at *
   go_wp2_with fail
   refine bodyPost_ret (results_ct3 rfl _ _ w.heap.size _ _ rfl HZ.out Tryz.underlying87 rfl (by kernel_rfl)) rfl ?_
   exact ⟨.inr ⟨rfl,.inr (.inr ⟨v,_,HR.out,.inr hnq⟩)⟩,HBZ.out⟩
end
section
open Go.RowKit Go.Lib
def shO (r:S3 × Bool):Value:=.tuple #[.agg #[.int .i64 r.1.1,.int .i64 r.1.2.1,.int .i64 r.1.2.2],.bool r.2]
theorem atoi_dd:∀c:Fin 15,(match Lib.atoiAll (Lib.decDigits c.val) with | .ok v=>v==(c.val:Int) | _=>false)=true:=by decide +kernel
theorem atoi_of {c:Nat} (h:c≤14):Lib.atoiAll (Lib.decDigits c)=.ok (c:Int):=by
 have:=atoi_dd ⟨c,by omega⟩
 simp only at this
 split at this
 ·rename_i v hv;rw [hv,eq_of_beq this]
 ·cases this
theorem idx_ls:∀l:Fin 4,Lib.indexByte sLs (sLs.getD l.val 0)=(l.val:Int):=by decide +kernel
theorem ShellFrom_ascii (s:List UInt8) (ha:∀c∈s,c.toNat<128) (hs:s.length≤1000000) (w:World) (he:Er w) :
 Calls Tryz.prog 211 #[.string (bs s)] w fun e w'=>e=.returned (shO (shF s))∧Below w.heap.size w w':=by
 have hlen:(s.map fun c=>(c.toNat:Int)).length=s.length:=by simp
 have hget:∀i,i<s.length→(s.map fun c=>(c.toNat:Int)).getD i 0=((s.getD i 0).toNat:Int):=fun i hi=>by
  rw [List.getD_eq_getElem?_getD,List.getElem?_map,List.getElem?_eq_getElem hi,List.getD_eq_getElem?_getD,List.getElem?_eq_getElem hi];rfl
 refine (ShellFrom_core s (s.map fun c=>(c.toNat:Int)) (Lib.indexByte sLs (s.getD 1 0)) (fun v x=>∀c,Lib.atoiAll (s.drop 2)=.ok c→v=c∧x=.nilIface) w ?_ ?_ (by rw [hlen];exact hs) ?_ ?_).mono ?_
 ·have:=runes_ascii s ha (bs s).size 0 [] (by rw [bs_size];omega)
  simpa using this
 ·intro z hz
  obtain ⟨c,hc,rfl⟩:=List.mem_map.1 hz
  have:=ha c hc;omega
 ·intro h3 W hb
  rw [←List.map_drop,runesBytes_ascii _ (fun c hc=>ha c (List.mem_of_mem_drop hc))]
  refine (Atoi_ex (bs (s.drop 2)) W (he.on hb) (by rw [bs_size,List.length_drop];omega)).mono ?_
  rintro e w' ⟨⟨v,x,h1,h2,h4⟩,h5⟩
  refine ⟨⟨v,x,h1,h2,fun c hc=>h4 c ?_⟩,h5⟩
  rw [bs_data];exact hc
 ·intro h3 W
  rw [hlen] at h3
  rw [hget 1 (by omega)]
  have h1:=ha (s.getD 1 0) (by rw [List.getD_eq_getElem?_getD,List.getElem?_eq_getElem (by omega)];exact List.getElem_mem _)
  refine (Tryz.strings_IndexRune_ascii ⟨#[115,112,100,102]⟩ ((s.getD 1 0).toNat:Int) W (by omega) (by omega)).mono ?_
  rintro e w' ⟨rfl,rfl⟩
  refine ⟨?_,Below.refl _ _⟩
  rw [Int.toNat_natCast]
  show _=Ending.returned (.int .i64 (Lib.indexByte sLs _))
  rw [show (s.getD 1 0).toNat.toUInt8=s.getD 1 0 by simp]
  rfl
 ·rintro e w' ⟨h,hb⟩
  refine ⟨?_,hb⟩
  rcases h with ⟨x,rfl,hx,h3⟩ | ⟨rfl,h⟩
  ·rw [hlen] at h3
   have hv:shvB x=true:=by
    cases h:shvB x with
    | true=>rfl
    | false=>unfold shT at hx;rw [h] at hx;simp at hx;subst hx;simp at h3
   rw [←hx,shF_text hv];rfl
  ·cases hf:(shF s).2
   ·rw [(shF_no hf).1];rfl
   ·exfalso
    obtain ⟨hv,ht⟩:=shF_yes hf
    generalize (shF s).1=x at hv ht
    have hA:=(allSh_valid x (allSh_mem hv)).2
    rw [ht] at hA
    obtain ⟨⟨h3,h4⟩,a0,a1,a2,_⟩:=hA
    rcases h with h | h | ⟨v,y,hR,hq⟩
    ·rw [hlen] at h;omega
    ·rw [hlen] at h;omega
    ·obtain ⟨n,l,c,rfl,q1,q2,q3,q4,q5,q6⟩:=shv_nat hv
     simp only [Int.toNat_natCast] at a0 a1 a2
     obtain ⟨rfl,rfl⟩:=hR (c:Int) (by rw [a2];exact atoi_of (by omega))
     rcases hq with hq | hq
     ·exact hq rfl
     ·apply hq
      rw [hget 0 (by omega),show s.getD 0 0=UInt8.ofNat (48+n) by rw [List.getD_eq_getElem?_getD,a0];rfl,show s.getD 1 0=sLs.getD l 0 by rw [List.getD_eq_getElem?_getD,a1];rfl,idx_ls ⟨l,by omega⟩]
      rw [show ((UInt8.ofNat (48+n)).toNat:Int)-48=n by rw [UInt8.toNat_ofNat'];omega]
      exact ht
end
end
end Go.Proofs.YtlgdndnaiogooaaGreatDoor
