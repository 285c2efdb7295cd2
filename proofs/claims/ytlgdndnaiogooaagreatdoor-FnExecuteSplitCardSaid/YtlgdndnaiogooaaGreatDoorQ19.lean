/- Parts of the proof of : Fc1. -/
import Derived.Test.YtlgdndnaiogooaaGreatDoorQ11
import Derived.Test.YtlgdndnaiogooaaGreatDoorQ16
set_option maxHeartbeats 20000000
set_option maxRecDepth 1000000
set_option linter.unusedSimpArgs false
set_option linter.unusedVariables false
namespace Go.Proofs.YtlgdndnaiogooaaGreatDoor
section
open Go.RowKit
attribute [local go_sem ↓] Go.wp_at_zero Go.wp_at_succ
def tmU (s:List UInt8):T2:=(((s.getD 0 0).toNat:Int)-49,Lib.indexByte lts (s.getD 1 0))
def tmF (s:List UInt8):T2 × Bool:=if s.length=2∧tmT (tmU s)=s then (tmU s,true) else ((0,0),false)
def tmV (r:T2 × Bool):Value:=.tuple #[.agg #[.int .i64 r.1.1,.int .i64 r.1.2],.bool r.2]
theorem ix_lts (c:UInt8):-1≤Lib.indexByte lts c∧Lib.indexByte lts c≤8:=by
 have h:∀n:Fin 256,-1≤Lib.indexByte lts (UInt8.ofNat n.1)∧Lib.indexByte lts (UInt8.ofNat n.1)≤8:=by decide +kernel
 have:=h ⟨c.toNat,c.toNat_lt⟩
 rwa [UInt8.ofNat_toNat] at this
theorem u8_rt (c:UInt8):((c.toNat:Int)).toNat.toUInt8=c:=by
 rw [Int.toNat_natCast];show UInt8.ofNat c.toNat=c;exact UInt8.ofNat_toNat
theorem TermFrom_all (s:List UInt8) (w:World) (hl:s.length≤1000000) :
 Calls Tryz.prog 156 #[.string (bs s)] w fun e w'=>e=.returned (tmV (tmF s))∧Below w.heap.size w w':=by
 have HB0:=Lib.hid ((Below.refl w.heap.size w).alloc (Nat.le_refl _) (.cells #[.int .i64 0,.int .i64 0] 24))
 have HX0:=Lib.hid (Blk.new w 24 #[.int .i64 0,.int .i64 0])
 have hzs:(bs s).size≤1000000:=by rw [bs_size];exact hl
 by_cases hn:s.length=2
 case neg =>
  have HE:Hid (tmF s=((0,0),false)):=by unfold Hid tmF;rw [if_neg (fun h=>hn h.1)]
  have hn2:(((bs s).size:Int) != 2)=true:=by rw [bs_size];simp;omega
  have hn3:(bs s).size≠2:=by rw [bs_size];exact hn
  rw [HE.out];clear HE hn
  generalize bs s=X at *
  go_enter Tryz.func156,Tryz.ntmps156
  go_wp2_with fail
  refine bodyPost_ret (results_ct rfl _ _ w.heap.size _ _ _ _ rfl HX0.out Tryz.underlying24 rfl (by kernel_rfl)) rfl ?_
  exact ⟨rfl,HB0.out⟩
 have HX:=Lib.hid (fun W=>implTermText_any (tmU s) W)
 have HE:Hid (tmF s=if tmT (tmU s)=s then (tmU s,true) else ((0,0),false)):=by
  unfold Hid tmF
  by_cases h:tmT (tmU s)=s
  ·rw [if_pos ⟨hn,h⟩,if_pos h]
  ·rw [if_neg (fun h'=>h h'.2),if_neg h]
 rw [HE.out]
 have HBE:=Lib.hid (bs_eq (tmT (tmU s)) s)
 have hn2:(bs s).size=2:=by rw [bs_size];exact hn
 obtain ⟨a,b,rfl⟩:∃a b,s=[a,b]:=by
  match s,hn with
  | [a,b],_=>exact ⟨a,b,rfl⟩
 have ha:(a.toNat:Int)<256:=by have:=a.toNat_lt;omega
 have hbb:(b.toNat:Int)<256:=by have:=b.toNat_lt;omega
 have hix:=ix_lts b
 have htu:tmU [a,b]=((a.toNat:Int)-49,Lib.indexByte lts b):=rfl
 rw [htu] at HX HBE ⊢
 have HI0:Hid (∀W:World,(Instr.index 9 (.string (bs [a,b])) (.int .i64 0)).run Tryz.prog W=.ok (.int .u8 (a.toNat:Int)) W):=fun W=>idx_strk [a,b] 0 a rfl W
 have HI1:Hid (∀W:World,(Instr.index 9 (.string (bs [a,b])) (.int .i64 1)).run Tryz.prog W=.ok (.int .u8 (b.toNat:Int)) W):=fun W=>idx_strk [a,b] 1 b rfl W
 have HIX:Hid (∀W:World,Calls Tryz.prog 185 #[.string ⟨#[83,80,68,70,71,72,73,75,76]⟩,.int .u8 (b.toNat:Int)] W fun e w'=>e=.returned (.int .i64 (Lib.indexByte lts b))∧w'=W):=fun W=>by
  have h:=Tryz.strings_IndexByte ⟨#[83,80,68,70,71,72,73,75,76]⟩ (b.toNat:Int) W
  rw [show (⟨#[83,80,68,70,71,72,73,75,76]⟩:ByteArray).data.toList=lts from rfl,u8_rt] at h
  exact h
 clear hn htu HE hl
 have u1:IntKind.i64.wrap ((a.toNat:Int))=(a.toNat:Int):=IntWalk.i64_in _ (by omega)
 have u2:IntKind.i64.wrap ((a.toNat:Int)-49)=(a.toNat:Int)-49:=IntWalk.i64_in _ (by omega)
 generalize Lib.indexByte lts b=l at *
 generalize (b.toNat:Int)=B at *
 simp only at HX HBE ⊢
 obtain ⟨A,hA⟩:∃A:Int,(a.toNat:Int)=A:=⟨_,rfl⟩
 rw [hA] at u1 u2 HX HBE HI0 ha ⊢
 obtain ⟨eqb,heq⟩:∃q:Bool,decide (tmT (A-49,l)=[a,b])=q:=⟨_,rfl⟩
 have HE:Hid ((if tmT (A-49,l)=[a,b] then ((A-49,l),true) else (((0:Int),(0:Int)),false))=if eqb then ((A-49,l),true) else ((0,0),false)):=by
  unfold Hid
  rw [←heq]
  by_cases h:tmT (A-49,l)=[a,b]
  ·rw [if_pos h,decide_eq_true h];rfl
  ·rw [if_neg h,decide_eq_false h];rfl
 rw [HE.out]
 have hz:=HBE.out
 rw [heq] at hz
 clear hA heq HE HBE
 generalize bs (tmT (A-49,l))=D at *
 generalize bs [a,b]=X at *
 go_enter Tryz.func156,Tryz.ntmps156
 go_wp2_with fail
 have i0:=HI0.out
 have i1:=HI1.out
 obtain ⟨W0,hW0⟩:∃W0,w.alloc (.cells #[.int .i64 0,.int .i64 0] 24)=W0:=⟨_,rfl⟩
 have hsz:W0.heap.size=w.heap.size+1:=by rw [←hW0];simp
 rw [hW0] at HB0 HX0
 rw [hW0]
 clear hW0
 go_region_with ((go_at_call 185;refine (HIX.out _).mono ?_;rintro e w' ⟨rfl,rfl⟩))
 all_goals
  obtain ⟨W1,hW1⟩:∃W1,(W0.alloc (.cells #[.int .i64 (A-49),.int .i64 l] 24)).drew=W1:=⟨_,rfl⟩
  have hst:Below W0.heap.size W0 W1:=by rw [←hW1];exact ((Below.refl _ _).alloc (Nat.le_refl _) _).drew
  have HX1:=Lib.hid (HX0.out.sub hst)
  have HY1:Hid (Blk W1 (w.heap.size+1) 24 #[.int .i64 (A-49),.int .i64 l]):=by
   unfold Hid;rw [←hW1,←hsz];exact (Blk.new W0 24 #[.int .i64 (A-49),.int .i64 l]).drew
  have HB1:=Lib.hid (HB0.out.trans (hst.mono HB0.out.size))
  have HZ1:Hid (w.heap.size+1<W1.heap.size):=by unfold Hid;rw [←hW1,←hsz];show _<(W0.alloc _).heap.size;simp
  rw [hW1]
  clear hW1 hst
  obtain ⟨y1,y2,_,_⟩:=blk2 HY1.out
  go_wp2_with fail
  refine (HX.out _).mono ?_
  rintro e w2 ⟨rfl,hb2⟩
  have HX2:=Lib.hid (HX1.out.sub hb2)
  have HY2:=Lib.hid (HY1.out.sub hb2)
  have HB2:=Lib.hid (HB1.out.trans (hb2.mono HB1.out.size))
  clear hb2 y1 y2
  obtain ⟨y1,y2,_,_⟩:=blk2 HY2.out
  obtain ⟨x1,x2,f1,f2⟩:=blk2 HX2.out
  cases eqb
  ·have HZ:=Lib.hid ((HX2.out.set 0 (.int .i64 0)).set 1 (.int .i64 0))
   have HBZ:=Lib.hid ((HB2.out.setCell (p:=⟨w.heap.size,0,none⟩) (Nat.le_refl _) (.int .i64 0)).setCell (p:=⟨w.heap.size,1,none⟩) (Nat.le_refl _) (.int .i64 0))
   go_wp2_with fail
   refine bodyPost_ret (results_ct rfl _ _ w.heap.size _ _ _ _ rfl HZ.out Tryz.underlying24 rfl (by kernel_rfl)) rfl ?_
   exact ⟨rfl,HBZ.out⟩
  ·have HZ:=Lib.hid ((HX2.out.set 0 (.int .i64 (A-49))).set 1 (.int .i64 l))
   have HBZ:=Lib.hid ((HB2.out.setCell (p:=⟨w.heap.size,0,none⟩) (Nat.le_refl _) (.int .i64 (A-49))).setCell (p:=⟨w.heap.size,1,none⟩) (Nat.le_refl _) (.int .i64 l))
   go_wp2_with fail
   refine bodyPost_ret (results_ct rfl _ _ w.heap.size _ _ _ _ rfl HZ.out Tryz.underlying24 rfl (by kernel_rfl)) rfl ?_
   exact ⟨rfl,HBZ.out⟩
end
end Go.Proofs.YtlgdndnaiogooaaGreatDoor
