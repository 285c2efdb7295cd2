/- Parts of the proof of : Ex4 RqM. -/
import Derived.Test.YtjdfbnlaiiknpaaGreatDoorQ08
set_option maxHeartbeats 20000000
set_option maxRecDepth 1000000
set_option linter.unusedSimpArgs false
set_option linter.unusedVariables false
namespace Go.Proofs.YtjdfbnlaiiknpaaGreatDoor
section
open Go.RowKit Go.Lib
abbrev malV:Value:=.iface 83 (.agg #[])
def whatT:ByteArray:=⟨#[119,104,97,116]⟩
theorem catch_hit (g:Nat) (w:World) (t:TypeId) (hg:Blk w g t #[.string ⟨#[]⟩]) :
 CallsD Tryz.prog 56 #[.pointer (some ⟨g,0,none⟩)] (.panicking [{ v:=malV,recovered:=false }]) w fun e u' w'=>e=.returned (.tuple #[])∧u'=.panicking [{ v:=malV,recovered:=true }]∧w'=(w.setCell ⟨g,0,none⟩ (.string whatT)).alloc (.cells #[] 83):=by
 obtain ⟨z1,z2⟩:=blk1 hg
 have hta:∀W:World,(Instr.typeAssert (.iface 83 (.agg #[])) 20 83 true).run Tryz.prog W=.ok (.tuple #[.agg #[],.bool true]) W:=fun W=>by kernel_rfl
 have h0:=hg.lt
 refine callsD_of_wpS Tryz.func56 rfl fun c₀ cs hu=>?_
 apply wpS_seq
 apply wpS_region
 simp [wpOpsS,go_sem,recoverD,hu,Tryz.ntmps56,Exit.thenS,malV]
 refine wpS_of_wp ?_
 change Code.wp _ _ _ ⟨#[.pointer (some ⟨g,0,none⟩),malV,undef,undef,malV,undef,undef,undef,undef,undef,undef,undef,undef,undef,undef],[]⟩ w
 unfold malV
 go_wp2_with fail
 cases c₀
 simp_all [bodyPostS,results,Tryz.results56,whatT]
theorem answer_none (b n:Nat) (ls:List (List UInt8)) (l0:List UInt8) (w:World) (hn:ls.length=n) (h0:ls[0]?=some l0) (hl:l0.length≤1000) (hn1:n≤1000) (hb:Blk w b 9 (wcs ls)) (hf:cmdOf l0=none) :
 Calls Tryz.prog 25 #[.slice (some ⟨b,0,none⟩) n n] w fun e w'=>e=.returned (.string whatT)∧Below w.heap.size w w':=by
 have hmf:∀(fn:Fn) (first cap:Array Value) (w:World),(Instr.makeFunc fn first cap).run Tryz.prog w=.ok (.func fn first cap) w:=fun _ _ _ _=>rfl
 have hpos:0<n:=by
  rcases Nat.eq_zero_or_pos n with h | h
  ·subst h
   rw [List.length_eq_zero_iff.1 hn] at h0
   cases h0
  ·exact h
 have hal:Below w.heap.size w (w.alloc (.cells #[.string ⟨#[]⟩] 9)):=(Below.refl _ _).alloc (Nat.le_refl _) _
 have HAL:=Lib.hid hal
 have HOUT:=Lib.hid (Blk.new w 9 #[.string ⟨#[]⟩])
 have hbA:=hb.sub hal
 have hc0:(w.alloc (.cells #[.string ⟨#[]⟩] 9)).drew.cell? ⟨b,0,none⟩=some (.string (bs l0)):=by
  rw [(hbA.drew).cell 0]
  simp [wcs,h0]
 clear hbA hal
 have HC0:=Lib.hid hc0
 have HLK:=Lib.hid (fun (W:World) (B:Nat) (h:Req W B)=>req_look h l0 (by omega))
 have HLV:Hid (lookV l0=.tuple #[.nilFunc,.bool false]):=by unfold Hid lookV;rw [hf]
 rw [HLV.out] at HLK
 clear hb h0 hn hf
 obtain ⟨L0,hL0⟩:∃L0,bs l0=L0:=⟨_,rfl⟩
 rw [hL0] at hc0 HLK HC0
 clear hL0
 go_enter_defers Tryz.func25,Tryz.ntmps25
 go_wp2_with fail
 go_region_held3 (fun w'=>w'.cell? ⟨b,0,none⟩=some (.string L0)) (first | exact hc0 | assumption) ((go_at_call 57;refine (requests_any _).mono ?_;rintro e w2 ⟨rfl,hreq,hb2⟩;rw [sz_ad] at hreq;have hlk:=HLK.out _ _ hreq;have hc2:=(hb2.cell (World.block_lt_of_cell? _ _ HC0.out)).trans HC0.out))
 have HB2:Hid (Below w.heap.size w w2):=Lib.hid (HAL.out.trans ((show Below (w.alloc (.cells #[.string ⟨#[]⟩] 9)).heap.size (w.alloc (.cells #[.string ⟨#[]⟩] 9)) w2 from ⟨hb2.os,hb2.tape,hb2.output,hb2.size,hb2.block⟩).mono (by simp)))
 have HO2:=Lib.hid ((HOUT.out.drew).sub hb2)
 clear hreq hb2 hlk hc2 hc0
 go_wp2_with fail
 have z1:((w2.setCell ⟨w.heap.size,0,none⟩ (.string whatT)).alloc (.cells #[] 83)).cell? ⟨w.heap.size,0,none⟩=some (.string whatT):=((HO2.out.set 0 (.string whatT)).alloc _).cell 0
 have HZ:=Lib.hid ((HB2.out.setCell (p:=⟨w.heap.size,0,none⟩) (Nat.le_refl _) (.string whatT)).alloc (by simpa using HB2.out.size) (.cells #[] 83))
 refine leaves_cons (f:=56) (args:=#[.pointer (some ⟨w.heap.size,0,none⟩)]) (by simp) (by simp [go_sem]) ?_
 refine (catch_hit w.heap.size w2 _ HO2.out).mono ?_
 rintro e u' w4 ⟨rfl,rfl,rfl⟩
 simp [Leaves,settle,results,Tryz.results25,go_sem,z1]
 exact HZ.out
theorem answer_mal (b n:Nat) (ls:List (List UInt8)) (l0:List UInt8) (f:Nat) (w:World) (hn:ls.length=n) (h0:ls[0]?=some l0) (hl:l0.length≤1000) (hn1:n≤1000) (hb:Blk w b 9 (wcs ls)) (hf:cmdOf l0=some f) (hen:∀(args:Array Value) (W:World),(callFunc f args).run Tryz.prog W=.ok (.enter f args) W)
 (HF:∀W,Below w.heap.size w W→Calls Tryz.prog f #[.agg #[.slice (some ⟨b,if n=1 then 0 else 1,none⟩) (n-1) (n-1)]] W fun e w'=>e=.panicked [{ v:=malV,recovered:=false }]∧Below W.heap.size W w') :
 Calls Tryz.prog 25 #[.slice (some ⟨b,0,none⟩) n n] w fun e w'=>e=.returned (.string whatT)∧Below w.heap.size w w':=by
 have hmf:∀(fn:Fn) (first cap:Array Value) (w:World),(Instr.makeFunc fn first cap).run Tryz.prog w=.ok (.func fn first cap) w:=fun _ _ _ _=>rfl
 have hpos:0<n:=by
  rcases Nat.eq_zero_or_pos n with h | h
  ·subst h
   rw [List.length_eq_zero_iff.1 hn] at h0
   cases h0
  ·exact h
 have hal:Below w.heap.size w (w.alloc (.cells #[.string ⟨#[]⟩] 9)):=(Below.refl _ _).alloc (Nat.le_refl _) _
 have HAL:=Lib.hid hal
 have HOUT:=Lib.hid (Blk.new w 9 #[.string ⟨#[]⟩])
 have hbA:=hb.sub hal
 have hc0:(w.alloc (.cells #[.string ⟨#[]⟩] 9)).drew.cell? ⟨b,0,none⟩=some (.string (bs l0)):=by
  rw [(hbA.drew).cell 0]
  simp [wcs,h0]
 clear hbA hal
 have HC0:=Lib.hid hc0
 have HLK:=Lib.hid (fun (W:World) (B:Nat) (h:Req W B)=>req_look h l0 (by omega))
 have HLV:Hid (lookV l0=.tuple #[.func (.func f) #[] #[],.bool true]):=by unfold Hid lookV;rw [hf]
 rw [HLV.out] at HLK
 have HFF:=Lib.hid HF
 clear hb h0 hn hf HF
 obtain ⟨L0,hL0⟩:∃L0,bs l0=L0:=⟨_,rfl⟩
 rw [hL0] at hc0 HLK HC0
 clear hL0
 go_enter_defers Tryz.func25,Tryz.ntmps25
 go_wp2_with fail
 go_region_held3 (fun w'=>w'.cell? ⟨b,0,none⟩=some (.string L0)) (first | exact hc0 | assumption) ((go_at_call 57;refine (requests_any _).mono ?_;rintro e w2 ⟨rfl,hreq,hb2⟩;rw [sz_ad] at hreq;have hlk:=HLK.out _ _ hreq;have hc2:=(hb2.cell (World.block_lt_of_cell? _ _ HC0.out)).trans HC0.out))
 have HB2:Hid (Below w.heap.size w w2):=Lib.hid (HAL.out.trans ((show Below (w.alloc (.cells #[.string ⟨#[]⟩] 9)).heap.size (w.alloc (.cells #[.string ⟨#[]⟩] 9)) w2 from ⟨hb2.os,hb2.tape,hb2.output,hb2.size,hb2.block⟩).mono (by simp)))
 have HO2:=Lib.hid ((HOUT.out.drew).sub hb2)
 have HREQ:=Lib.hid hreq
 clear hreq hb2 hlk hc2 hc0
 have hsl:=tail_slice b n hpos hn1
 have HCALL:=Lib.hid (HFF.out w2 HB2.out)
 obtain ⟨ad,had⟩:∃ad:Addr,(⟨b,if n=1 then 0 else 1,none⟩:Addr)=ad:=⟨_,rfl⟩
 rw [had] at HCALL hsl
 clear had
 have hen':=hen #[.agg #[.slice (some ad) (n-1) (n-1)]] w2
 clear hen
 go_wp2_with fail
 refine HCALL.out.mono ?_
 rintro e w3 ⟨rfl,hb3⟩
 replace HB2:=Lib.hid (HB2.out.trans (hb3.mono HB2.out.size))
 replace HO2:=Lib.hid (HO2.out.sub hb3)
 clear hb3 hen'
 go_wp2_with fail
 have z1:((w3.setCell ⟨w.heap.size,0,none⟩ (.string whatT)).alloc (.cells #[] 83)).cell? ⟨w.heap.size,0,none⟩=some (.string whatT):=((HO2.out.set 0 (.string whatT)).alloc _).cell 0
 have HZ:=Lib.hid ((HB2.out.setCell (p:=⟨w.heap.size,0,none⟩) (Nat.le_refl _) (.string whatT)).alloc (by simpa using HB2.out.size) (.cells #[] 83))
 refine leaves_cons (f:=56) (args:=#[.pointer (some ⟨w.heap.size,0,none⟩)]) (by simp) (by simp [go_sem]) ?_
 refine (catch_hit w.heap.size w3 _ HO2.out).mono ?_
 rintro e u' w4 ⟨rfl,rfl,rfl⟩
 simp [Leaves,settle,results,Tryz.results25,go_sem,z1]
 exact HZ.out
end
section
open Go.RowKit Go.Lib
attribute [local go_sem ↓] Go.wp_at_zero Go.wp_at_succ
def Mal (w:World) (e:Ending) (w':World):Prop:=e=.panicked [{ v:=malV,recovered:=false }]∧Below w.heap.size w w'
theorem exactly_mal (A:Option Addr) (c n m:Nat) (w:World) (h:n≠m) :
 Calls Tryz.prog 131 #[.agg #[.slice A n c],.int .i64 (m:Int)] w (Mal w):=by
 have HB:=Lib.hid ((Below.refl w.heap.size w).alloc (Nat.le_refl _) (.cells #[.slice A n c] 91))
 have h0:=(Blk.new w 91 #[.slice A n c]).cell 0
 have HC:Hid ((w.alloc (.cells #[.slice A n c] 91)).cell? ⟨w.heap.size,0,none⟩=some (.slice A n c)):=h0
 have e1:((n:Int) != (m:Int))=true:=by simp;omega
 clear h0 h
 unfold Mal
 go_enter Tryz.func131,Tryz.ntmps131
 go_wp2_with fail
 exact ⟨rfl,rfl,HB.out⟩
theorem ground_mal (A:Option Addr) (c n:Nat) (w:World) (h:n≠1) :
 Calls Tryz.prog 85 #[.agg #[.slice A n c]] w (Mal w):=by
 have HB:=Lib.hid ((Below.refl w.heap.size w).alloc (Nat.le_refl _) (.cells #[.slice A n c] 91))
 have HM:=Lib.hid (fun W=>exactly_mal A c n 1 W h)
 clear h
 unfold Mal at *
 go_enter Tryz.func85,Tryz.ntmps85
 go_wp2_with fail
 refine (HM.out _).mono ?_
 rintro e w1 ⟨rfl,hb1⟩
 have HB1:=Lib.hid (HB.out.trans (hb1.mono HB.out.size))
 clear hb1
 go_wp2_with fail
 exact ⟨rfl,rfl,HB1.out⟩
theorem levels_mal (A:Option Addr) (c n:Nat) (w:World) (h:n≠1) :
 Calls Tryz.prog 88 #[.agg #[.slice A n c]] w (Mal w):=by
 have HB:=Lib.hid ((Below.refl w.heap.size w).alloc (Nat.le_refl _) (.cells #[.slice A n c] 91))
 have HM:=Lib.hid (fun W=>exactly_mal A c n 1 W h)
 clear h
 unfold Mal at *
 go_enter Tryz.func88,Tryz.ntmps88
 go_wp2_with fail
 refine (HM.out _).mono ?_
 rintro e w1 ⟨rfl,hb1⟩
 have HB1:=Lib.hid (HB.out.trans (hb1.mono HB.out.size))
 clear hb1
 go_wp2_with fail
 exact ⟨rfl,rfl,HB1.out⟩
theorem factor_mal (A:Option Addr) (c n:Nat) (w:World) (h:n≠1) :
 Calls Tryz.prog 89 #[.agg #[.slice A n c]] w (Mal w):=by
 have HB:=Lib.hid ((Below.refl w.heap.size w).alloc (Nat.le_refl _) (.cells #[.slice A n c] 91))
 have HM:=Lib.hid (fun W=>exactly_mal A c n 1 W h)
 clear h
 unfold Mal at *
 go_enter Tryz.func89,Tryz.ntmps89
 go_wp2_with fail
 refine (HM.out _).mono ?_
 rintro e w1 ⟨rfl,hb1⟩
 have HB1:=Lib.hid (HB.out.trans (hb1.mono HB.out.size))
 clear hb1
 go_wp2_with fail
 exact ⟨rfl,rfl,HB1.out⟩
theorem clebsch_mal (A:Option Addr) (c n:Nat) (w:World) (h:n≠5) :
 Calls Tryz.prog 90 #[.agg #[.slice A n c]] w (Mal w):=by
 have HB:=Lib.hid ((Below.refl w.heap.size w).alloc (Nat.le_refl _) (.cells #[.slice A n c] 91))
 have HM:=Lib.hid (fun W=>exactly_mal A c n 5 W h)
 clear h
 unfold Mal at *
 go_enter Tryz.func90,Tryz.ntmps90
 go_wp2_with fail
 refine (HM.out _).mono ?_
 rintro e w1 ⟨rfl,hb1⟩
 have HB1:=Lib.hid (HB.out.trans (hb1.mono HB.out.size))
 clear hb1
 go_wp2_with fail
 exact ⟨rfl,rfl,HB1.out⟩
theorem six_mal (A:Option Addr) (c n:Nat) (w:World) (h:n≠6) :
 Calls Tryz.prog 91 #[.agg #[.slice A n c]] w (Mal w):=by
 have HB:=Lib.hid ((Below.refl w.heap.size w).alloc (Nat.le_refl _) (.cells #[.slice A n c] 91))
 have HM:=Lib.hid (fun W=>exactly_mal A c n 6 W h)
 clear h
 unfold Mal at *
 go_enter Tryz.func91,Tryz.ntmps91
 go_wp2_with fail
 refine (HM.out _).mono ?_
 rintro e w1 ⟨rfl,hb1⟩
 have HB1:=Lib.hid (HB.out.trans (hb1.mono HB.out.size))
 clear hb1
 go_wp2_with fail
 exact ⟨rfl,rfl,HB1.out⟩
theorem split_mal (A:Option Addr) (c n:Nat) (w:World) (h:n≠2) :
 Calls Tryz.prog 92 #[.agg #[.slice A n c]] w (Mal w):=by
 have HB:=Lib.hid ((Below.refl w.heap.size w).alloc (Nat.le_refl _) (.cells #[.slice A n c] 91))
 have HM:=Lib.hid (fun W=>exactly_mal A c n 2 W h)
 clear h
 unfold Mal at *
 go_enter Tryz.func92,Tryz.ntmps92
 go_wp2_with fail
 refine (HM.out _).mono ?_
 rintro e w1 ⟨rfl,hb1⟩
 have HB1:=Lib.hid (HB.out.trans (hb1.mono HB.out.size))
 clear hb1
 go_wp2_with fail
 exact ⟨rfl,rfl,HB1.out⟩
theorem config_mal (A:Option Addr) (c:Nat) (w:World) :
 Calls Tryz.prog 134 #[.agg #[.slice A 0 c]] w (Mal w):=by
 have HB:=Lib.hid ((Below.refl w.heap.size w).alloc (Nat.le_refl _) (.cells #[.slice A 0 c] 91))
 unfold Mal
 go_enter Tryz.func134,Tryz.ntmps134
 go_wp2_with fail
 exact ⟨rfl,rfl,HB.out⟩
theorem terms_mal (A:Option Addr) (c:Nat) (w:World) :
 Calls Tryz.prog 86 #[.agg #[.slice A 0 c]] w (Mal w):=by
 have HB:=Lib.hid ((Below.refl w.heap.size w).alloc (Nat.le_refl _) (.cells #[.slice A 0 c] 91))
 have HM:=Lib.hid (fun W=>config_mal A c W)
 unfold Mal at *
 go_enter Tryz.func86,Tryz.ntmps86
 go_wp2_with fail
 refine (HM.out _).mono ?_
 rintro e w1 ⟨rfl,hb1⟩
 have HB1:=Lib.hid (HB.out.trans (hb1.mono HB.out.size))
 clear hb1
 go_wp2_with fail
 exact ⟨rfl,rfl,HB1.out⟩
theorem hund_mal (A:Option Addr) (c:Nat) (w:World) :
 Calls Tryz.prog 87 #[.agg #[.slice A 0 c]] w (Mal w):=by
 have HB:=Lib.hid ((Below.refl w.heap.size w).alloc (Nat.le_refl _) (.cells #[.slice A 0 c] 91))
 have HM:=Lib.hid (fun W=>config_mal A c W)
 unfold Mal at *
 go_enter Tryz.func87,Tryz.ntmps87
 go_wp2_with fail
 refine (HM.out _).mono ?_
 rintro e w1 ⟨rfl,hb1⟩
 have HB1:=Lib.hid (HB.out.trans (hb1.mono HB.out.size))
 clear hb1
 go_wp2_with fail
 exact ⟨rfl,rfl,HB1.out⟩
end
end Go.Proofs.YtjdfbnlaiiknpaaGreatDoor
