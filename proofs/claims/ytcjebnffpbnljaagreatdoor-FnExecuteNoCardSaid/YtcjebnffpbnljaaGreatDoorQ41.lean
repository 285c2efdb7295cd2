/- Parts of the proof of : Ex4 RqM. -/
import Derived.Test.YtcjebnffpbnljaaGreatDoorQ08
set_option maxHeartbeats 20000000
set_option maxRecDepth 1000000
set_option linter.unusedSimpArgs false
set_option linter.unusedVariables false
namespace Go.Proofs.YtcjebnffpbnljaaGreatDoor
section
open Go.RowKit Go.Lib
abbrev malV:Value:=.iface 62 (.agg #[])
def whatT:ByteArray:=⟨#[119,104,97,116]⟩
theorem catch_hit (g:Nat) (w:World) (t:TypeId) (hg:Blk w g t #[.string ⟨#[]⟩]) :
 CallsD Tryz.prog 35 #[.pointer (some ⟨g,0,none⟩)] (.panicking [{ v:=malV,recovered:=false }]) w fun e u' w'=>e=.returned (.tuple #[])∧u'=.panicking [{ v:=malV,recovered:=true }]∧w'=(w.setCell ⟨g,0,none⟩ (.string whatT)).alloc (.cells #[] 62):=by
 obtain⟨z1,z2⟩:=blk1 hg
 have hta:∀W:World,(Instr.typeAssert (.iface 62 (.agg #[])) 20 62 true).run Tryz.prog W=.ok (.tuple #[.agg #[],.bool true]) W:=fun W=>by kernel_rfl
 have h0:=hg.lt
 refine callsD_of_wpS Tryz.func35 rfl fun c₀ cs hu=>?_
 apply wpS_seq
 apply wpS_region
 simp[wpOpsS,go_sem,recoverD,hu,Tryz.ntmps35,Exit.thenS,malV]
 refine wpS_of_wp ?_
 change Code.wp _ _ _ ⟨#[.pointer (some ⟨g,0,none⟩),malV,undef,undef,malV,undef,undef,undef,undef,undef,undef,undef,undef,undef,undef],[]⟩ w
 unfold malV
 go_wp2_with fail
 cases c₀
 simp_all [bodyPostS,results,Tryz.results35,whatT]
theorem answer_none (b n:Nat) (ls:List (List UInt8)) (l0:List UInt8) (w:World) (hn:ls.length=n) (h0:ls[0]?=some l0) (hl:l0.length≤1000) (hn1:n≤1000) (hb:Blk w b 9 (wcs ls)) (hf:cmdOf l0=none) :
 Calls Tryz.prog 19 #[.slice (some ⟨b,0,none⟩) n n] w fun e w'=>e=.returned (.string whatT)∧Below w.heap.size w w':=by
 have hmf:∀(fn:Fn) (first cap:Array Value) (w:World),(Instr.makeFunc fn first cap).run Tryz.prog w=.ok (.func fn first cap) w:=fun _ _ _ _=>rfl
 have hpos:0<n:=by
  rcases Nat.eq_zero_or_pos n with h | h
  ·subst h
   rw[List.length_eq_zero_iff.1 hn] at h0
   cases h0
  ·exact h
 have hal:Below w.heap.size w (w.alloc (.cells #[.string ⟨#[]⟩] 9)):=(Below.refl _ _).alloc (Nat.le_refl _) _
 have HAL:=kk hal
 have HOUT:=kk (Blk.new w 9 #[.string ⟨#[]⟩])
 have hbA:=hb.sub hal
 have hc0:(w.alloc (.cells #[.string ⟨#[]⟩] 9)).drew.cell? ⟨b,0,none⟩=some (.string (bs l0)):=by
  rw[(hbA.drew).cell 0]
  simp[wcs,h0]
 clear hbA hal
 have HC0:=kk hc0
 have HLK:=kk (fun(W:World) (B:Nat) (h:Req W B)=>req_look h l0 (by omega))
 have HLV:Hid (lookV l0=.tuple #[.nilFunc,.bool false]):=by unfold Hid lookV;rw[hf]
 rw[HLV.out] at HLK
 clear hb h0 hn hf
 obtain⟨L0,hL0⟩:∃L0,bs l0=L0:=⟨_,rfl⟩
 rw[hL0] at hc0 HLK HC0
 clear hL0
 go_enter_defers Tryz.func19,Tryz.ntmps19
 go_wp2_with fail
 go_region_held3 (fun w'=>w'.cell? ⟨b,0,none⟩=some (.string L0)) (first | exact hc0 | assumption) ((go_at_call 36;refine(requests_any _).mono ?_;rintro e w2 ⟨rfl,hreq,hb2⟩;rw[sz_ad] at hreq;have hlk:=HLK.out _ _ hreq;have hc2:=(hb2.cell (World.block_lt_of_cell? _ _ HC0.out)).trans HC0.out))
 have HB2:Hid (Below w.heap.size w w2):=kk (HAL.out.trans ((show Below (w.alloc (.cells #[.string ⟨#[]⟩] 9)).heap.size (w.alloc (.cells #[.string ⟨#[]⟩] 9)) w2 from⟨hb2.os,hb2.tape,hb2.output,hb2.size,hb2.block⟩).mono (by simp)))
 have HO2:=kk ((HOUT.out.drew).sub hb2)
 clear hreq hb2 hlk hc2 hc0
 go_wp2_with fail
 have z1:((w2.setCell ⟨w.heap.size,0,none⟩ (.string whatT)).alloc (.cells #[] 62)).cell? ⟨w.heap.size,0,none⟩=some (.string whatT):=((HO2.out.set 0 (.string whatT)).alloc _).cell 0
 have HZ:=kk ((HB2.out.setCell (p:=⟨w.heap.size,0,none⟩) (Nat.le_refl _) (.string whatT)).alloc (by simpa using HB2.out.size) (.cells #[] 62))
 refine leaves_cons (f:=35) (args:=#[.pointer (some ⟨w.heap.size,0,none⟩)]) (by simp) (by simp[go_sem]) ?_
 refine(catch_hit w.heap.size w2 _ HO2.out).mono ?_
 rintro e u' w4 ⟨rfl,rfl,rfl⟩
 simp[Leaves,settle,results,Tryz.results19,go_sem,z1]
 exact HZ.out
theorem answer_mal (b n:Nat) (ls:List (List UInt8)) (l0:List UInt8) (f:Nat) (w:World) (hn:ls.length=n) (h0:ls[0]?=some l0) (hl:l0.length≤1000) (hn1:n≤1000) (hb:Blk w b 9 (wcs ls)) (hf:cmdOf l0=some f) (hen:∀(args:Array Value) (W:World),(callFunc f args).run Tryz.prog W=.ok (.enter f args) W)
 (HF:∀W,Below w.heap.size w W→Calls Tryz.prog f #[.agg #[.slice (some ⟨b,if n=1 then 0 else 1,none⟩) (n-1) (n-1)]] W fun e w'=>e=.panicked [{ v:=malV,recovered:=false }]∧Below W.heap.size W w') :
 Calls Tryz.prog 19 #[.slice (some ⟨b,0,none⟩) n n] w fun e w'=>e=.returned (.string whatT)∧Below w.heap.size w w':=by
 have hmf:∀(fn:Fn) (first cap:Array Value) (w:World),(Instr.makeFunc fn first cap).run Tryz.prog w=.ok (.func fn first cap) w:=fun _ _ _ _=>rfl
 have hpos:0<n:=by
  rcases Nat.eq_zero_or_pos n with h | h
  ·subst h
   rw[List.length_eq_zero_iff.1 hn] at h0
   cases h0
  ·exact h
 have hal:Below w.heap.size w (w.alloc (.cells #[.string ⟨#[]⟩] 9)):=(Below.refl _ _).alloc (Nat.le_refl _) _
 have HAL:=kk hal
 have HOUT:=kk (Blk.new w 9 #[.string ⟨#[]⟩])
 have hbA:=hb.sub hal
 have hc0:(w.alloc (.cells #[.string ⟨#[]⟩] 9)).drew.cell? ⟨b,0,none⟩=some (.string (bs l0)):=by
  rw[(hbA.drew).cell 0]
  simp[wcs,h0]
 clear hbA hal
 have HC0:=kk hc0
 have HLK:=kk (fun(W:World) (B:Nat) (h:Req W B)=>req_look h l0 (by omega))
 have HLV:Hid (lookV l0=.tuple #[.func (.func f) #[] #[],.bool true]):=by unfold Hid lookV;rw[hf]
 rw[HLV.out] at HLK
 have HFF:=kk HF
 clear hb h0 hn hf HF
 obtain⟨L0,hL0⟩:∃L0,bs l0=L0:=⟨_,rfl⟩
 rw[hL0] at hc0 HLK HC0
 clear hL0
 go_enter_defers Tryz.func19,Tryz.ntmps19
 go_wp2_with fail
 go_region_held3 (fun w'=>w'.cell? ⟨b,0,none⟩=some (.string L0)) (first | exact hc0 | assumption) ((go_at_call 36;refine(requests_any _).mono ?_;rintro e w2 ⟨rfl,hreq,hb2⟩;rw[sz_ad] at hreq;have hlk:=HLK.out _ _ hreq;have hc2:=(hb2.cell (World.block_lt_of_cell? _ _ HC0.out)).trans HC0.out))
 have HB2:Hid (Below w.heap.size w w2):=kk (HAL.out.trans ((show Below (w.alloc (.cells #[.string ⟨#[]⟩] 9)).heap.size (w.alloc (.cells #[.string ⟨#[]⟩] 9)) w2 from⟨hb2.os,hb2.tape,hb2.output,hb2.size,hb2.block⟩).mono (by simp)))
 have HO2:=kk ((HOUT.out.drew).sub hb2)
 have HREQ:=kk hreq
 clear hreq hb2 hlk hc2 hc0
 have hsl:=tail_slice b n hpos hn1
 have HCALL:=kk (HFF.out w2 HB2.out)
 obtain⟨ad,had⟩:∃ad:Addr,(⟨b,if n=1 then 0 else 1,none⟩:Addr)=ad:=⟨_,rfl⟩
 rw[had] at HCALL hsl
 clear had
 have hen':=hen #[.agg #[.slice (some ad) (n-1) (n-1)]] w2
 clear hen
 go_wp2_with fail
 refine HCALL.out.mono ?_
 rintro e w3 ⟨rfl,hb3⟩
 replace HB2:=kk (HB2.out.trans (hb3.mono HB2.out.size))
 replace HO2:=kk (HO2.out.sub hb3)
 clear hb3 hen'
 go_wp2_with fail
 have z1:((w3.setCell ⟨w.heap.size,0,none⟩ (.string whatT)).alloc (.cells #[] 62)).cell? ⟨w.heap.size,0,none⟩=some (.string whatT):=((HO2.out.set 0 (.string whatT)).alloc _).cell 0
 have HZ:=kk ((HB2.out.setCell (p:=⟨w.heap.size,0,none⟩) (Nat.le_refl _) (.string whatT)).alloc (by simpa using HB2.out.size) (.cells #[] 62))
 refine leaves_cons (f:=35) (args:=#[.pointer (some ⟨w.heap.size,0,none⟩)]) (by simp) (by simp[go_sem]) ?_
 refine(catch_hit w.heap.size w3 _ HO2.out).mono ?_
 rintro e u' w4 ⟨rfl,rfl,rfl⟩
 simp[Leaves,settle,results,Tryz.results19,go_sem,z1]
 exact HZ.out
end
section
open Go.RowKit Go.Lib
attribute [local go_sem ↓] Go.wp_at_zero Go.wp_at_succ
def Mal (w:World) (e:Ending) (w':World):Prop:=e=.panicked [{ v:=malV,recovered:=false }]∧Below w.heap.size w w'
theorem exactly_mal (A:Option Addr) (c n m:Nat) (w:World) (h:n≠m) :
 Calls Tryz.prog 98 #[.agg #[.slice A n c],.int .i64 (m:Int)] w (Mal w):=by
 have HB:=kk ((Below.refl w.heap.size w).alloc (Nat.le_refl _) (.cells #[.slice A n c] 70))
 have h0:=(Blk.new w 70 #[.slice A n c]).cell 0
 have HC:Hid ((w.alloc (.cells #[.slice A n c] 70)).cell? ⟨w.heap.size,0,none⟩=some (.slice A n c)):=h0
 have e1:((n:Int) != (m:Int))=true:=by simp;omega
 clear h0 h
 unfold Mal
 go_enter Tryz.func98,Tryz.ntmps98
 go_wp2_with fail
 exact⟨rfl,rfl,HB.out⟩
theorem ground_mal (A:Option Addr) (c n:Nat) (w:World) (h:n≠1) :
 Calls Tryz.prog 59 #[.agg #[.slice A n c]] w (Mal w):=by
 have HB:=kk ((Below.refl w.heap.size w).alloc (Nat.le_refl _) (.cells #[.slice A n c] 70))
 have HM:=kk (fun W=>exactly_mal A c n 1 W h)
 clear h
 unfold Mal at *
 go_enter Tryz.func59,Tryz.ntmps59
 go_wp2_with fail
 refine(HM.out _).mono ?_
 rintro e w1 ⟨rfl,hb1⟩
 have HB1:=kk (HB.out.trans (hb1.mono HB.out.size))
 clear hb1
 go_wp2_with fail
 exact⟨rfl,rfl,HB1.out⟩
theorem levels_mal (A:Option Addr) (c n:Nat) (w:World) (h:n≠1) :
 Calls Tryz.prog 62 #[.agg #[.slice A n c]] w (Mal w):=by
 have HB:=kk ((Below.refl w.heap.size w).alloc (Nat.le_refl _) (.cells #[.slice A n c] 70))
 have HM:=kk (fun W=>exactly_mal A c n 1 W h)
 clear h
 unfold Mal at *
 go_enter Tryz.func62,Tryz.ntmps62
 go_wp2_with fail
 refine(HM.out _).mono ?_
 rintro e w1 ⟨rfl,hb1⟩
 have HB1:=kk (HB.out.trans (hb1.mono HB.out.size))
 clear hb1
 go_wp2_with fail
 exact⟨rfl,rfl,HB1.out⟩
theorem factor_mal (A:Option Addr) (c n:Nat) (w:World) (h:n≠1) :
 Calls Tryz.prog 63 #[.agg #[.slice A n c]] w (Mal w):=by
 have HB:=kk ((Below.refl w.heap.size w).alloc (Nat.le_refl _) (.cells #[.slice A n c] 70))
 have HM:=kk (fun W=>exactly_mal A c n 1 W h)
 clear h
 unfold Mal at *
 go_enter Tryz.func63,Tryz.ntmps63
 go_wp2_with fail
 refine(HM.out _).mono ?_
 rintro e w1 ⟨rfl,hb1⟩
 have HB1:=kk (HB.out.trans (hb1.mono HB.out.size))
 clear hb1
 go_wp2_with fail
 exact⟨rfl,rfl,HB1.out⟩
theorem clebsch_mal (A:Option Addr) (c n:Nat) (w:World) (h:n≠5) :
 Calls Tryz.prog 64 #[.agg #[.slice A n c]] w (Mal w):=by
 have HB:=kk ((Below.refl w.heap.size w).alloc (Nat.le_refl _) (.cells #[.slice A n c] 70))
 have HM:=kk (fun W=>exactly_mal A c n 5 W h)
 clear h
 unfold Mal at *
 go_enter Tryz.func64,Tryz.ntmps64
 go_wp2_with fail
 refine(HM.out _).mono ?_
 rintro e w1 ⟨rfl,hb1⟩
 have HB1:=kk (HB.out.trans (hb1.mono HB.out.size))
 clear hb1
 go_wp2_with fail
 exact⟨rfl,rfl,HB1.out⟩
theorem six_mal (A:Option Addr) (c n:Nat) (w:World) (h:n≠6) :
 Calls Tryz.prog 65 #[.agg #[.slice A n c]] w (Mal w):=by
 have HB:=kk ((Below.refl w.heap.size w).alloc (Nat.le_refl _) (.cells #[.slice A n c] 70))
 have HM:=kk (fun W=>exactly_mal A c n 6 W h)
 clear h
 unfold Mal at *
 go_enter Tryz.func65,Tryz.ntmps65
 go_wp2_with fail
 refine(HM.out _).mono ?_
 rintro e w1 ⟨rfl,hb1⟩
 have HB1:=kk (HB.out.trans (hb1.mono HB.out.size))
 clear hb1
 go_wp2_with fail
 exact⟨rfl,rfl,HB1.out⟩
theorem split_mal (A:Option Addr) (c n:Nat) (w:World) (h:n≠2) :
 Calls Tryz.prog 66 #[.agg #[.slice A n c]] w (Mal w):=by
 have HB:=kk ((Below.refl w.heap.size w).alloc (Nat.le_refl _) (.cells #[.slice A n c] 70))
 have HM:=kk (fun W=>exactly_mal A c n 2 W h)
 clear h
 unfold Mal at *
 go_enter Tryz.func66,Tryz.ntmps66
 go_wp2_with fail
 refine(HM.out _).mono ?_
 rintro e w1 ⟨rfl,hb1⟩
 have HB1:=kk (HB.out.trans (hb1.mono HB.out.size))
 clear hb1
 go_wp2_with fail
 exact⟨rfl,rfl,HB1.out⟩
theorem config_mal (A:Option Addr) (c:Nat) (w:World) :
 Calls Tryz.prog 102 #[.agg #[.slice A 0 c]] w (Mal w):=by
 have HB:=kk ((Below.refl w.heap.size w).alloc (Nat.le_refl _) (.cells #[.slice A 0 c] 70))
 unfold Mal
 go_enter Tryz.func102,Tryz.ntmps102
 go_wp2_with fail
 exact⟨rfl,rfl,HB.out⟩
theorem terms_mal (A:Option Addr) (c:Nat) (w:World) :
 Calls Tryz.prog 60 #[.agg #[.slice A 0 c]] w (Mal w):=by
 have HB:=kk ((Below.refl w.heap.size w).alloc (Nat.le_refl _) (.cells #[.slice A 0 c] 70))
 have HM:=kk (fun W=>config_mal A c W)
 unfold Mal at *
 go_enter Tryz.func60,Tryz.ntmps60
 go_wp2_with fail
 refine(HM.out _).mono ?_
 rintro e w1 ⟨rfl,hb1⟩
 have HB1:=kk (HB.out.trans (hb1.mono HB.out.size))
 clear hb1
 go_wp2_with fail
 exact⟨rfl,rfl,HB1.out⟩
theorem hund_mal (A:Option Addr) (c:Nat) (w:World) :
 Calls Tryz.prog 61 #[.agg #[.slice A 0 c]] w (Mal w):=by
 have HB:=kk ((Below.refl w.heap.size w).alloc (Nat.le_refl _) (.cells #[.slice A 0 c] 70))
 have HM:=kk (fun W=>config_mal A c W)
 unfold Mal at *
 go_enter Tryz.func61,Tryz.ntmps61
 go_wp2_with fail
 refine(HM.out _).mono ?_
 rintro e w1 ⟨rfl,hb1⟩
 have HB1:=kk (HB.out.trans (hb1.mono HB.out.size))
 clear hb1
 go_wp2_with fail
 exact⟨rfl,rfl,HB1.out⟩
end
end Go.Proofs.YtcjebnffpbnljaaGreatDoor
