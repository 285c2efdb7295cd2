/- Parts of the proof of : Ld. -/
import Derived.Test.YtjdfbnlaiiknpaaGreatDoorQ39
set_option maxHeartbeats 20000000
set_option maxRecDepth 1000000
set_option linter.unusedSimpArgs false
set_option linter.unusedVariables false
namespace Go.Proofs.YtjdfbnlaiiknpaaGreatDoor
section
open Go.RowKit
attribute [local go_sem ↓] Go.wp_at_zero Go.wp_at_succ
def facC:List UInt8:=[102,97,99,116,111,114]
def cleC:List UInt8:=[99,108,101,98,115,99,104]
def sixC:List UInt8:=[115,105,120]
def splC:List UInt8:=[115,112,108,105,116]
def whatL:List UInt8:=[119,104,97,116]
def ansW (ws:List (List UInt8)):List UInt8 :=
 if ws.getD 0 []=groW then (if ws.length=2 then finT (rqGr (ws.getD 1 [])) else whatL)
 else if ws.getD 0 []=terW then (if 1<ws.length then finT (rqTe (Lib.join (ws.drop 1) [32])) else whatL)
 else if ws.getD 0 []=hunW then (if 1<ws.length then finT (rqHu (Lib.join (ws.drop 1) [32])) else whatL)
 else if ws.getD 0 []=lvW then (if ws.length=2 then finT (rqLe (ws.getD 1 [])) else whatL)
 else if ws.getD 0 []=facC then (if ws.length=2 then finT (rqFac (ws.getD 1 [])) else whatL)
 else if ws.getD 0 []=cleC then (if ws.length=6 then finT (rqCl (ws.getD 1 []) (ws.getD 2 []) (ws.getD 3 []) (ws.getD 4 []) (ws.getD 5 [])) else whatL)
 else if ws.getD 0 []=sixC then (if ws.length=7 then finT (rqSx (ws.getD 1 []) (ws.getD 2 []) (ws.getD 3 []) (ws.getD 4 []) (ws.getD 5 []) (ws.getD 6 [])) else whatL)
 else if ws.getD 0 []=splC then (if ws.length=3 then finT (rqSpl (ws.getD 1 []) (ws.getD 2 [])) else whatL)
 else whatL
theorem Reads.ints {w:World} {B:Nat} {A:Option Addr} {n:Nat} {l:List Int} (h:Reads w B 1 A n (icells l)) (hn:0<n) :
 ∃b off,A=some ⟨b,off,none⟩∧b<B∧∀k,k<n→w.cell? ⟨b,off+k,none⟩=some (.int .i64 (l.getD k 0)):=by
 obtain ⟨b,off,x,e,hb,_,_,_⟩:=h.int hn
 refine ⟨b,off,e,hb,fun k hk=>?_⟩
 obtain ⟨b',off',x',e',_,hc,H1,_⟩:=h.int hk
 rw [e] at e'
 injection e' with e'
 injection e' with e1 e2
 subst e1;subst e2
 rw [hc,List.getD_eq_getElem?_getD,H1.out];rfl
theorem nums_at (ws:List (List UInt8)) (k:Nat) (h:k+1<ws.length):((ws.drop 1).map numOf).getD k 0=numOf (ws.getD (k+1) []):=by
 rw [List.getD_eq_getElem?_getD,List.getElem?_map,List.getElem?_drop,List.getD_eq_getElem?_getD,Nat.add_comm 1 k,List.getElem?_eq_getElem h];rfl
structure LnOk (A:Option Addr) (b0 off n:Nat) (ws:List (List UInt8)) (w:World):Prop where
 hl:ws.length=n
 h1:1≤n
 hn:n≤1000
 hm:∀k,(ws.getD k []).length≤1000
 hj:(Lib.join (ws.drop 1) [32]).length≤900
 hr:Reads w w.heap.size 1 A n (scells ws)
 hA:A=some ⟨b0,off,none⟩
 hc:∀k,k<n→w.cell? ⟨b0,off+k,none⟩=some (.string (bs (ws.getD k [])))
theorem line_none (b0 off n c:Nat) (ws:List (List UInt8)) (w:World) (D:ByteArray) (h:LnOk (some ⟨b0,off,none⟩) b0 off n ws w) (hD:bs (ws.getD 0 [])=D) (e0:(D.toList==([103,114,111,117,110,100]:List UInt8))=false) (e1:(D.toList==([116,101,114,109,115]:List UInt8))=false) (e2:(D.toList==([104,117,110,100]:List UInt8))=false) (e3:(D.toList==([108,101,118,101,108,115]:List UInt8))=false) (e4:(D.toList==([102,97,99,116,111,114]:List UInt8))=false) (e5:(D.toList==([99,108,101,98,115,99,104]:List UInt8))=false) (e6:(D.toList==([115,105,120]:List UInt8))=false) (e7:(D.toList==([115,112,108,105,116]:List UInt8))=false) :
 Calls Tryz.prog 32 #[.slice (some ⟨b0,off,none⟩) n c] w fun e w'=>e=.returned (.string ⟨#[119,104,97,116]⟩)∧Below w.heap.size w w':=by
 have HNU:=Lib.hid (l51Numbers_any (some ⟨b0,off,none⟩) n c ws w h.hl h.h1 h.hn h.hm (h.hA ▸ h.hr))
 have c0:=h.hc 0 h.h1
 rw [hD,Nat.add_zero] at c0
 have HC0:=Lib.hid c0
 have h1:=h.h1
 clear h hD c0
 go_enter Tryz.func32,Tryz.ntmps32
 go_wp2_with fail
 refine HNU.out.mono ?_
 rintro e w1 ⟨⟨A2,c2,rfl,hr1⟩,hb1⟩
 have HB1:=Lib.hid hb1
 have c0:=cell_sub hb1 HC0.out
 clear hb1 hr1
 go_wp2_with fail
 go_ret
 exact ⟨rfl,HB1.out⟩
theorem line_gro_no (b0 off n c:Nat) (ws:List (List UInt8)) (w:World) (D:ByteArray) (h:LnOk (some ⟨b0,off,none⟩) b0 off n ws w) (hD:bs (ws.getD 0 [])=D) (e0:(D.toList==([103,114,111,117,110,100]:List UInt8))=true) (e1:(D.toList==([116,101,114,109,115]:List UInt8))=false) (e2:(D.toList==([104,117,110,100]:List UInt8))=false) (e3:(D.toList==([108,101,118,101,108,115]:List UInt8))=false) (e4:(D.toList==([102,97,99,116,111,114]:List UInt8))=false) (e5:(D.toList==([99,108,101,98,115,99,104]:List UInt8))=false) (e6:(D.toList==([115,105,120]:List UInt8))=false) (e7:(D.toList==([115,112,108,105,116]:List UInt8))=false) (dn:((n:Int)==2)=false) :
 Calls Tryz.prog 32 #[.slice (some ⟨b0,off,none⟩) n c] w fun e w'=>e=.returned (.string ⟨#[119,104,97,116]⟩)∧Below w.heap.size w w':=by
 have HNU:=Lib.hid (l51Numbers_any (some ⟨b0,off,none⟩) n c ws w h.hl h.h1 h.hn h.hm (h.hA ▸ h.hr))
 have c0:=h.hc 0 h.h1
 rw [hD,Nat.add_zero] at c0
 have HC0:=Lib.hid c0
 have h1:=h.h1
 clear h hD c0
 go_enter Tryz.func32,Tryz.ntmps32
 go_wp2_with fail
 refine HNU.out.mono ?_
 rintro e w1 ⟨⟨A2,c2,rfl,hr1⟩,hb1⟩
 have HB1:=Lib.hid hb1
 have c0:=cell_sub hb1 HC0.out
 clear hb1 hr1
 go_wp2_with fail
 go_ret
 exact ⟨rfl,HB1.out⟩
theorem line_ter_no (b0 off c:Nat) (ws:List (List UInt8)) (w:World) (D:ByteArray) (h:LnOk (some ⟨b0,off,none⟩) b0 off 1 ws w) (hD:bs (ws.getD 0 [])=D) (e0:(D.toList==([103,114,111,117,110,100]:List UInt8))=false) (e1:(D.toList==([116,101,114,109,115]:List UInt8))=true) (e3:(D.toList==([108,101,118,101,108,115]:List UInt8))=false) (e4:(D.toList==([102,97,99,116,111,114]:List UInt8))=false) (e5:(D.toList==([99,108,101,98,115,99,104]:List UInt8))=false) (e6:(D.toList==([115,105,120]:List UInt8))=false) (e7:(D.toList==([115,112,108,105,116]:List UInt8))=false) :
 Calls Tryz.prog 32 #[.slice (some ⟨b0,off,none⟩) 1 c] w fun e w'=>e=.returned (.string ⟨#[119,104,97,116]⟩)∧Below w.heap.size w w':=by
 have HNU:=Lib.hid (l51Numbers_any (some ⟨b0,off,none⟩) 1 c ws w h.hl h.h1 h.hn h.hm (h.hA ▸ h.hr))
 have c0:=h.hc 0 h.h1
 rw [hD,Nat.add_zero] at c0
 have HC0:=Lib.hid c0
 have h1:=h.h1
 clear h hD c0
 go_enter Tryz.func32,Tryz.ntmps32
 go_wp2_with fail
 refine HNU.out.mono ?_
 rintro e w1 ⟨⟨A2,c2,rfl,hr1⟩,hb1⟩
 have HB1:=Lib.hid hb1
 have c0:=cell_sub hb1 HC0.out
 clear hb1 hr1
 go_wp2_with fail
 go_ret
 exact ⟨rfl,HB1.out⟩
theorem line_hun_no (b0 off c:Nat) (ws:List (List UInt8)) (w:World) (D:ByteArray) (h:LnOk (some ⟨b0,off,none⟩) b0 off 1 ws w) (hD:bs (ws.getD 0 [])=D) (e0:(D.toList==([103,114,111,117,110,100]:List UInt8))=false) (e1:(D.toList==([116,101,114,109,115]:List UInt8))=false) (e2:(D.toList==([104,117,110,100]:List UInt8))=true) (e3:(D.toList==([108,101,118,101,108,115]:List UInt8))=false) (e4:(D.toList==([102,97,99,116,111,114]:List UInt8))=false) (e5:(D.toList==([99,108,101,98,115,99,104]:List UInt8))=false) (e6:(D.toList==([115,105,120]:List UInt8))=false) (e7:(D.toList==([115,112,108,105,116]:List UInt8))=false) :
 Calls Tryz.prog 32 #[.slice (some ⟨b0,off,none⟩) 1 c] w fun e w'=>e=.returned (.string ⟨#[119,104,97,116]⟩)∧Below w.heap.size w w':=by
 have HNU:=Lib.hid (l51Numbers_any (some ⟨b0,off,none⟩) 1 c ws w h.hl h.h1 h.hn h.hm (h.hA ▸ h.hr))
 have c0:=h.hc 0 h.h1
 rw [hD,Nat.add_zero] at c0
 have HC0:=Lib.hid c0
 have h1:=h.h1
 clear h hD c0
 go_enter Tryz.func32,Tryz.ntmps32
 go_wp2_with fail
 refine HNU.out.mono ?_
 rintro e w1 ⟨⟨A2,c2,rfl,hr1⟩,hb1⟩
 have HB1:=Lib.hid hb1
 have c0:=cell_sub hb1 HC0.out
 clear hb1 hr1
 go_wp2_with fail
 go_ret
 exact ⟨rfl,HB1.out⟩
theorem line_lev_no (b0 off n c:Nat) (ws:List (List UInt8)) (w:World) (D:ByteArray) (h:LnOk (some ⟨b0,off,none⟩) b0 off n ws w) (hD:bs (ws.getD 0 [])=D) (e0:(D.toList==([103,114,111,117,110,100]:List UInt8))=false) (e1:(D.toList==([116,101,114,109,115]:List UInt8))=false) (e2:(D.toList==([104,117,110,100]:List UInt8))=false) (e3:(D.toList==([108,101,118,101,108,115]:List UInt8))=true) (e4:(D.toList==([102,97,99,116,111,114]:List UInt8))=false) (e5:(D.toList==([99,108,101,98,115,99,104]:List UInt8))=false) (e6:(D.toList==([115,105,120]:List UInt8))=false) (e7:(D.toList==([115,112,108,105,116]:List UInt8))=false) (dn:((n:Int)==2)=false) :
 Calls Tryz.prog 32 #[.slice (some ⟨b0,off,none⟩) n c] w fun e w'=>e=.returned (.string ⟨#[119,104,97,116]⟩)∧Below w.heap.size w w':=by
 have HNU:=Lib.hid (l51Numbers_any (some ⟨b0,off,none⟩) n c ws w h.hl h.h1 h.hn h.hm (h.hA ▸ h.hr))
 have c0:=h.hc 0 h.h1
 rw [hD,Nat.add_zero] at c0
 have HC0:=Lib.hid c0
 have h1:=h.h1
 clear h hD c0
 go_enter Tryz.func32,Tryz.ntmps32
 go_wp2_with fail
 refine HNU.out.mono ?_
 rintro e w1 ⟨⟨A2,c2,rfl,hr1⟩,hb1⟩
 have HB1:=Lib.hid hb1
 have c0:=cell_sub hb1 HC0.out
 clear hb1 hr1
 go_wp2_with fail
 go_ret
 exact ⟨rfl,HB1.out⟩
theorem line_fac_no (b0 off n c:Nat) (ws:List (List UInt8)) (w:World) (D:ByteArray) (h:LnOk (some ⟨b0,off,none⟩) b0 off n ws w) (hD:bs (ws.getD 0 [])=D) (e0:(D.toList==([103,114,111,117,110,100]:List UInt8))=false) (e1:(D.toList==([116,101,114,109,115]:List UInt8))=false) (e2:(D.toList==([104,117,110,100]:List UInt8))=false) (e3:(D.toList==([108,101,118,101,108,115]:List UInt8))=false) (e4:(D.toList==([102,97,99,116,111,114]:List UInt8))=true) (e5:(D.toList==([99,108,101,98,115,99,104]:List UInt8))=false) (e6:(D.toList==([115,105,120]:List UInt8))=false) (e7:(D.toList==([115,112,108,105,116]:List UInt8))=false) (dn:((n:Int)==2)=false) :
 Calls Tryz.prog 32 #[.slice (some ⟨b0,off,none⟩) n c] w fun e w'=>e=.returned (.string ⟨#[119,104,97,116]⟩)∧Below w.heap.size w w':=by
 have HNU:=Lib.hid (l51Numbers_any (some ⟨b0,off,none⟩) n c ws w h.hl h.h1 h.hn h.hm (h.hA ▸ h.hr))
 have c0:=h.hc 0 h.h1
 rw [hD,Nat.add_zero] at c0
 have HC0:=Lib.hid c0
 have h1:=h.h1
 clear h hD c0
 go_enter Tryz.func32,Tryz.ntmps32
 go_wp2_with fail
 refine HNU.out.mono ?_
 rintro e w1 ⟨⟨A2,c2,rfl,hr1⟩,hb1⟩
 have HB1:=Lib.hid hb1
 have c0:=cell_sub hb1 HC0.out
 clear hb1 hr1
 go_wp2_with fail
 go_ret
 exact ⟨rfl,HB1.out⟩
theorem line_cle_no (b0 off n c:Nat) (ws:List (List UInt8)) (w:World) (D:ByteArray) (h:LnOk (some ⟨b0,off,none⟩) b0 off n ws w) (hD:bs (ws.getD 0 [])=D) (e0:(D.toList==([103,114,111,117,110,100]:List UInt8))=false) (e1:(D.toList==([116,101,114,109,115]:List UInt8))=false) (e2:(D.toList==([104,117,110,100]:List UInt8))=false) (e3:(D.toList==([108,101,118,101,108,115]:List UInt8))=false) (e4:(D.toList==([102,97,99,116,111,114]:List UInt8))=false) (e5:(D.toList==([99,108,101,98,115,99,104]:List UInt8))=true) (e6:(D.toList==([115,105,120]:List UInt8))=false) (e7:(D.toList==([115,112,108,105,116]:List UInt8))=false) (dn:((n:Int)==6)=false) :
 Calls Tryz.prog 32 #[.slice (some ⟨b0,off,none⟩) n c] w fun e w'=>e=.returned (.string ⟨#[119,104,97,116]⟩)∧Below w.heap.size w w':=by
 have HNU:=Lib.hid (l51Numbers_any (some ⟨b0,off,none⟩) n c ws w h.hl h.h1 h.hn h.hm (h.hA ▸ h.hr))
 have c0:=h.hc 0 h.h1
 rw [hD,Nat.add_zero] at c0
 have HC0:=Lib.hid c0
 have h1:=h.h1
 clear h hD c0
 go_enter Tryz.func32,Tryz.ntmps32
 go_wp2_with fail
 refine HNU.out.mono ?_
 rintro e w1 ⟨⟨A2,c2,rfl,hr1⟩,hb1⟩
 have HB1:=Lib.hid hb1
 have c0:=cell_sub hb1 HC0.out
 clear hb1 hr1
 go_wp2_with fail
 go_ret
 exact ⟨rfl,HB1.out⟩
theorem line_six_no (b0 off n c:Nat) (ws:List (List UInt8)) (w:World) (D:ByteArray) (h:LnOk (some ⟨b0,off,none⟩) b0 off n ws w) (hD:bs (ws.getD 0 [])=D) (e0:(D.toList==([103,114,111,117,110,100]:List UInt8))=false) (e1:(D.toList==([116,101,114,109,115]:List UInt8))=false) (e2:(D.toList==([104,117,110,100]:List UInt8))=false) (e3:(D.toList==([108,101,118,101,108,115]:List UInt8))=false) (e4:(D.toList==([102,97,99,116,111,114]:List UInt8))=false) (e5:(D.toList==([99,108,101,98,115,99,104]:List UInt8))=false) (e6:(D.toList==([115,105,120]:List UInt8))=true) (e7:(D.toList==([115,112,108,105,116]:List UInt8))=false) (dn:((n:Int)==7)=false) :
 Calls Tryz.prog 32 #[.slice (some ⟨b0,off,none⟩) n c] w fun e w'=>e=.returned (.string ⟨#[119,104,97,116]⟩)∧Below w.heap.size w w':=by
 have HNU:=Lib.hid (l51Numbers_any (some ⟨b0,off,none⟩) n c ws w h.hl h.h1 h.hn h.hm (h.hA ▸ h.hr))
 have c0:=h.hc 0 h.h1
 rw [hD,Nat.add_zero] at c0
 have HC0:=Lib.hid c0
 have h1:=h.h1
 clear h hD c0
 go_enter Tryz.func32,Tryz.ntmps32
 go_wp2_with fail
 refine HNU.out.mono ?_
 rintro e w1 ⟨⟨A2,c2,rfl,hr1⟩,hb1⟩
 have HB1:=Lib.hid hb1
 have c0:=cell_sub hb1 HC0.out
 clear hb1 hr1
 go_wp2_with fail
 go_ret
 exact ⟨rfl,HB1.out⟩
theorem line_spl_no (b0 off n c:Nat) (ws:List (List UInt8)) (w:World) (D:ByteArray) (h:LnOk (some ⟨b0,off,none⟩) b0 off n ws w) (hD:bs (ws.getD 0 [])=D) (e0:(D.toList==([103,114,111,117,110,100]:List UInt8))=false) (e1:(D.toList==([116,101,114,109,115]:List UInt8))=false) (e2:(D.toList==([104,117,110,100]:List UInt8))=false) (e3:(D.toList==([108,101,118,101,108,115]:List UInt8))=false) (e4:(D.toList==([102,97,99,116,111,114]:List UInt8))=false) (e5:(D.toList==([99,108,101,98,115,99,104]:List UInt8))=false) (e6:(D.toList==([115,105,120]:List UInt8))=false) (e7:(D.toList==([115,112,108,105,116]:List UInt8))=true) (dn:((n:Int)==3)=false) :
 Calls Tryz.prog 32 #[.slice (some ⟨b0,off,none⟩) n c] w fun e w'=>e=.returned (.string ⟨#[119,104,97,116]⟩)∧Below w.heap.size w w':=by
 have HNU:=Lib.hid (l51Numbers_any (some ⟨b0,off,none⟩) n c ws w h.hl h.h1 h.hn h.hm (h.hA ▸ h.hr))
 have c0:=h.hc 0 h.h1
 rw [hD,Nat.add_zero] at c0
 have HC0:=Lib.hid c0
 have h1:=h.h1
 clear h hD c0
 go_enter Tryz.func32,Tryz.ntmps32
 go_wp2_with fail
 refine HNU.out.mono ?_
 rintro e w1 ⟨⟨A2,c2,rfl,hr1⟩,hb1⟩
 have HB1:=Lib.hid hb1
 have c0:=cell_sub hb1 HC0.out
 clear hb1 hr1
 go_wp2_with fail
 go_ret
 exact ⟨rfl,HB1.out⟩
theorem line_gro (b0 off c:Nat) (ws:List (List UInt8)) (w:World) (D:ByteArray) (h:LnOk (some ⟨b0,off,none⟩) b0 off 2 ws w) (hD:bs (ws.getD 0 [])=D) (e0:(D.toList==([103,114,111,117,110,100]:List UInt8))=true) :
 Calls Tryz.prog 32 #[.slice (some ⟨b0,off,none⟩) 2 c] w fun e w'=>e=.returned (.string (bs (finT (rqGr (ws.getD 1 [])))))∧Below w.heap.size w w':=by
 have HNU:=Lib.hid (l51Numbers_any (some ⟨b0,off,none⟩) 2 c ws w h.hl h.h1 h.hn h.hm (h.hA ▸ h.hr))
 have c0:=h.hc 0 h.h1
 rw [hD,Nat.add_zero] at c0
 have HC0:=Lib.hid c0
 clear hD c0
 have HL:=Lib.hid h.hl
 have HAR:=Lib.hid (fun W=>l51Ground_any (ws.getD 1 []) W)
 clear h
 go_enter Tryz.func32,Tryz.ntmps32
 go_wp2_with fail
 refine HNU.out.mono ?_
 rintro e w1 ⟨⟨A2,c2,rfl,hr1⟩,hb1⟩
 have HB1:=Lib.hid hb1
 have c0:=cell_sub hb1 HC0.out
 obtain ⟨b2,o2,rfl,_,hn⟩:=hr1.ints (by omega)
 have n0:=hn 0 (by omega)
 rw [Nat.add_zero,nums_at ws 0 (by rw [HL.out];omega)] at n0
 clear hb1 hr1 hn
 generalize numOf (ws.getD 1 [])=z at *
 go_wp2_with fail
 refine (HAR.out _).mono ?_
 rintro e w2 ⟨rfl,hb2⟩
 have HB2:=Lib.hid (bel_sub HB1.out hb2)
 clear hb2
 go_wp2_with fail
 go_ret
 exact ⟨rfl,HB2.out⟩
theorem line_ter (b0 off n c:Nat) (ws:List (List UInt8)) (w:World) (D:ByteArray) (h:LnOk (some ⟨b0,off,none⟩) b0 off n ws w) (hD:bs (ws.getD 0 [])=D) (e0:(D.toList==([103,114,111,117,110,100]:List UInt8))=false) (e1:(D.toList==([116,101,114,109,115]:List UInt8))=true) (h0:ws.getD 0 []=terW) (hn2:1<n) :
 Calls Tryz.prog 32 #[.slice (some ⟨b0,off,none⟩) n c] w fun e w'=>e=.returned (.string (bs (finT (rqTe (Lib.join (ws.drop 1) [32])))))∧Below w.heap.size w w':=by
 have HNU:=Lib.hid (l51Numbers_any (some ⟨b0,off,none⟩) n c ws w h.hl h.h1 h.hn h.hm (h.hA ▸ h.hr))
 have c0:=h.hc 0 h.h1
 rw [hD,Nat.add_zero] at c0
 have HC0:=Lib.hid c0
 clear hD c0
 have HR:=Lib.hid h.hr
 have HCF:=Lib.hid (fun W (hW:Below w.heap.size w W)=>l51Config_any (some ⟨b0,off,none⟩) n c ws W h.hl h.h1 h.hn (fun k=>Nat.le_trans (h.hm k) (by omega)) h.hj ((h.hr.below hW).more hW.size))
 rw [if_neg (show ¬ws.getD 0 []=hunW by rw [h0];decide)] at HCF
 have d1:(1:Int)<(n:Int):=by omega
 clear h h0
 generalize bs (finT (rqTe (Lib.join (ws.drop 1) [32])))=Y at *
 go_enter Tryz.func32,Tryz.ntmps32
 go_wp2_with fail
 refine HNU.out.mono ?_
 rintro e w1 ⟨⟨A2,c2,rfl,hr1⟩,hb1⟩
 have HB1:=Lib.hid hb1
 have c0:=cell_sub hb1 HC0.out
 clear hb1 hr1 HR
 go_wp2_with fail
 refine (HCF.out _ HB1.out).mono ?_
 rintro e w2 ⟨rfl,hb2⟩
 have HB2:=Lib.hid (bel_sub HB1.out hb2)
 clear hb2
 go_wp2_with fail
 go_ret
 exact ⟨rfl,HB2.out⟩
theorem line_hun (b0 off n c:Nat) (ws:List (List UInt8)) (w:World) (D:ByteArray) (h:LnOk (some ⟨b0,off,none⟩) b0 off n ws w) (hD:bs (ws.getD 0 [])=D) (e0:(D.toList==([103,114,111,117,110,100]:List UInt8))=false) (e1:(D.toList==([116,101,114,109,115]:List UInt8))=false) (e2:(D.toList==([104,117,110,100]:List UInt8))=true) (h0:ws.getD 0 []=hunW) (hn2:1<n) :
 Calls Tryz.prog 32 #[.slice (some ⟨b0,off,none⟩) n c] w fun e w'=>e=.returned (.string (bs (finT (rqHu (Lib.join (ws.drop 1) [32])))))∧Below w.heap.size w w':=by
 have HNU:=Lib.hid (l51Numbers_any (some ⟨b0,off,none⟩) n c ws w h.hl h.h1 h.hn h.hm (h.hA ▸ h.hr))
 have c0:=h.hc 0 h.h1
 rw [hD,Nat.add_zero] at c0
 have HC0:=Lib.hid c0
 clear hD c0
 have HR:=Lib.hid h.hr
 have HCF:=Lib.hid (fun W (hW:Below w.heap.size w W)=>l51Config_any (some ⟨b0,off,none⟩) n c ws W h.hl h.h1 h.hn (fun k=>Nat.le_trans (h.hm k) (by omega)) h.hj ((h.hr.below hW).more hW.size))
 rw [if_pos h0] at HCF
 have d1:(1:Int)<(n:Int):=by omega
 clear h h0
 generalize bs (finT (rqHu (Lib.join (ws.drop 1) [32])))=Y at *
 go_enter Tryz.func32,Tryz.ntmps32
 go_wp2_with fail
 refine HNU.out.mono ?_
 rintro e w1 ⟨⟨A2,c2,rfl,hr1⟩,hb1⟩
 have HB1:=Lib.hid hb1
 have c0:=cell_sub hb1 HC0.out
 clear hb1 hr1 HR
 go_wp2_with fail
 refine (HCF.out _ HB1.out).mono ?_
 rintro e w2 ⟨rfl,hb2⟩
 have HB2:=Lib.hid (bel_sub HB1.out hb2)
 clear hb2
 go_wp2_with fail
 go_ret
 exact ⟨rfl,HB2.out⟩
theorem line_lev (b0 off c:Nat) (ws:List (List UInt8)) (w:World) (D:ByteArray) (h:LnOk (some ⟨b0,off,none⟩) b0 off 2 ws w) (hD:bs (ws.getD 0 [])=D) (e0:(D.toList==([103,114,111,117,110,100]:List UInt8))=false) (e1:(D.toList==([116,101,114,109,115]:List UInt8))=false) (e2:(D.toList==([104,117,110,100]:List UInt8))=false) (e3:(D.toList==([108,101,118,101,108,115]:List UInt8))=true) :
 Calls Tryz.prog 32 #[.slice (some ⟨b0,off,none⟩) 2 c] w fun e w'=>e=.returned (.string (bs (finT (rqLe (ws.getD 1 [])))))∧Below w.heap.size w w':=by
 have HNU:=Lib.hid (l51Numbers_any (some ⟨b0,off,none⟩) 2 c ws w h.hl h.h1 h.hn h.hm (h.hA ▸ h.hr))
 have c0:=h.hc 0 h.h1
 rw [hD,Nat.add_zero] at c0
 have HC0:=Lib.hid c0
 clear hD c0
 have HAR:=Lib.hid (fun W=>l51Levels_any (ws.getD 1 []) W (Nat.le_trans (h.hm 1) (by omega)))
 have HC1:=Lib.hid (h.hc 1 (by omega))
 clear h
 generalize bs (finT (rqLe (ws.getD 1 [])))=Y at *
 generalize bs (ws.getD 1 [])=X1 at *
 go_enter Tryz.func32,Tryz.ntmps32
 go_wp2_with fail
 refine HNU.out.mono ?_
 rintro e w1 ⟨⟨A2,c2,rfl,hr1⟩,hb1⟩
 have HB1:=Lib.hid hb1
 have c0:=cell_sub hb1 HC0.out
 have c1:=cell_sub hb1 HC1.out
 clear hb1 hr1
 go_wp2_with fail
 refine (HAR.out _).mono ?_
 rintro e w2 ⟨rfl,hb2⟩
 have HB2:=Lib.hid (bel_sub HB1.out hb2)
 clear hb2
 go_wp2_with fail
 go_ret
 exact ⟨rfl,HB2.out⟩
theorem line_fac (b0 off c:Nat) (ws:List (List UInt8)) (w:World) (D:ByteArray) (h:LnOk (some ⟨b0,off,none⟩) b0 off 2 ws w) (hD:bs (ws.getD 0 [])=D) (e0:(D.toList==([103,114,111,117,110,100]:List UInt8))=false) (e1:(D.toList==([116,101,114,109,115]:List UInt8))=false) (e2:(D.toList==([104,117,110,100]:List UInt8))=false) (e3:(D.toList==([108,101,118,101,108,115]:List UInt8))=false) (e4:(D.toList==([102,97,99,116,111,114]:List UInt8))=true) :
 Calls Tryz.prog 32 #[.slice (some ⟨b0,off,none⟩) 2 c] w fun e w'=>e=.returned (.string (bs (finT (rqFac (ws.getD 1 [])))))∧Below w.heap.size w w':=by
 have HNU:=Lib.hid (l51Numbers_any (some ⟨b0,off,none⟩) 2 c ws w h.hl h.h1 h.hn h.hm (h.hA ▸ h.hr))
 have c0:=h.hc 0 h.h1
 rw [hD,Nat.add_zero] at c0
 have HC0:=Lib.hid c0
 clear hD c0
 have HAR:=Lib.hid (fun W=>l51Factor_any (ws.getD 1 []) W (Nat.le_trans (h.hm 1) (by omega)))
 have HC1:=Lib.hid (h.hc 1 (by omega))
 clear h
 generalize bs (finT (rqFac (ws.getD 1 [])))=Y at *
 generalize bs (ws.getD 1 [])=X1 at *
 go_enter Tryz.func32,Tryz.ntmps32
 go_wp2_with fail
 refine HNU.out.mono ?_
 rintro e w1 ⟨⟨A2,c2,rfl,hr1⟩,hb1⟩
 have HB1:=Lib.hid hb1
 have c0:=cell_sub hb1 HC0.out
 have c1:=cell_sub hb1 HC1.out
 clear hb1 hr1
 go_wp2_with fail
 refine (HAR.out _).mono ?_
 rintro e w2 ⟨rfl,hb2⟩
 have HB2:=Lib.hid (bel_sub HB1.out hb2)
 clear hb2
 go_wp2_with fail
 go_ret
 exact ⟨rfl,HB2.out⟩
theorem line_cle (b0 off c:Nat) (ws:List (List UInt8)) (w:World) (D:ByteArray) (h:LnOk (some ⟨b0,off,none⟩) b0 off 6 ws w) (hD:bs (ws.getD 0 [])=D) (e0:(D.toList==([103,114,111,117,110,100]:List UInt8))=false) (e1:(D.toList==([116,101,114,109,115]:List UInt8))=false) (e2:(D.toList==([104,117,110,100]:List UInt8))=false) (e3:(D.toList==([108,101,118,101,108,115]:List UInt8))=false) (e4:(D.toList==([102,97,99,116,111,114]:List UInt8))=false) (e5:(D.toList==([99,108,101,98,115,99,104]:List UInt8))=true) :
 Calls Tryz.prog 32 #[.slice (some ⟨b0,off,none⟩) 6 c] w fun e w'=>e=.returned (.string (bs (finT (rqCl (ws.getD 1 []) (ws.getD 2 []) (ws.getD 3 []) (ws.getD 4 []) (ws.getD 5 [])))))∧Below w.heap.size w w':=by
 have HNU:=Lib.hid (l51Numbers_any (some ⟨b0,off,none⟩) 6 c ws w h.hl h.h1 h.hn h.hm (h.hA ▸ h.hr))
 have c0:=h.hc 0 h.h1
 rw [hD,Nat.add_zero] at c0
 have HC0:=Lib.hid c0
 clear hD c0
 have HL:=Lib.hid h.hl
 have HCl:=Lib.hid (fun W=>specClebsch_any (numOf (ws.getD 1 [])) (numOf (ws.getD 2 [])) (numOf (ws.getD 3 [])) (numOf (ws.getD 4 [])) (numOf (ws.getD 5 [])) W)
 clear h
 have HY:Hid (finT (rqCl (ws.getD 1 []) (ws.getD 2 []) (ws.getD 3 []) (ws.getD 4 []) (ws.getD 5 []))=finT (rootT (clR (numOf (ws.getD 1 [])) (numOf (ws.getD 2 [])) (numOf (ws.getD 3 [])) (numOf (ws.getD 4 [])) (numOf (ws.getD 5 []))).1,(clR (numOf (ws.getD 1 [])) (numOf (ws.getD 2 [])) (numOf (ws.getD 3 [])) (numOf (ws.getD 4 [])) (numOf (ws.getD 5 []))).2)):=rfl
 rw [HY.out]
 clear HY
 obtain ⟨r,hr⟩:∃r,clR (numOf (ws.getD 1 [])) (numOf (ws.getD 2 [])) (numOf (ws.getD 3 [])) (numOf (ws.getD 4 [])) (numOf (ws.getD 5 []))=r:=⟨_,rfl⟩
 rw [hr] at HCl ⊢
 clear hr
 have HRO:=Lib.hid (fun W=>l51Root_any r W)
 obtain ⟨⟨sg,x,y⟩,ok⟩:=r
 unfold rtV at HRO
 unfold rtO rtV at HCl
 simp only at HCl HRO ⊢
 go_enter Tryz.func32,Tryz.ntmps32
 go_wp2_with fail
 refine HNU.out.mono ?_
 rintro e w1 ⟨⟨A2,c2,rfl,hr1⟩,hb1⟩
 have HB1:=Lib.hid hb1
 have c0:=cell_sub hb1 HC0.out
 obtain ⟨b2,o2,rfl,_,hn⟩:=hr1.ints (by omega)
 have n0:=hn 0 (by omega)
 rw [nums_at ws 0 (by rw [HL.out];omega)] at n0
 have n1:=hn 1 (by omega)
 rw [nums_at ws 1 (by rw [HL.out];omega)] at n1
 have n2:=hn 2 (by omega)
 rw [nums_at ws 2 (by rw [HL.out];omega)] at n2
 have n3:=hn 3 (by omega)
 rw [nums_at ws 3 (by rw [HL.out];omega)] at n3
 have n4:=hn 4 (by omega)
 rw [nums_at ws 4 (by rw [HL.out];omega)] at n4
 rw [Nat.add_zero] at n0
 clear hb1 hr1 hn HL
 generalize numOf (ws.getD 1 [])=z0 at *
 generalize numOf (ws.getD 2 [])=z1 at *
 generalize numOf (ws.getD 3 [])=z2 at *
 generalize numOf (ws.getD 4 [])=z3 at *
 generalize numOf (ws.getD 5 [])=z4 at *
 go_wp2_with fail
 refine Fr.region_free' [(99,4)] [(99,4,.tmp 97)] (fun _=>99) (fun _=>#[.int .i64 0,.int .i64 0,.int .i64 0]) (fun _=>#[.int .i64 sg,.int .i64 x,.int .i64 y]) 154 (by kernel_rfl) rfl (by kernel_rfl) rfl rfl ?hxq ?hal ?h
 case hxq=>intro s hs e he;simp at hs;subst hs;simp at he;subst he;simp
 case hal=>intro x hx W;simp at hx;subst hx;simp [go_sem]
 case h =>
 apply Exists.intro
 refine ⟨?hW,?hst,?hQ⟩
 case hW =>
  intro A θ hne
  have k0:=fun p:Fr.AftB w1 (fun _=>99) A θ=>p.cell n0
  have k1:=fun p:Fr.AftB w1 (fun _=>99) A θ=>p.cell n1
  have k2:=fun p:Fr.AftB w1 (fun _=>99) A θ=>p.cell n2
  have k3:=fun p:Fr.AftB w1 (fun _=>99) A θ=>p.cell n3
  have k4:=fun p:Fr.AftB w1 (fun _=>99) A θ=>p.cell n4
  simp only [List.filter_cons,List.filter_nil,Fr.isQ,Fr.alOf,Fr.stOf,Option.isNone_none,Option.isNone_some,Bool.and_self,Bool.and_true,Bool.and_false,Bool.false_eq_true,↓reduceIte]
  repeat (go_big_quiet_step ((go_at_call 65;exact Fr.aftB_call _ (HCl.out _))))
  exact wpQuiet_nil rfl
 case hst =>
  intro s hs W g hB
  simp at hs
  subst hs
  exact st_3 (by kernel_rfl) W g _ _ _ (.int .i64 sg) (.int .i64 x) (.int .i64 y) rfl rfl rfl hB
 case hQ =>
  intro A w' hb hals hap
  obtain ⟨hA,hbl⟩:=hals (99,4) (by simp)
  simp only at hA hbl
  have HB2:=Lib.hid (bel_sub HB1.out hb)
  obtain ⟨y1,y2,y3,_,_,_⟩:=blk3 hbl
  clear hals hap hb hbl
  simp only [Fr.putAls,Act.put,List.setIfInBounds_toArray,List.set_cons_succ,List.set_cons_zero]
  generalize A 4=g at *
  go_wp2_with fail
  refine (HRO.out _).mono ?_
  rintro e w4 ⟨rfl,hb4⟩
  have HB4:=Lib.hid (bel_sub HB2.out hb4)
  go_wp2_with fail
  go_ret
  exact ⟨rfl,HB4.out⟩
theorem line_six (b0 off c:Nat) (ws:List (List UInt8)) (w:World) (D:ByteArray) (h:LnOk (some ⟨b0,off,none⟩) b0 off 7 ws w) (hD:bs (ws.getD 0 [])=D) (e0:(D.toList==([103,114,111,117,110,100]:List UInt8))=false) (e1:(D.toList==([116,101,114,109,115]:List UInt8))=false) (e2:(D.toList==([104,117,110,100]:List UInt8))=false) (e3:(D.toList==([108,101,118,101,108,115]:List UInt8))=false) (e4:(D.toList==([102,97,99,116,111,114]:List UInt8))=false) (e5:(D.toList==([99,108,101,98,115,99,104]:List UInt8))=false) (e6:(D.toList==([115,105,120]:List UInt8))=true) :
 Calls Tryz.prog 32 #[.slice (some ⟨b0,off,none⟩) 7 c] w fun e w'=>e=.returned (.string (bs (finT (rqSx (ws.getD 1 []) (ws.getD 2 []) (ws.getD 3 []) (ws.getD 4 []) (ws.getD 5 []) (ws.getD 6 [])))))∧Below w.heap.size w w':=by
 have HNU:=Lib.hid (l51Numbers_any (some ⟨b0,off,none⟩) 7 c ws w h.hl h.h1 h.hn h.hm (h.hA ▸ h.hr))
 have c0:=h.hc 0 h.h1
 rw [hD,Nat.add_zero] at c0
 have HC0:=Lib.hid c0
 clear hD c0
 have HL:=Lib.hid h.hl
 have HCl:=Lib.hid (fun W=>specSixJ_any (numOf (ws.getD 1 [])) (numOf (ws.getD 2 [])) (numOf (ws.getD 3 [])) (numOf (ws.getD 4 [])) (numOf (ws.getD 5 [])) (numOf (ws.getD 6 [])) W)
 clear h
 have HY:Hid (finT (rqSx (ws.getD 1 []) (ws.getD 2 []) (ws.getD 3 []) (ws.getD 4 []) (ws.getD 5 []) (ws.getD 6 []))=finT (rootT (sxJ (numOf (ws.getD 1 [])) (numOf (ws.getD 2 [])) (numOf (ws.getD 3 [])) (numOf (ws.getD 4 [])) (numOf (ws.getD 5 [])) (numOf (ws.getD 6 []))).1,(sxJ (numOf (ws.getD 1 [])) (numOf (ws.getD 2 [])) (numOf (ws.getD 3 [])) (numOf (ws.getD 4 [])) (numOf (ws.getD 5 [])) (numOf (ws.getD 6 []))).2)):=rfl
 rw [HY.out]
 clear HY
 obtain ⟨r,hr⟩:∃r,sxJ (numOf (ws.getD 1 [])) (numOf (ws.getD 2 [])) (numOf (ws.getD 3 [])) (numOf (ws.getD 4 [])) (numOf (ws.getD 5 [])) (numOf (ws.getD 6 []))=r:=⟨_,rfl⟩
 rw [hr] at HCl ⊢
 clear hr
 have HRO:=Lib.hid (fun W=>l51Root_any r W)
 obtain ⟨⟨sg,x,y⟩,ok⟩:=r
 unfold rtV at HRO
 unfold rtO rtV at HCl
 simp only at HCl HRO ⊢
 go_enter Tryz.func32,Tryz.ntmps32
 go_wp2_with fail
 refine HNU.out.mono ?_
 rintro e w1 ⟨⟨A2,c2,rfl,hr1⟩,hb1⟩
 have HB1:=Lib.hid hb1
 have c0:=cell_sub hb1 HC0.out
 obtain ⟨b2,o2,rfl,_,hn⟩:=hr1.ints (by omega)
 have n0:=hn 0 (by omega)
 rw [nums_at ws 0 (by rw [HL.out];omega)] at n0
 have n1:=hn 1 (by omega)
 rw [nums_at ws 1 (by rw [HL.out];omega)] at n1
 have n2:=hn 2 (by omega)
 rw [nums_at ws 2 (by rw [HL.out];omega)] at n2
 have n3:=hn 3 (by omega)
 rw [nums_at ws 3 (by rw [HL.out];omega)] at n3
 have n4:=hn 4 (by omega)
 rw [nums_at ws 4 (by rw [HL.out];omega)] at n4
 have n5:=hn 5 (by omega)
 rw [nums_at ws 5 (by rw [HL.out];omega)] at n5
 rw [Nat.add_zero] at n0
 clear hb1 hr1 hn HL
 generalize numOf (ws.getD 1 [])=z0 at *
 generalize numOf (ws.getD 2 [])=z1 at *
 generalize numOf (ws.getD 3 [])=z2 at *
 generalize numOf (ws.getD 4 [])=z3 at *
 generalize numOf (ws.getD 5 [])=z4 at *
 generalize numOf (ws.getD 6 [])=z5 at *
 go_wp2_with fail
 refine Fr.region_free' [(99,6)] [(99,6,.tmp 132)] (fun _=>99) (fun _=>#[.int .i64 0,.int .i64 0,.int .i64 0]) (fun _=>#[.int .i64 sg,.int .i64 x,.int .i64 y]) 154 (by kernel_rfl) rfl (by kernel_rfl) rfl rfl ?hxq ?hal ?h
 case hxq=>intro s hs e he;simp at hs;subst hs;simp at he;subst he;simp
 case hal=>intro x hx W;simp at hx;subst hx;simp [go_sem]
 case h =>
 apply Exists.intro
 refine ⟨?hW,?hst,?hQ⟩
 case hW =>
  intro A θ hne
  have k0:=fun p:Fr.AftB w1 (fun _=>99) A θ=>p.cell n0
  have k1:=fun p:Fr.AftB w1 (fun _=>99) A θ=>p.cell n1
  have k2:=fun p:Fr.AftB w1 (fun _=>99) A θ=>p.cell n2
  have k3:=fun p:Fr.AftB w1 (fun _=>99) A θ=>p.cell n3
  have k4:=fun p:Fr.AftB w1 (fun _=>99) A θ=>p.cell n4
  have k5:=fun p:Fr.AftB w1 (fun _=>99) A θ=>p.cell n5
  simp only [List.filter_cons,List.filter_nil,Fr.isQ,Fr.alOf,Fr.stOf,Option.isNone_none,Option.isNone_some,Bool.and_self,Bool.and_true,Bool.and_false,Bool.false_eq_true,↓reduceIte]
  repeat (go_big_quiet_step ((go_at_call 67;exact Fr.aftB_call _ (HCl.out _))))
  exact wpQuiet_nil rfl
 case hst =>
  intro s hs W g hB
  simp at hs
  subst hs
  exact st_3 (by kernel_rfl) W g _ _ _ (.int .i64 sg) (.int .i64 x) (.int .i64 y) rfl rfl rfl hB
 case hQ =>
  intro A w' hb hals hap
  obtain ⟨hA,hbl⟩:=hals (99,6) (by simp)
  simp only at hA hbl
  have HB2:=Lib.hid (bel_sub HB1.out hb)
  obtain ⟨y1,y2,y3,_,_,_⟩:=blk3 hbl
  clear hals hap hb hbl
  simp only [Fr.putAls,Act.put,List.setIfInBounds_toArray,List.set_cons_succ,List.set_cons_zero]
  generalize A 6=g at *
  go_wp2_with fail
  refine (HRO.out _).mono ?_
  rintro e w4 ⟨rfl,hb4⟩
  have HB4:=Lib.hid (bel_sub HB2.out hb4)
  go_wp2_with fail
  go_ret
  exact ⟨rfl,HB4.out⟩
theorem line_spl (b0 off c:Nat) (ws:List (List UInt8)) (w:World) (D:ByteArray) (h:LnOk (some ⟨b0,off,none⟩) b0 off 3 ws w) (hD:bs (ws.getD 0 [])=D) (e0:(D.toList==([103,114,111,117,110,100]:List UInt8))=false) (e1:(D.toList==([116,101,114,109,115]:List UInt8))=false) (e2:(D.toList==([104,117,110,100]:List UInt8))=false) (e3:(D.toList==([108,101,118,101,108,115]:List UInt8))=false) (e4:(D.toList==([102,97,99,116,111,114]:List UInt8))=false) (e5:(D.toList==([99,108,101,98,115,99,104]:List UInt8))=false) (e6:(D.toList==([115,105,120]:List UInt8))=false) (e7:(D.toList==([115,112,108,105,116]:List UInt8))=true) :
 Calls Tryz.prog 32 #[.slice (some ⟨b0,off,none⟩) 3 c] w fun e w'=>e=.returned (.string (bs (finT (rqSpl (ws.getD 1 []) (ws.getD 2 [])))))∧Below w.heap.size w w':=by
 have HNU:=Lib.hid (l51Numbers_any (some ⟨b0,off,none⟩) 3 c ws w h.hl h.h1 h.hn h.hm (h.hA ▸ h.hr))
 have c0:=h.hc 0 h.h1
 rw [hD,Nat.add_zero] at c0
 have HC0:=Lib.hid c0
 clear hD c0
 have HAR:=Lib.hid (fun W=>l51Split_any (ws.getD 1 []) (ws.getD 2 []) W (Nat.le_trans (h.hm 1) (by omega)) (Nat.le_trans (h.hm 2) (by omega)))
 have HC1:=Lib.hid (h.hc 1 (by omega))
 have HC2:=Lib.hid (h.hc 2 (by omega))
 clear h
 generalize bs (finT (rqSpl (ws.getD 1 []) (ws.getD 2 [])))=Y at *
 generalize bs (ws.getD 1 [])=X1 at *
 generalize bs (ws.getD 2 [])=X2 at *
 go_enter Tryz.func32,Tryz.ntmps32
 go_wp2_with fail
 refine HNU.out.mono ?_
 rintro e w1 ⟨⟨A2,c2,rfl,hr1⟩,hb1⟩
 have HB1:=Lib.hid hb1
 have c0:=cell_sub hb1 HC0.out
 have c1:=After.cell (cell_sub hb1 HC1.out)
 have c2:=After.cell (cell_sub hb1 HC2.out)
 clear hb1 hr1
 go_wp2_with fail
 refine wp_region_after (by kernel_rfl) (by kernel_rfl) ?_
 repeat (go_big_quiet_step ((go_at_call 68;exact after_call _ (HAR.out _))))
 refine wpQuiet_nil ?_
 intro w9 hw'
 obtain ⟨⟨w9',hb9⟩,hw''⟩:=hw'
 subst hw''
 have HB9:=Lib.hid (bel_sub HB1.out hb9)
 clear hb9
 go_wp2_with fail
 go_ret
 exact ⟨rfl,HB9.out⟩
end
end Go.Proofs.YtjdfbnlaiiknpaaGreatDoor
