/- Parts of the proof of : Le. -/
import Derived.Test.YtjdfbnlaiiknpaaGreatDoorQ40
import Derived.Test.YtjdfbnlaiiknpaaGreatDoorQ41
set_option maxHeartbeats 20000000
set_option maxRecDepth 1000000
set_option linter.unusedSimpArgs false
set_option linter.unusedVariables false
namespace Go.Proofs.YtjdfbnlaiiknpaaGreatDoor
section
open Go.RowKit
theorem toL_eq (x X:List UInt8):((bs x).toList==X)=decide (x=X):=by
 have:=bs_eq x X
 rwa [show (bs X).toList=X from ByteArray.toList_mk X] at this
theorem ans_gro (ws:List (List UInt8)) (h0:ws.getD 0 []=groW):ansW ws=if ws.length=2 then finT (rqGr (ws.getD 1 [])) else whatL:=by
 unfold ansW
 rw [if_pos h0]
theorem ans_ter (ws:List (List UInt8)) (h0:ws.getD 0 []=terW):ansW ws=if 1<ws.length then finT (rqTe (Lib.join (ws.drop 1) [32])) else whatL:=by
 unfold ansW
 rw [if_neg (show ¬ws.getD 0 []=groW by rw [h0];decide),if_pos h0]
theorem ans_hun (ws:List (List UInt8)) (h0:ws.getD 0 []=hunW):ansW ws=if 1<ws.length then finT (rqHu (Lib.join (ws.drop 1) [32])) else whatL:=by
 unfold ansW
 rw [if_neg (show ¬ws.getD 0 []=groW by rw [h0];decide),if_neg (show ¬ws.getD 0 []=terW by rw [h0];decide),if_pos h0]
theorem ans_lev (ws:List (List UInt8)) (h0:ws.getD 0 []=lvW):ansW ws=if ws.length=2 then finT (rqLe (ws.getD 1 [])) else whatL:=by
 unfold ansW
 rw [if_neg (show ¬ws.getD 0 []=groW by rw [h0];decide),if_neg (show ¬ws.getD 0 []=terW by rw [h0];decide),if_neg (show ¬ws.getD 0 []=hunW by rw [h0];decide),if_pos h0]
theorem ans_fac (ws:List (List UInt8)) (h0:ws.getD 0 []=facC):ansW ws=if ws.length=2 then finT (rqFac (ws.getD 1 [])) else whatL:=by
 unfold ansW
 rw [if_neg (show ¬ws.getD 0 []=groW by rw [h0];decide),if_neg (show ¬ws.getD 0 []=terW by rw [h0];decide),if_neg (show ¬ws.getD 0 []=hunW by rw [h0];decide),if_neg (show ¬ws.getD 0 []=lvW by rw [h0];decide),if_pos h0]
theorem ans_cle (ws:List (List UInt8)) (h0:ws.getD 0 []=cleC):ansW ws=if ws.length=6 then finT (rqCl (ws.getD 1 []) (ws.getD 2 []) (ws.getD 3 []) (ws.getD 4 []) (ws.getD 5 [])) else whatL:=by
 unfold ansW
 rw [if_neg (show ¬ws.getD 0 []=groW by rw [h0];decide),if_neg (show ¬ws.getD 0 []=terW by rw [h0];decide),if_neg (show ¬ws.getD 0 []=hunW by rw [h0];decide),if_neg (show ¬ws.getD 0 []=lvW by rw [h0];decide),if_neg (show ¬ws.getD 0 []=facC by rw [h0];decide),if_pos h0]
theorem ans_six (ws:List (List UInt8)) (h0:ws.getD 0 []=sixC):ansW ws=if ws.length=7 then finT (rqSx (ws.getD 1 []) (ws.getD 2 []) (ws.getD 3 []) (ws.getD 4 []) (ws.getD 5 []) (ws.getD 6 [])) else whatL:=by
 unfold ansW
 rw [if_neg (show ¬ws.getD 0 []=groW by rw [h0];decide),if_neg (show ¬ws.getD 0 []=terW by rw [h0];decide),if_neg (show ¬ws.getD 0 []=hunW by rw [h0];decide),if_neg (show ¬ws.getD 0 []=lvW by rw [h0];decide),if_neg (show ¬ws.getD 0 []=facC by rw [h0];decide),if_neg (show ¬ws.getD 0 []=cleC by rw [h0];decide),if_pos h0]
theorem ans_spl (ws:List (List UInt8)) (h0:ws.getD 0 []=splC):ansW ws=if ws.length=3 then finT (rqSpl (ws.getD 1 []) (ws.getD 2 [])) else whatL:=by
 unfold ansW
 rw [if_neg (show ¬ws.getD 0 []=groW by rw [h0];decide),if_neg (show ¬ws.getD 0 []=terW by rw [h0];decide),if_neg (show ¬ws.getD 0 []=hunW by rw [h0];decide),if_neg (show ¬ws.getD 0 []=lvW by rw [h0];decide),if_neg (show ¬ws.getD 0 []=facC by rw [h0];decide),if_neg (show ¬ws.getD 0 []=cleC by rw [h0];decide),if_neg (show ¬ws.getD 0 []=sixC by rw [h0];decide),if_pos h0]
theorem ans_none (ws:List (List UInt8)) (h0:¬ws.getD 0 []=groW) (h1:¬ws.getD 0 []=terW) (h2:¬ws.getD 0 []=hunW) (h3:¬ws.getD 0 []=lvW) (h4:¬ws.getD 0 []=facC) (h5:¬ws.getD 0 []=cleC) (h6:¬ws.getD 0 []=sixC) (h7:¬ws.getD 0 []=splC):ansW ws=whatL:=by
 unfold ansW
 rw [if_neg h0,if_neg h1,if_neg h2,if_neg h3,if_neg h4,if_neg h5,if_neg h6,if_neg h7]
theorem l51Line_any (b0 off n c:Nat) (ws:List (List UInt8)) (w:World) (h:LnOk (some ⟨b0,off,none⟩) b0 off n ws w) :
 Calls Tryz.prog 32 #[.slice (some ⟨b0,off,none⟩) n c] w fun e w'=>e=.returned (.string (bs (ansW ws)))∧Below w.heap.size w w':=by
 by_cases h0:ws.getD 0 []=groW
 ·rw [ans_gro ws h0]
  by_cases hn:n=2
  ·subst hn
   rw [if_pos h.hl]
   exact line_gro b0 off c ws w _ h rfl ((toL_eq _ _).trans (decide_eq_true h0))
  ·rw [if_neg (by rw [h.hl];exact hn)]
   exact line_gro_no b0 off n c ws w _ h rfl ((toL_eq _ _).trans (decide_eq_true h0)) ((toL_eq _ _).trans (decide_eq_false (by rw [h0];decide))) ((toL_eq _ _).trans (decide_eq_false (by rw [h0];decide))) ((toL_eq _ _).trans (decide_eq_false (by rw [h0];decide))) ((toL_eq _ _).trans (decide_eq_false (by rw [h0];decide))) ((toL_eq _ _).trans (decide_eq_false (by rw [h0];decide))) ((toL_eq _ _).trans (decide_eq_false (by rw [h0];decide))) ((toL_eq _ _).trans (decide_eq_false (by rw [h0];decide))) (by simp;omega)
 have g0:=h0;clear h0
 by_cases h0:ws.getD 0 []=terW
 ·rw [ans_ter ws h0]
  by_cases hn:1<n
  ·rw [if_pos (by rw [h.hl];exact hn)]
   exact line_ter b0 off n c ws w _ h rfl ((toL_eq _ _).trans (decide_eq_false (by rw [h0];decide))) ((toL_eq _ _).trans (decide_eq_true h0)) h0 hn
  ·rw [if_neg (by rw [h.hl];exact hn)]
   have h1:=h.h1
   obtain rfl:n=1:=by omega
   exact line_ter_no b0 off c ws w _ h rfl ((toL_eq _ _).trans (decide_eq_false (by rw [h0];decide))) ((toL_eq _ _).trans (decide_eq_true h0)) ((toL_eq _ _).trans (decide_eq_false (by rw [h0];decide))) ((toL_eq _ _).trans (decide_eq_false (by rw [h0];decide))) ((toL_eq _ _).trans (decide_eq_false (by rw [h0];decide))) ((toL_eq _ _).trans (decide_eq_false (by rw [h0];decide))) ((toL_eq _ _).trans (decide_eq_false (by rw [h0];decide)))
 have g1:=h0;clear h0
 by_cases h0:ws.getD 0 []=hunW
 ·rw [ans_hun ws h0]
  by_cases hn:1<n
  ·rw [if_pos (by rw [h.hl];exact hn)]
   exact line_hun b0 off n c ws w _ h rfl ((toL_eq _ _).trans (decide_eq_false (by rw [h0];decide))) ((toL_eq _ _).trans (decide_eq_false (by rw [h0];decide))) ((toL_eq _ _).trans (decide_eq_true h0)) h0 hn
  ·rw [if_neg (by rw [h.hl];exact hn)]
   have h1:=h.h1
   obtain rfl:n=1:=by omega
   exact line_hun_no b0 off c ws w _ h rfl ((toL_eq _ _).trans (decide_eq_false (by rw [h0];decide))) ((toL_eq _ _).trans (decide_eq_false (by rw [h0];decide))) ((toL_eq _ _).trans (decide_eq_true h0)) ((toL_eq _ _).trans (decide_eq_false (by rw [h0];decide))) ((toL_eq _ _).trans (decide_eq_false (by rw [h0];decide))) ((toL_eq _ _).trans (decide_eq_false (by rw [h0];decide))) ((toL_eq _ _).trans (decide_eq_false (by rw [h0];decide))) ((toL_eq _ _).trans (decide_eq_false (by rw [h0];decide)))
 have g2:=h0;clear h0
 by_cases h0:ws.getD 0 []=lvW
 ·rw [ans_lev ws h0]
  by_cases hn:n=2
  ·subst hn
   rw [if_pos h.hl]
   exact line_lev b0 off c ws w _ h rfl ((toL_eq _ _).trans (decide_eq_false (by rw [h0];decide))) ((toL_eq _ _).trans (decide_eq_false (by rw [h0];decide))) ((toL_eq _ _).trans (decide_eq_false (by rw [h0];decide))) ((toL_eq _ _).trans (decide_eq_true h0))
  ·rw [if_neg (by rw [h.hl];exact hn)]
   exact line_lev_no b0 off n c ws w _ h rfl ((toL_eq _ _).trans (decide_eq_false (by rw [h0];decide))) ((toL_eq _ _).trans (decide_eq_false (by rw [h0];decide))) ((toL_eq _ _).trans (decide_eq_false (by rw [h0];decide))) ((toL_eq _ _).trans (decide_eq_true h0)) ((toL_eq _ _).trans (decide_eq_false (by rw [h0];decide))) ((toL_eq _ _).trans (decide_eq_false (by rw [h0];decide))) ((toL_eq _ _).trans (decide_eq_false (by rw [h0];decide))) ((toL_eq _ _).trans (decide_eq_false (by rw [h0];decide))) (by simp;omega)
 have g3:=h0;clear h0
 by_cases h0:ws.getD 0 []=facC
 ·rw [ans_fac ws h0]
  by_cases hn:n=2
  ·subst hn
   rw [if_pos h.hl]
   exact line_fac b0 off c ws w _ h rfl ((toL_eq _ _).trans (decide_eq_false (by rw [h0];decide))) ((toL_eq _ _).trans (decide_eq_false (by rw [h0];decide))) ((toL_eq _ _).trans (decide_eq_false (by rw [h0];decide))) ((toL_eq _ _).trans (decide_eq_false (by rw [h0];decide))) ((toL_eq _ _).trans (decide_eq_true h0))
  ·rw [if_neg (by rw [h.hl];exact hn)]
   exact line_fac_no b0 off n c ws w _ h rfl ((toL_eq _ _).trans (decide_eq_false (by rw [h0];decide))) ((toL_eq _ _).trans (decide_eq_false (by rw [h0];decide))) ((toL_eq _ _).trans (decide_eq_false (by rw [h0];decide))) ((toL_eq _ _).trans (decide_eq_false (by rw [h0];decide))) ((toL_eq _ _).trans (decide_eq_true h0)) ((toL_eq _ _).trans (decide_eq_false (by rw [h0];decide))) ((toL_eq _ _).trans (decide_eq_false (by rw [h0];decide))) ((toL_eq _ _).trans (decide_eq_false (by rw [h0];decide))) (by simp;omega)
 have g4:=h0;clear h0
 by_cases h0:ws.getD 0 []=cleC
 ·rw [ans_cle ws h0]
  by_cases hn:n=6
  ·subst hn
   rw [if_pos h.hl]
   exact line_cle b0 off c ws w _ h rfl ((toL_eq _ _).trans (decide_eq_false (by rw [h0];decide))) ((toL_eq _ _).trans (decide_eq_false (by rw [h0];decide))) ((toL_eq _ _).trans (decide_eq_false (by rw [h0];decide))) ((toL_eq _ _).trans (decide_eq_false (by rw [h0];decide))) ((toL_eq _ _).trans (decide_eq_false (by rw [h0];decide))) ((toL_eq _ _).trans (decide_eq_true h0))
  ·rw [if_neg (by rw [h.hl];exact hn)]
   exact line_cle_no b0 off n c ws w _ h rfl ((toL_eq _ _).trans (decide_eq_false (by rw [h0];decide))) ((toL_eq _ _).trans (decide_eq_false (by rw [h0];decide))) ((toL_eq _ _).trans (decide_eq_false (by rw [h0];decide))) ((toL_eq _ _).trans (decide_eq_false (by rw [h0];decide))) ((toL_eq _ _).trans (decide_eq_false (by rw [h0];decide))) ((toL_eq _ _).trans (decide_eq_true h0)) ((toL_eq _ _).trans (decide_eq_false (by rw [h0];decide))) ((toL_eq _ _).trans (decide_eq_false (by rw [h0];decide))) (by simp;omega)
 have g5:=h0;clear h0
 by_cases h0:ws.getD 0 []=sixC
 ·rw [ans_six ws h0]
  by_cases hn:n=7
  ·subst hn
   rw [if_pos h.hl]
   exact line_six b0 off c ws w _ h rfl ((toL_eq _ _).trans (decide_eq_false (by rw [h0];decide))) ((toL_eq _ _).trans (decide_eq_false (by rw [h0];decide))) ((toL_eq _ _).trans (decide_eq_false (by rw [h0];decide))) ((toL_eq _ _).trans (decide_eq_false (by rw [h0];decide))) ((toL_eq _ _).trans (decide_eq_false (by rw [h0];decide))) ((toL_eq _ _).trans (decide_eq_false (by rw [h0];decide))) ((toL_eq _ _).trans (decide_eq_true h0))
  ·rw [if_neg (by rw [h.hl];exact hn)]
   exact line_six_no b0 off n c ws w _ h rfl ((toL_eq _ _).trans (decide_eq_false (by rw [h0];decide))) ((toL_eq _ _).trans (decide_eq_false (by rw [h0];decide))) ((toL_eq _ _).trans (decide_eq_false (by rw [h0];decide))) ((toL_eq _ _).trans (decide_eq_false (by rw [h0];decide))) ((toL_eq _ _).trans (decide_eq_false (by rw [h0];decide))) ((toL_eq _ _).trans (decide_eq_false (by rw [h0];decide))) ((toL_eq _ _).trans (decide_eq_true h0)) ((toL_eq _ _).trans (decide_eq_false (by rw [h0];decide))) (by simp;omega)
 have g6:=h0;clear h0
 by_cases h0:ws.getD 0 []=splC
 ·rw [ans_spl ws h0]
  by_cases hn:n=3
  ·subst hn
   rw [if_pos h.hl]
   exact line_spl b0 off c ws w _ h rfl ((toL_eq _ _).trans (decide_eq_false (by rw [h0];decide))) ((toL_eq _ _).trans (decide_eq_false (by rw [h0];decide))) ((toL_eq _ _).trans (decide_eq_false (by rw [h0];decide))) ((toL_eq _ _).trans (decide_eq_false (by rw [h0];decide))) ((toL_eq _ _).trans (decide_eq_false (by rw [h0];decide))) ((toL_eq _ _).trans (decide_eq_false (by rw [h0];decide))) ((toL_eq _ _).trans (decide_eq_false (by rw [h0];decide))) ((toL_eq _ _).trans (decide_eq_true h0))
  ·rw [if_neg (by rw [h.hl];exact hn)]
   exact line_spl_no b0 off n c ws w _ h rfl ((toL_eq _ _).trans (decide_eq_false (by rw [h0];decide))) ((toL_eq _ _).trans (decide_eq_false (by rw [h0];decide))) ((toL_eq _ _).trans (decide_eq_false (by rw [h0];decide))) ((toL_eq _ _).trans (decide_eq_false (by rw [h0];decide))) ((toL_eq _ _).trans (decide_eq_false (by rw [h0];decide))) ((toL_eq _ _).trans (decide_eq_false (by rw [h0];decide))) ((toL_eq _ _).trans (decide_eq_false (by rw [h0];decide))) ((toL_eq _ _).trans (decide_eq_true h0)) (by simp;omega)
 have g7:=h0;clear h0
 rw [ans_none ws g0 g1 g2 g3 g4 g5 g6 g7]
 exact line_none b0 off n c ws w _ h rfl ((toL_eq _ _).trans (decide_eq_false g0)) ((toL_eq _ _).trans (decide_eq_false g1)) ((toL_eq _ _).trans (decide_eq_false g2)) ((toL_eq _ _).trans (decide_eq_false g3)) ((toL_eq _ _).trans (decide_eq_false g4)) ((toL_eq _ _).trans (decide_eq_false g5)) ((toL_eq _ _).trans (decide_eq_false g6)) ((toL_eq _ _).trans (decide_eq_false g7))
theorem wcs_at (ws:List (List UInt8)) (k:Nat) (h:k<ws.length):(wcs ws)[k]?=some (.string (bs (ws.getD k []))):=by
 unfold wcs
 rw [List.getElem?_toArray,List.getElem?_map,List.getD_eq_getElem?_getD,List.getElem?_eq_getElem h];rfl
theorem cmd_none (l:List UInt8) (h0:¬l=groW) (h1:¬l=terW) (h2:¬l=hunW) (h3:¬l=lvW) (h4:¬l=facC) (h5:¬l=cleC) (h6:¬l=sixC) (h7:¬l=splC):cmdOf l=none:=by
 simp only [cmdOf,reqL,List.foldl,if_neg (show ¬l=[103,114,111,117,110,100] from h0),if_neg (show ¬l=[116,101,114,109,115] from h1),if_neg (show ¬l=[104,117,110,100] from h2),if_neg (show ¬l=[108,101,118,101,108,115] from h3),if_neg (show ¬l=[102,97,99,116,111,114] from h4),if_neg (show ¬l=[99,108,101,98,115,99,104] from h5),if_neg (show ¬l=[115,105,120] from h6),if_neg (show ¬l=[115,112,108,105,116] from h7)]
theorem fin_bs (r:List UInt8 × Bool):(if r.2=true then bs r.1 else noT)=bs (finT r):=by
 obtain ⟨x,b⟩:=r
 cases b <;> rfl
structure LwOk (n:Nat) (ws:List (List UInt8)) (w:World):Prop where
 hl:ws.length=n
 h1:1≤n
 hn:n≤1000
 hm:∀k,(ws.getD k []).length≤1000
 hj:(Lib.join (ws.drop 1) [32]).length≤900
 ht:Tab w
 hx:Mx w
 he:Er w
 hE:Ers w
 hd:Mi.Dbt w
theorem answer_all (b n:Nat) (ws:List (List UInt8)) (w:World) (h:LwOk n ws w) (hb:Blk w b 9 (wcs ws)) :
 Calls Tryz.prog 25 #[.slice (some ⟨b,0,none⟩) n n] w fun e w'=>e=.returned (.string (bs (ansW ws)))∧Below w.heap.size w w':=by
 have h00:ws[0]?=some (ws.getD 0 []):=by rw [List.getD_eq_getElem?_getD,List.getElem?_eq_getElem (show 0<ws.length by rw [h.hl];exact h.h1)];rfl
 by_cases h0:ws.getD 0 []=groW
 ·have hc:cmdOf (ws.getD 0 [])=some 85:=by rw [h0];decide +kernel
  rw [ans_gro ws h0]
  by_cases hn:n=2
  ·subst hn
   rw [if_pos h.hl,←fin_bs]
   exact answer_any b 2 ws _ 85 (bs (rqGr (ws.getD 1 [])).1) (rqGr (ws.getD 1 [])).2 w h.hl h00 (h.hm 0) (by omega) hb hc (enters_of Tryz.func85 (by kernel_rfl) rfl) (fun W hW=>reqGround_any (ws.getD 1 []) b W (h.hm 1) (Nat.lt_of_lt_of_le hb.lt hW.size) (((hb.sub hW).cell 1).trans (wcs_at ws 1 (by rw [h.hl];omega))))
  ·rw [if_neg (by rw [h.hl];exact hn)]
   exact answer_mal b n ws _ 85 w h.hl h00 (h.hm 0) h.hn hb hc (enters_of Tryz.func85 (by kernel_rfl) rfl) (fun W hW=>ground_mal _ _ _ W (by have:=h.h1;omega))
 have g0:=h0;clear h0
 by_cases h0:ws.getD 0 []=terW
 ·have hc:cmdOf (ws.getD 0 [])=some 86:=by rw [h0];decide +kernel
  rw [ans_ter ws h0]
  by_cases hn:1<n
  ·rw [if_pos (by rw [h.hl];exact hn),←fin_bs]
   exact answer_any b n ws _ 86 (bs (rqTe (Lib.join (ws.drop 1) [32])).1) (rqTe (Lib.join (ws.drop 1) [32])).2 w h.hl h00 (h.hm 0) h.hn hb hc (enters_of Tryz.func86 (by kernel_rfl) rfl) (fun W hW=>by
    rw [if_neg (show ¬n=1 by omega)]
    exact reqTerms_all b (n-1) (ws.drop 1) W (by rw [List.length_drop,h.hl]) (by omega) (by have:=h.hn;omega) h.hj (Nat.lt_of_lt_of_le hb.lt hW.size) (fun i hi=>by
     have hg:(ws.drop 1).getD i []=ws.getD (1+i) []:=by rw [List.getD_eq_getElem?_getD,List.getElem?_drop,List.getD_eq_getElem?_getD]
     rw [hg]
     exact ((hb.sub hW).cell (1+i)).trans (wcs_at ws (1+i) (by rw [h.hl];omega))) (h.he.on hW) (h.hx.on hW) (h.hd.on hW))
  ·rw [if_neg (by rw [h.hl];exact hn)]
   have h1:=h.h1
   obtain rfl:n=1:=by omega
   exact answer_mal b 1 ws _ 86 w h.hl h00 (h.hm 0) h.hn hb hc (enters_of Tryz.func86 (by kernel_rfl) rfl) (fun W hW=>terms_mal _ _ W)
 have g1:=h0;clear h0
 by_cases h0:ws.getD 0 []=hunW
 ·have hc:cmdOf (ws.getD 0 [])=some 87:=by rw [h0];decide +kernel
  rw [ans_hun ws h0]
  by_cases hn:1<n
  ·rw [if_pos (by rw [h.hl];exact hn),←fin_bs]
   exact answer_any b n ws _ 87 (bs (rqHu (Lib.join (ws.drop 1) [32])).1) (rqHu (Lib.join (ws.drop 1) [32])).2 w h.hl h00 (h.hm 0) h.hn hb hc (enters_of Tryz.func87 (by kernel_rfl) rfl) (fun W hW=>by
    rw [if_neg (show ¬n=1 by omega)]
    exact reqHund_all b (n-1) (ws.drop 1) W (by rw [List.length_drop,h.hl]) (by omega) (by have:=h.hn;omega) h.hj (Nat.lt_of_lt_of_le hb.lt hW.size) (fun i hi=>by
     have hg:(ws.drop 1).getD i []=ws.getD (1+i) []:=by rw [List.getD_eq_getElem?_getD,List.getElem?_drop,List.getD_eq_getElem?_getD]
     rw [hg]
     exact ((hb.sub hW).cell (1+i)).trans (wcs_at ws (1+i) (by rw [h.hl];omega))) (h.he.on hW) (h.hx.on hW))
  ·rw [if_neg (by rw [h.hl];exact hn)]
   have h1:=h.h1
   obtain rfl:n=1:=by omega
   exact answer_mal b 1 ws _ 87 w h.hl h00 (h.hm 0) h.hn hb hc (enters_of Tryz.func87 (by kernel_rfl) rfl) (fun W hW=>hund_mal _ _ W)
 have g2:=h0;clear h0
 by_cases h0:ws.getD 0 []=lvW
 ·have hc:cmdOf (ws.getD 0 [])=some 88:=by rw [h0];decide +kernel
  rw [ans_lev ws h0]
  by_cases hn:n=2
  ·subst hn
   rw [if_pos h.hl,←fin_bs]
   exact answer_any b 2 ws _ 88 (bs (rqLe (ws.getD 1 [])).1) (rqLe (ws.getD 1 [])).2 w h.hl h00 (h.hm 0) (by omega) hb hc (enters_of Tryz.func88 (by kernel_rfl) rfl) (fun W hW=>reqLevels_all (ws.getD 1 []) b W (Nat.le_trans (h.hm 1) (by omega)) (Nat.lt_of_lt_of_le hb.lt hW.size) (((hb.sub hW).cell 1).trans (wcs_at ws 1 (by rw [h.hl];omega))))
  ·rw [if_neg (by rw [h.hl];exact hn)]
   exact answer_mal b n ws _ 88 w h.hl h00 (h.hm 0) h.hn hb hc (enters_of Tryz.func88 (by kernel_rfl) rfl) (fun W hW=>levels_mal _ _ _ W (by have:=h.h1;omega))
 have g3:=h0;clear h0
 by_cases h0:ws.getD 0 []=facC
 ·have hc:cmdOf (ws.getD 0 [])=some 89:=by rw [h0];decide +kernel
  rw [ans_fac ws h0]
  by_cases hn:n=2
  ·subst hn
   rw [if_pos h.hl,←fin_bs]
   exact answer_any b 2 ws _ 89 (bs (rqFac (ws.getD 1 [])).1) (rqFac (ws.getD 1 [])).2 w h.hl h00 (h.hm 0) (by omega) hb hc (enters_of Tryz.func89 (by kernel_rfl) rfl) (fun W hW=>reqFactor_any (ws.getD 1 []) b W (Nat.le_trans (h.hm 1) (by omega)) (Nat.lt_of_lt_of_le hb.lt hW.size) (((hb.sub hW).cell 1).trans (wcs_at ws 1 (by rw [h.hl];omega))) (h.hE.on hW) (h.ht.on hW))
  ·rw [if_neg (by rw [h.hl];exact hn)]
   exact answer_mal b n ws _ 89 w h.hl h00 (h.hm 0) h.hn hb hc (enters_of Tryz.func89 (by kernel_rfl) rfl) (fun W hW=>factor_mal _ _ _ W (by have:=h.h1;omega))
 have g4:=h0;clear h0
 by_cases h0:ws.getD 0 []=cleC
 ·have hc:cmdOf (ws.getD 0 [])=some 90:=by rw [h0];decide +kernel
  rw [ans_cle ws h0]
  by_cases hn:n=6
  ·subst hn
   rw [if_pos h.hl,←fin_bs]
   exact answer_any b 6 ws _ 90 (bs (rqCl (ws.getD 1 []) (ws.getD 2 []) (ws.getD 3 []) (ws.getD 4 []) (ws.getD 5 [])).1) (rqCl (ws.getD 1 []) (ws.getD 2 []) (ws.getD 3 []) (ws.getD 4 []) (ws.getD 5 [])).2 w h.hl h00 (h.hm 0) (by omega) hb hc (enters_of Tryz.func90 (by kernel_rfl) rfl) (fun W hW=>reqClebsch_any (ws.getD 1 []) (ws.getD 2 []) (ws.getD 3 []) (ws.getD 4 []) (ws.getD 5 []) b W (h.hm 1) (h.hm 2) (h.hm 3) (h.hm 4) (h.hm 5) (Nat.lt_of_lt_of_le hb.lt hW.size) (((hb.sub hW).cell 1).trans (wcs_at ws 1 (by rw [h.hl];omega))) (((hb.sub hW).cell 2).trans (wcs_at ws 2 (by rw [h.hl];omega))) (((hb.sub hW).cell 3).trans (wcs_at ws 3 (by rw [h.hl];omega))) (((hb.sub hW).cell 4).trans (wcs_at ws 4 (by rw [h.hl];omega))) (((hb.sub hW).cell 5).trans (wcs_at ws 5 (by rw [h.hl];omega))) (h.ht.on hW))
  ·rw [if_neg (by rw [h.hl];exact hn)]
   exact answer_mal b n ws _ 90 w h.hl h00 (h.hm 0) h.hn hb hc (enters_of Tryz.func90 (by kernel_rfl) rfl) (fun W hW=>clebsch_mal _ _ _ W (by have:=h.h1;omega))
 have g5:=h0;clear h0
 by_cases h0:ws.getD 0 []=sixC
 ·have hc:cmdOf (ws.getD 0 [])=some 91:=by rw [h0];decide +kernel
  rw [ans_six ws h0]
  by_cases hn:n=7
  ·subst hn
   rw [if_pos h.hl,←fin_bs]
   exact answer_any b 7 ws _ 91 (bs (rqSx (ws.getD 1 []) (ws.getD 2 []) (ws.getD 3 []) (ws.getD 4 []) (ws.getD 5 []) (ws.getD 6 [])).1) (rqSx (ws.getD 1 []) (ws.getD 2 []) (ws.getD 3 []) (ws.getD 4 []) (ws.getD 5 []) (ws.getD 6 [])).2 w h.hl h00 (h.hm 0) (by omega) hb hc (enters_of Tryz.func91 (by kernel_rfl) rfl) (fun W hW=>reqSix_any (ws.getD 1 []) (ws.getD 2 []) (ws.getD 3 []) (ws.getD 4 []) (ws.getD 5 []) (ws.getD 6 []) b W (h.hm 1) (h.hm 2) (h.hm 3) (h.hm 4) (h.hm 5) (h.hm 6) (Nat.lt_of_lt_of_le hb.lt hW.size) (((hb.sub hW).cell 1).trans (wcs_at ws 1 (by rw [h.hl];omega))) (((hb.sub hW).cell 2).trans (wcs_at ws 2 (by rw [h.hl];omega))) (((hb.sub hW).cell 3).trans (wcs_at ws 3 (by rw [h.hl];omega))) (((hb.sub hW).cell 4).trans (wcs_at ws 4 (by rw [h.hl];omega))) (((hb.sub hW).cell 5).trans (wcs_at ws 5 (by rw [h.hl];omega))) (((hb.sub hW).cell 6).trans (wcs_at ws 6 (by rw [h.hl];omega))) (h.ht.on hW))
  ·rw [if_neg (by rw [h.hl];exact hn)]
   exact answer_mal b n ws _ 91 w h.hl h00 (h.hm 0) h.hn hb hc (enters_of Tryz.func91 (by kernel_rfl) rfl) (fun W hW=>six_mal _ _ _ W (by have:=h.h1;omega))
 have g6:=h0;clear h0
 by_cases h0:ws.getD 0 []=splC
 ·have hc:cmdOf (ws.getD 0 [])=some 92:=by rw [h0];decide +kernel
  rw [ans_spl ws h0]
  by_cases hn:n=3
  ·subst hn
   rw [if_pos h.hl,←fin_bs]
   exact answer_any b 3 ws _ 92 (bs (rqSpl (ws.getD 1 []) (ws.getD 2 [])).1) (rqSpl (ws.getD 1 []) (ws.getD 2 [])).2 w h.hl h00 (h.hm 0) (by omega) hb hc (enters_of Tryz.func92 (by kernel_rfl) rfl) (fun W hW=>reqSplit_any (ws.getD 1 []) (ws.getD 2 []) b W (Nat.le_trans (h.hm 1) (by omega)) (Nat.le_trans (h.hm 2) (by omega)) (Nat.lt_of_lt_of_le hb.lt hW.size) (((hb.sub hW).cell 1).trans (wcs_at ws 1 (by rw [h.hl];omega))) (((hb.sub hW).cell 2).trans (wcs_at ws 2 (by rw [h.hl];omega))) (h.hE.on hW) (h.ht.on hW))
  ·rw [if_neg (by rw [h.hl];exact hn)]
   exact answer_mal b n ws _ 92 w h.hl h00 (h.hm 0) h.hn hb hc (enters_of Tryz.func92 (by kernel_rfl) rfl) (fun W hW=>split_mal _ _ _ W (by have:=h.h1;omega))
 have g7:=h0;clear h0
 rw [ans_none ws g0 g1 g2 g3 g4 g5 g6 g7]
 exact answer_none b n ws _ w h.hl h00 (h.hm 0) h.hn hb (cmd_none _ g0 g1 g2 g3 g4 g5 g6 g7)
end
end Go.Proofs.YtjdfbnlaiiknpaaGreatDoor
