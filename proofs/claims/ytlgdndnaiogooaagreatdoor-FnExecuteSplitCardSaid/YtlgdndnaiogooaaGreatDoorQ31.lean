/- Parts of the proof of : At. -/
import Derived.Test.YtlgdndnaiogooaaGreatDoorQ15
set_option maxHeartbeats 20000000
set_option maxRecDepth 1000000
set_option linter.unusedSimpArgs false
set_option linter.unusedVariables false
namespace Go.Proofs.YtlgdndnaiogooaaGreatDoor
section
open Go.RowKit Go.Lib
attribute [local go_sem ↓] Go.wp_at_zero Go.wp_at_succ
def dval (l:List UInt8):Nat:=l.foldl (fun v c=>v*10+(c.toNat-48)) 0
theorem dval_snoc (l:List UInt8) (c:UInt8):dval (l++[c])=dval l*10+(c.toNat-48):=by simp [dval]
theorem dval_le (l:List UInt8) (h:∀c∈l,c.toNat≤57):dval l<10 ^ l.length:=by
 have:∀r:List UInt8,(∀c∈r,c.toNat≤57)→dval r.reverse<10 ^ r.length:=by
  intro r
  induction r with
  | nil=>intro _;simp [dval]
  | cons c r ih =>
   intro hr
   have:=ih (fun x hx=>hr x (by simp [hx]))
   have hc:=hr c (by simp)
   rw [List.reverse_cons,dval_snoc,List.length_cons,Nat.pow_succ]
   omega
 have h2:=this l.reverse (by simpa using h)
 simpa using h2
theorem conv_str (l:List UInt8) (w:World):∃(c:Nat) (W1:World),(convert 9 22 (.string (bs l))).run Tryz.prog w=.ok (.slice (some ⟨w.heap.size,0,none⟩) (bs l).size c) W1∧Below w.heap.size w W1 ∧
 ∀j x,l[j]?=some x→W1.cell? ⟨w.heap.size,j,none⟩=some (.int .u8 (x.toNat:Int)):=by
 refine ⟨_,_,run_bytes_of_string w _ _ _ (bs l) Tryz.underlying9 Tryz.underlying22 Tryz.underlying5,(Below.refl _ _).drew.alloc (Nat.le_refl _) _,fun j x hx=>?_⟩
 have hj:j<l.length:=by
  rcases Nat.lt_or_ge j l.length with h1 | h1
  ·exact h1
  ·rw [List.getElem?_eq_none h1] at hx;cases hx
 refine (cell_of_row (w.drew.alloc _) w.heap.size j _ _ _ (heap_alloc_new w.drew _)).trans ?_
 rw [bytesRow_at (bs l) _ j (by rw [show (bs l).data.size=l.length by simp [bs]];exact hj)]
 rw [List.getElem?_eq_getElem hj] at hx
 injection hx with hx
 rw [←hx];simp [bs]
theorem idx_str (l:List UInt8) (x:UInt8) (hx:l[0]?=some x) (W:World):(Instr.index 9 (.string (bs l)) (.int .i64 0)).run Tryz.prog W=.ok (.int .u8 (x.toNat:Int)) W:=by
 have hj:0<l.length:=by
  rcases Nat.lt_or_ge 0 l.length with h1 | h1
  ·exact h1
  ·rw [List.getElem?_eq_none h1] at hx;cases hx
 rw [run_index_string (h:=Tryz.underlying9),dif_pos ⟨by omega,by rw [bs_size];omega⟩]
 have:(bs l)[0]'(by rw [bs_size];exact hj)=x:=by
  rw [List.getElem?_eq_getElem hj] at hx
  injection hx
 simp only [Int.toNat_zero]
 rw [this]
theorem atoiIn_any (l:List UInt8) (w:World) (hl:0<l.length) (h7:l.length≤9) (hd:∀c∈l,48≤c.toNat∧c.toNat≤57) :
 Calls Tryz.prog 209 #[.string (bs l)] w fun e w'=>e=.returned (.tuple #[.int .i64 (dval l:Nat),.nilIface])∧Below w.heap.size w w':=by
 obtain ⟨c,W1,hconv,hb1,hcell⟩:=conv_str l w
 obtain ⟨x,hx⟩:∃x,l[0]?=some x:=⟨l[0],List.getElem?_eq_getElem hl⟩
 have hidx:=idx_str l x hx
 have hxd:=hd x (List.mem_of_getElem? hx)
 have HC:=Lib.hid hcell;have HB:=Lib.hid hb1;have HD:=Lib.hid hd
 clear hcell hb1 hd hx
 have hsz:(bs l).size=l.length:=bs_size l
 obtain ⟨n,hn⟩:∃n,l.length=n:=⟨_,rfl⟩
 rw [hn] at hsz hl h7
 have HN:=Lib.hid hn;clear hn
 obtain ⟨s,hs⟩:∃s,bs l=s:=⟨_,rfl⟩
 rw [hs] at hsz hidx hconv ⊢
 rw [hsz] at hconv
 clear hs
 have e1:((x.toNat:Int)==45)=false:=by simp;omega
 have e2:((x.toNat:Int)==43)=false:=by simp;omega
 have i0:(0:Int)<(n:Int):=by omega
 have i1:(n:Int)<19:=by omega
 generalize (x.toNat:Int)=xi at *
 go_enter Tryz.func209,Tryz.ntmps209
 go_wp2_with fail
 go_loop [6,49] (fun v i=>∃k:Nat,k≤n∧i=.int .i64 k∧v=.int .i64 (dval (l.take k):Nat)) (fun _ i=>n-(RowKit.intOf i).toNat)
 case atStart=>exact ⟨0,Nat.zero_le _,rfl,rfl⟩
 case round =>
  clear hconv
  obtain ⟨k,hk,rfl,rfl⟩:=hrel
  by_cases hlt:k<n
  ·obtain ⟨y,hy⟩:∃y,l[k]?=some y:=⟨l[k]'(by rw [HN.out];exact hlt),List.getElem?_eq_getElem _⟩
   have hyc:=HC.out k y hy
   have hyd:=HD.out y (List.mem_of_getElem? hy)
   have HTK:Hid (dval (l.take (k+1))=dval (l.take k)*10+(y.toNat-48)):=by
    unfold Hid
    rw [List.take_add_one,hy,←dval_snoc];rfl
   have hvb:dval (l.take k)≤1000000000:=by
    have h1:=dval_le (l.take k) (fun z hz=>(HD.out z (List.mem_of_mem_take hz)).2)
    have h2:(l.take k).length≤9:=by have:=List.length_take_le k l;omega
    have h3:=Nat.pow_le_pow_right (show 0<10 by omega) h2
    omega
   clear hy
   generalize dval (l.take k)=v at *
   obtain ⟨yn,hyn⟩:∃yn,y.toNat=yn:=⟨_,rfl⟩
   rw [hyn] at hyc hyd HTK
   clear hyn
   go_wp2_with fail
   go_round
   case rel=>exact ⟨k+1,by omega,by go_num,by rw [HTK.out];exact congrArg (Value.int .i64) (by omega)⟩
   case measure=>simp [RowKit.intOf];omega
  ·obtain rfl:k=n:=by omega
   have HV:Hid (dval (l.take k)=dval l):=by unfold Hid;rw [List.take_of_length_le (by rw [HN.out];exact Nat.le_refl _)]
   rw [HV.out]
   go_wp2_with fail
   go_ret2
   exact ⟨rfl,HB.out⟩
theorem atoi_any (l:List UInt8) (w:World) (hl:0<l.length) (h7:l.length≤9) (hd:∀c∈l,48≤c.toNat∧c.toNat≤57) :
 Calls Tryz.prog 181 #[.string (bs l)] w fun e w'=>e=.returned (.tuple #[.int .i64 (dval l:Nat),.nilIface])∧Below w.heap.size w w':=by
 have HA:=Lib.hid (atoiIn_any l w hl h7 hd)
 clear hl h7 hd
 generalize bs l=s at *
 generalize dval l=v at *
 go_enter Tryz.func181,Tryz.ntmps181
 go_wp2_with fail
 refine HA.out.mono ?_
 rintro e w1 ⟨rfl,hb⟩
 have HB:=Lib.hid hb;clear hb
 go_wp2_with fail
 go_ret2
 exact ⟨rfl,HB.out⟩
end
end Go.Proofs.YtlgdndnaiogooaaGreatDoor
