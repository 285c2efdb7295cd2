/- Parts of the proof of : LawKit. -/
import Derived.Test.YtlgdndnaiogooaaGreatDoorRows
import Derived.Test.YtlgdndnaiogooaaGreatDoorQ00
import Derived.WalkKit
import Derived.ProofKit
import Derived.OpenShut
import Derived.ShutString
set_option maxHeartbeats 20000000
set_option maxRecDepth 1000000
set_option linter.unusedSimpArgs false
set_option linter.unusedVariables false
namespace Go.Proofs.YtlgdndnaiogooaaGreatDoor
section
open Go.ChangeShapes Go.WideShapes Go.ChangeAt Go.RowKit
open Go.ChangeMaps (open_string shut_string)
theorem own:ownKnob Tryz.prog.godebug=none:=by kernel_rfl
theorem laidOut:laidOutB Tryz.prog=true:=by kernel_rfl
theorem bytes_in {H:Type} {enc:TypeId × Value→H} {W:World} {a:Option Addr} {len cap:Nat} {d:DataW H} {p:List MemPlace}
 (h:DataW.Trod enc Tryz.prog W 0 (fun _=>true) true 22 (.slice a len cap) d p):len≤maxLen∧len≤cap∧Bytes W W.heap.size a len:=by
 obtain ⟨fuel,hf⟩:=h
 rcases open_ints Tryz.underlying22 Tryz.underlying5 (by kernel_rfl) hf with ⟨hcs,_⟩ | ⟨x,l,c,zs,hcs,_,hl,hm,hz,_,hcell,hwz⟩
 ·simp [Value.cells] at hcs
  obtain ⟨rfl,rfl,rfl⟩:=hcs
  exact ⟨Nat.zero_le _,Nat.le_refl _,fun h=>absurd h (by omega)⟩
 ·simp [Value.cells] at hcs
  obtain ⟨rfl,rfl,rfl⟩:=hcs
  have hz':zs.length=cap:=by simpa using hz
  refine ⟨by omega,hl,fun hn=>?_⟩
  obtain ⟨b,off,rfl,hc⟩:=ints_at hcell (by omega)
  have h0:=hc 0 (by omega)
  refine ⟨b,off,rfl,World.block_lt_of_cell? _ _ h0,fun j hj=>?_⟩
  have hj':j<zs.length:=by omega
  have hw:=hwz (zs.getD j 0) (by simp [List.getD,List.getElem?_eq_getElem hj'])
  have hb:=bounds_u8 hw
  exact ⟨zs.getD j 0,hb.1,hb.2,hc j hj'⟩
end
end Go.Proofs.YtlgdndnaiogooaaGreatDoor
