/- Parts of the proof of : DoorKitE. -/
import Derived.Test.YtlgdndnaiogooaaGreatDoorQ26
import Derived.Test.YtlgdndnaiogooaaGreatDoorQ30
set_option maxHeartbeats 20000000
set_option maxRecDepth 1000000
set_option linter.unusedSimpArgs false
set_option linter.unusedVariables false
namespace Go.Proofs.YtlgdndnaiogooaaGreatDoor
section
open Go.ChangeShapes Go.WideShapes Go.ChangeAt Go.RowKit
theorem sent_of_trod {P:Program} {W:World} {g:Nat} {t:TypeId} {n nm:String} {cs:Array Value} {fuel:Nat} {d:DataW Unit} {p:List MemPlace} {ms:Array (String × TypeId)} {D:DataW Unit}
 (hg:P.globalNamed n=some g) (hv:W.var? P n=some cs) (hi:P.underlying t=some (.interface ms)) (hD:D=.iface nm d) (h:DataW.trod (fun _=>()) P W 0 (fun _=>true) false fuel t cs.toList=some (D,p)) :
 ∃te pe,W.cell? ⟨g,0,none⟩=some (.iface te pe):=by
 subst hD
 obtain ⟨_,u,v,e,_,_⟩:=iface_of_trod hi h
 have:=World.var?_cell hg hv 0
 obtain ⟨l⟩:=cs
 simp only at e
 subst e
 exact ⟨u,v,by simpa using this⟩
theorem ers_of_laid9 {W:World} (h:laidMetH Tryz.prog laid9 W):Ers W:=by
 rw [MakeChecks.laidMetH_plain _ _ _ (by kernel_rfl)] at h
 obtain ⟨ps,⟨g0,t0,cs0,f0,p0,q0,hg0,ht0,hv0,hd0,⟨g1,t1,cs1,f1,p1,q1,hg1,ht1,hv1,hd1,⟨g2,t2,cs2,f2,p2,q2,hg2,ht2,hv2,hd2,⟨g3,t3,cs3,f3,p3,q3,hg3,ht3,hv3,hd3,⟨g4,t4,cs4,f4,p4,q4,hg4,ht4,hv4,hd4,⟨g5,t5,cs5,f5,p5,q5,hg5,ht5,hv5,hd5,⟨g6,t6,cs6,f6,p6,q6,hg6,ht6,hv6,hd6,⟨g7,t7,cs7,f7,p7,q7,hg7,ht7,hv7,hd7,_,_⟩,_⟩,_⟩,_⟩,_⟩,_⟩,_⟩,_⟩,_,_⟩:=h
 obtain rfl := Option.some.inj ((show Tryz.prog.globalNamed "loop.example/atomicspectra/impl.errLevel" = some 0 by kernel_rfl).symm.trans hg6)
 obtain rfl:=Option.some.inj ((show (Tryz.prog.globals[0]?).map (·.type)=some 78 by kernel_rfl).symm.trans ht6)
 obtain rfl := Option.some.inj ((show Tryz.prog.globalNamed "loop.example/atomicspectra/impl.errAtRest" = some 1 by kernel_rfl).symm.trans hg7)
 obtain rfl:=Option.some.inj ((show (Tryz.prog.globals[1]?).map (·.type)=some 78 by kernel_rfl).symm.trans ht7)
 exact ⟨sent_of_trod hg6 hv6 Tryz.underlying78 rfl hd6,sent_of_trod hg7 hv7 Tryz.underlying78 rfl hd7⟩
end
end Go.Proofs.YtlgdndnaiogooaaGreatDoor
