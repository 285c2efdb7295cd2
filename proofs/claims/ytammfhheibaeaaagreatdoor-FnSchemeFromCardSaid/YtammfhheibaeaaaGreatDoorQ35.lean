/- Parts of the proof of : DoorKitZ. -/
import Derived.Test.YtammfhheibaeaaaGreatDoorQ27
import Derived.Test.YtammfhheibaeaaaGreatDoorQ34
set_option maxHeartbeats 20000000
set_option maxRecDepth 1000000
set_option linter.unusedSimpArgs false
set_option linter.unusedVariables false
namespace Go.Proofs.YtammfhheibaeaaaGreatDoor
section
open Go.ChangeShapes Go.WideShapes Go.ChangeAt Go.RowKit
theorem sent_of_trod {P:Program} {W:World} {g:Nat} {t:TypeId} {n nm:String} {cs:Array Value} {fuel:Nat} {d:DataW Unit} {p:List MemPlace} {ms:Array (String × TypeId)} {D:DataW Unit}
 (hg:P.globalNamed n=some g) (hv:W.var? P n=some cs) (hi:P.underlying t=some (.interface ms)) (hD:D=.iface nm d) (h:DataW.trod (fun _=>()) P W 0 (fun _=>true) false fuel t cs.toList=some (D,p)) :
 ∃te pe,W.cell? ⟨g,0,none⟩=some (.iface te pe):=by
 subst hD
 obtain ⟨_,u,v,e,_,_⟩:=iface_of_trod hi h
 have:=World.var?_cell hg hv 0
 obtain ⟨l⟩:=cs
 simp only at e
 subst e
 exact ⟨u,v,by simpa using this⟩
theorem er_of_laid8 {W:World} (h:laidMetH Tryz.prog laid8 W):Er W:=by
 obtain ⟨h,_⟩:=laid8_split h
 obtain ⟨ps,⟨g0,t0,cs0,f0,p0,q0,hg0,ht0,hv0,hd0,⟨g1,t1,cs1,f1,p1,q1,hg1,ht1,hv1,hd1,⟨g2,t2,cs2,f2,p2,q2,hg2,ht2,hv2,hd2,⟨g3,t3,cs3,f3,p3,q3,hg3,ht3,hv3,hd3,⟨g4,t4,cs4,f4,p4,q4,hg4,ht4,hv4,hd4,⟨g5,t5,cs5,f5,p5,q5,hg5,ht5,hv5,hd5,_,_⟩,_⟩,_⟩,_⟩,_⟩,_⟩,_,_⟩:=h
 obtain rfl := Option.some.inj ((show Tryz.prog.globalNamed "strconv.ErrRange" = some 3 by kernel_rfl).symm.trans hg4)
 obtain rfl:=Option.some.inj ((show (Tryz.prog.globals[3]?).map (·.type)=some 37 by kernel_rfl).symm.trans ht4)
 obtain rfl := Option.some.inj ((show Tryz.prog.globalNamed "strconv.ErrSyntax" = some 2 by kernel_rfl).symm.trans hg5)
 obtain rfl:=Option.some.inj ((show (Tryz.prog.globals[2]?).map (·.type)=some 37 by kernel_rfl).symm.trans ht5)
 exact ⟨sent_of_trod hg5 hv5 Tryz.underlying37 rfl hd5,sent_of_trod hg4 hv4 Tryz.underlying37 rfl hd4⟩
theorem eh_of_laid8 {W:World} (h:laidMetH Tryz.prog laid8 W):Eh W:=by
 obtain ⟨_,h⟩:=laid8_split h
 obtain ⟨name, u, ty, h1, h2, h3, h4, h5⟩ := h ("errors.errorType", Rows.laid_errors_errorType) (by simp)
 obtain rfl:=Option.some.inj ((show (Rows.laid_errors_errorType:DataW Unit).handleName?=some [101,114,114,111,114] by kernel_rfl).symm.trans h1)
 obtain rfl := Option.some.inj ((show (Tryz.prog.cutTypes.find? (·.1 == "internal/reflectlite.rtype")).map (·.2) = some 87 by kernel_rfl).symm.trans h2)
 have hall:((List.range Tryz.prog.types.size).all fun ty=>!Tryz.prog.rowNamed ty [101,114,114,111,114] || ty==37)=true:=by kernel_rfl
 have hty:=List.all_eq_true.1 hall ty (List.mem_range.2 h3)
 rw [h4] at hty
 obtain rfl:ty=37:=by simpa using hty
 have := World.var?_cell (show Tryz.prog.globalNamed "errors.errorType" = some 0 by kernel_rfl) h5 0
 exact this
theorem env_of {W:World} (h:laidMetH Tryz.prog laid8 W) (hO:W.ShapedOpen Tryz.prog):Env W:=⟨tab_of_laid8 h,mx_of_open hO,er_of_laid8 h,eh_of_laid8 h⟩
end
end Go.Proofs.YtammfhheibaeaaaGreatDoor
