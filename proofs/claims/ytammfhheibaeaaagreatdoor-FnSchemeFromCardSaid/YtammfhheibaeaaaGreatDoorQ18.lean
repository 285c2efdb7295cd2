/- Parts of the proof of : As. -/
import Derived.Test.YtammfhheibaeaaaGreatDoorQ17
import Derived.Stop.Asserts
import Derived.RowKitTokens
set_option maxHeartbeats 20000000
set_option maxRecDepth 1000000
set_option linter.unusedSimpArgs false
set_option linter.unusedVariables false
namespace Go.Proofs.YtammfhheibaeaaaGreatDoor
section
open Go.RowKit Go.Extern.Stop Go.Stop Go.Extern
theorem rl_valueOf27 (t:Addr) (w:World):(ReflectliteValue.unpack (.iface 42 (.pointer (some t)))).run Tryz.prog w
 = .ok (.agg #[.pointer (some ⟨9,42,none⟩),.pointer (some ⟨w.heap.size,0,none⟩),.int .u64 150]) (w.alloc (.cells #[.pointer (some t)] 42)):=by kernel_rfl
theorem rl_type27 (a : Addr) (w : World) : (ReflectliteValue.methodAny (ReflectliteValue.valueError "reflectlite.Value.Type" 0) (fun t _ _ _ => ReflectliteType.toType t) #[.agg #[.pointer (some ⟨9, 42, none⟩), .pointer (some a), .int .u64 150]]).run Tryz.prog w
 = .ok (.iface 87 (.agg #[.pointer (some ⟨9,42,none⟩)])) w:=by kernel_rfl
theorem rl_methodKind (h : Value) (w : World) : (Go.method 272 87 (.agg #[h]) "Kind").run Tryz.prog w = .ok (105, h) w := by kernel_rfl
theorem rl_kind27 (w:World):((ReflectliteType.abiMethod fun t=>Functor.map (fun a:Nat=>Value.int IntKind.u8 (a:Int)) (Rtype.kind t)) #[.pointer (some ⟨9,42,none⟩)]).run Tryz.prog w=.ok (.int .u8 22) w:=by kernel_rfl
theorem rl_kind25 (w:World):((ReflectliteType.abiMethod fun t=>Functor.map (fun a:Nat=>Value.int IntKind.u8 (a:Int)) (Rtype.kind t)) #[.pointer (some ⟨9,40,none⟩)]).run Tryz.prog w=.ok (.int .u8 22) w:=by kernel_rfl
theorem rlm (z:Sem Value) (f:TypeId→Addr→Nat→Nat→Sem Value) (v:Value) :
 ReflectliteValue.method z f #[v]=(do match ←ReflectliteValue.parts v with | none=>z | some (t,a,fl)=>f t a fl (fl % 32)):=rfl
theorem rl_parts27 (a:Addr) (w:World):(ReflectliteValue.parts (.agg #[.pointer (some ⟨9,42,none⟩),.pointer (some a),.int .u64 150])).run Tryz.prog w=.ok (some (42,a,150)) w:=by kernel_rfl
theorem rl_isNil27 (a p:Addr) (W:World) (ha:W.cell? a=some (.pointer (some p))) :
 (ReflectliteValue.method (ReflectliteValue.valueError "reflectlite.Value.IsNil" 0) ReflectliteValue.isNil #[.agg #[.pointer (some ⟨9, 42, none⟩), .pointer (some a), .int .u64 150]]).run Tryz.prog W = .ok (.bool false) W := by
 rw [rlm]
 simp only [Sem.run_bind,rl_parts27,Result.andThen]
 simp [ReflectliteValue.isNil,loadVar,isAgg,underlying,Tryz.underlying42,ha,Result.andThen]
theorem rl_methodElem (h : Value) (w : World) : (Go.method 272 87 (.agg #[h]) "Elem").run Tryz.prog w = .ok (116, .agg #[h]) w := by kernel_rfl
theorem rl_methodImplements (h : Value) (w : World) : (Go.method 272 87 (.agg #[h]) "Implements").run Tryz.prog w = .ok (117, .agg #[h]) w := by kernel_rfl
theorem rl_methodAssignableTo (h : Value) (w : World) : (Go.method 272 87 (.agg #[h]) "AssignableTo").run Tryz.prog w = .ok (114, .agg #[h]) w := by kernel_rfl
theorem rl_elem27 (w:World):(ReflectliteType.method ReflectliteType.elem #[.agg #[.pointer (some ⟨9,42,none⟩)]]).run Tryz.prog w=.ok (.iface 87 (.agg #[.pointer (some ⟨9,40,none⟩)])) w:=by kernel_rfl
theorem rl_implements25 (w : World) : (ReflectliteType.relation "Implements" ReflectliteType.implements_ #[.agg #[.pointer (some ⟨9, 40, none⟩)], .iface 87 (.agg #[.pointer (some ⟨9, 37, none⟩)])]).run Tryz.prog w = .ok (.bool true) w := by kernel_rfl
theorem rl_typeOf25 (v:Value) (w:World):(ReflectliteType.typeOf #[.iface 40 v]).run Tryz.prog w=.ok (.iface 87 (.agg #[.pointer (some ⟨9,40,none⟩)])) w:=by kernel_rfl
theorem rl_assignable25 (w : World) : (ReflectliteType.relation "AssignableTo" ReflectliteType.assignableTo #[.agg #[.pointer (some ⟨9, 40, none⟩)], .iface 87 (.agg #[.pointer (some ⟨9, 40, none⟩)])]).run Tryz.prog w = .ok (.bool true) w := by kernel_rfl
theorem rl_valueOf25 (e:Addr) (w:World):(ReflectliteValue.unpack (.iface 40 (.pointer (some e)))).run Tryz.prog w
 = .ok (.agg #[.pointer (some ⟨9,40,none⟩),.pointer (some ⟨w.heap.size,0,none⟩),.int .u64 150]) (w.alloc (.cells #[.pointer (some e)] 40)):=by kernel_rfl
theorem rl_elemOf27 (w:World):(Rtype.elem? 42).run Tryz.prog w=.ok (some 40) w:=by kernel_rfl
theorem rl_mk25 (p:Addr) (w:World):(ReflectliteValue.mk 40 p ReflectliteValue.flagAddr).run Tryz.prog w=.ok (.agg #[.pointer (some ⟨9,40,none⟩),.pointer (some p),.int .u64 406]) w:=by kernel_rfl
theorem rl_elemV27 (a p:Addr) (W:World) (ha:W.cell? a=some (.pointer (some p))) :
 (ReflectliteValue.method (ReflectliteValue.valueError "reflectlite.Value.Elem" 0) ReflectliteValue.elem #[.agg #[.pointer (some ⟨9, 42, none⟩), .pointer (some a), .int .u64 150]]).run Tryz.prog W
  = .ok (.agg #[.pointer (some ⟨9,40,none⟩),.pointer (some p),.int .u64 406]) W:=by
 rw [rlm]
 simp only [Sem.run_bind,rl_parts27,Result.andThen]
 simp [ReflectliteValue.elem,loadVar,isAgg,underlying,Tryz.underlying42,ha,Result.andThen,rl_elemOf27,rl_mk25]
theorem rls (v x:Value):ReflectliteValue.set #[v,x]=(do
 let (some (dst,a,fl),some (src,b,_)):=(←ReflectliteValue.parts v,←ReflectliteValue.parts x)
  | unsupported (.noEntry "extern/(internal/reflectlite.Value).Set.zeroValue")
 if fl / ReflectliteValue.flagAddr % 2 == 0 then unsupported (.noEntry "extern/(internal/reflectlite.Value).Set.unaddressable")
 let val ←loadVar src b
 if ←Rtype.directlyAssignable dst src then storeVar dst a val
 else if ←Rtype.implements dst src then
  if (←Rtype.kind src)==20 then
   match val with
   | .nilIface => unsupported (.noEntry "extern/reflectlite: a nil value of one interface type handed on as a value of another")
   | _=>storeVar dst a val
  else storeVar dst a (.iface src val)
 else panicString ("reflectlite.Set: value of type " ++ (← Rtype.spelt src) ++ " is not assignable to type " ++ (← Rtype.spelt dst))
 pure (.tuple #[])):=rfl
theorem rl_parts25a (a:Addr) (w:World):(ReflectliteValue.parts (.agg #[.pointer (some ⟨9,40,none⟩),.pointer (some a),.int .u64 406])).run Tryz.prog w=.ok (some (40,a,406)) w:=by kernel_rfl
theorem rl_parts25 (a:Addr) (w:World):(ReflectliteValue.parts (.agg #[.pointer (some ⟨9,40,none⟩),.pointer (some a),.int .u64 150])).run Tryz.prog w=.ok (some (40,a,150)) w:=by kernel_rfl
theorem rl_direct25 (w:World):(Rtype.directlyAssignable 40 40).run Tryz.prog w=.ok true w:=by kernel_rfl
theorem rl_set25 (ta b e:Addr) (old:Value) (W:World) (hb:W.cell? b=some (.pointer (some e))) (ht:W.cell? ta=some old) (hf:W.frozen? ta=false) :
 (ReflectliteValue.set #[.agg #[.pointer (some ⟨9,40,none⟩),.pointer (some ta),.int .u64 406],.agg #[.pointer (some ⟨9,40,none⟩),.pointer (some b),.int .u64 150]]).run Tryz.prog W
  = .ok (.tuple #[]) (W.setCell ta (.pointer (some e))):=by
 rw [rls]
 simp only [Sem.run_bind,rl_parts25a,rl_parts25,Result.andThen]
 simp [ReflectliteValue.flagAddr,loadVar,isAgg,underlying,Tryz.underlying40,hb,Result.andThen,rl_direct25,storeVar,Value.cells,storeCells,Addr.add]
 rw [run_store Tryz.prog W ta _ _ (by rfl)]
 simp [ht,hf]
theorem as_hit (e t:Addr) (old:Value) (w:World) (hg:w.cell? ⟨0,0,none⟩=some (.iface 87 (.agg #[.pointer (some ⟨9,37,none⟩)]))) (ht0:w.cell? t=some old) (hf0:w.frozen? t=false) :
 Calls Tryz.prog 17 #[.iface 40 (.pointer (some e)),.iface 42 (.pointer (some t))] w fun ev w'=>ev=.returned (.bool true)∧w'=((((w.alloc (.cells #[.pointer (some t)] 42)).alloc (.cells #[.pointer (some ⟨9,42,none⟩),.pointer (some ⟨w.heap.size,0,none⟩),.int .u64 150] 68)).alloc (.cells #[.pointer (some ⟨9,42,none⟩),.pointer (some ⟨w.heap.size,0,none⟩),.int .u64 150] 68)).alloc (.cells #[.pointer (some e)] 40)).setCell t (.pointer (some e)):=by
 have h6:=@run_callFunc_extern Tryz.prog 34 _ (fun args=>ReflectliteValue.unpack (args.getD 0 (.tuple #[]))) Tryz.func34 (by kernel_rfl) (by kernel_rfl) (by kernel_rfl) (by kernel_rfl)
 have h7 := @run_callFunc_extern Tryz.prog 35 _ (ReflectliteValue.methodAny (ReflectliteValue.valueError "reflectlite.Value.Type" 0) (fun t _ _ _ => ReflectliteType.toType t)) Tryz.func35 (by kernel_rfl) (by kernel_rfl) (by kernel_rfl) (by kernel_rfl)
 have h8 := @run_callFunc_extern Tryz.prog 36 _ (ReflectliteValue.method (ReflectliteValue.valueError "reflectlite.Value.IsNil" 0) ReflectliteValue.isNil) Tryz.func36 (by kernel_rfl) (by kernel_rfl) (by kernel_rfl) (by kernel_rfl)
 have h27:=@run_callFunc_extern Tryz.prog 105 _ (ReflectliteType.abiMethod fun t=>do pure (.int .u8 (←Rtype.kind t))) Tryz.func105 (by kernel_rfl) (by kernel_rfl) (by kernel_rfl) (by kernel_rfl)
 have h37:=@run_callFunc_extern Tryz.prog 116 _ (ReflectliteType.method ReflectliteType.elem) Tryz.func116 (by kernel_rfl) (by kernel_rfl) (by kernel_rfl) (by kernel_rfl)
 have h38 := @run_callFunc_extern Tryz.prog 117 _ (ReflectliteType.relation "Implements" ReflectliteType.implements_) Tryz.func117 (by kernel_rfl) (by kernel_rfl) (by kernel_rfl) (by kernel_rfl)
 have h10:=@run_callFunc_extern Tryz.prog 48 _ ReflectliteType.typeOf Tryz.func48 (by kernel_rfl) (by kernel_rfl) (by kernel_rfl) (by kernel_rfl)
 have h35 := @run_callFunc_extern Tryz.prog 114 _ (ReflectliteType.relation "AssignableTo" ReflectliteType.assignableTo) Tryz.func114 (by kernel_rfl) (by kernel_rfl) (by kernel_rfl) (by kernel_rfl)
 have h11 := @run_callFunc_extern Tryz.prog 49 _ (ReflectliteValue.method (ReflectliteValue.valueError "reflectlite.Value.Elem" 0) ReflectliteValue.elem) Tryz.func49 (by kernel_rfl) (by kernel_rfl) (by kernel_rfl) (by kernel_rfl)
 have h12:=@run_callFunc_extern Tryz.prog 50 _ ReflectliteValue.set Tryz.func50 (by kernel_rfl) (by kernel_rfl) (by kernel_rfl) (by kernel_rfl)
 have tO:=rl_typeOf25
 have mA:=rl_methodAssignableTo
 have a25:=rl_assignable25
 have v25:=rl_valueOf25
 have f6:=rl_valueOf27
 have f7:=rl_type27
 have mK:=rl_methodKind
 have mE:=rl_methodElem
 have mI:=rl_methodImplements
 have k27:=rl_kind27
 have k25:=rl_kind25
 have e27:=rl_elem27
 have i25:=rl_implements25
 have n8:=rl_isNil27 ⟨w.heap.size,0,none⟩ t ((w.alloc (.cells #[.pointer (some t)] 42)).alloc (.cells #[.pointer (some ⟨9,42,none⟩),.pointer (some ⟨w.heap.size,0,none⟩),.int .u64 150] 68)) (by simp)
 have hlt:0<w.heap.size:=by
  rcases Nat.eq_zero_or_pos w.heap.size with h0 | h
  ·simp [World.cell?,h0] at hg
  ·exact h
 have hg2:((w.alloc (.cells #[.pointer (some t)] 42)).alloc (.cells #[.pointer (some ⟨9,42,none⟩),.pointer (some ⟨w.heap.size,0,none⟩),.int .u64 150] 68)).cell? ⟨0,0,none⟩=some (.iface 87 (.agg #[.pointer (some ⟨9,37,none⟩)])):=by
  rw [World.cell?_alloc_lt _ _ ⟨0,0,none⟩ (by simp),World.cell?_alloc_lt _ _ ⟨0,0,none⟩ hlt];exact hg
 have htl:t.block<w.heap.size:=by
  rcases Nat.lt_or_ge t.block w.heap.size with h | h
  ·exact h
  ·simp [World.cell?,Array.getElem?_eq_none h] at ht0
 have el:=rl_elemV27 ⟨w.heap.size,0,none⟩ t (((w.alloc (.cells #[.pointer (some t)] 42)).alloc (.cells #[.pointer (some ⟨9,42,none⟩),.pointer (some ⟨w.heap.size,0,none⟩),.int .u64 150] 68)).alloc (.cells #[.pointer (some ⟨9,42,none⟩),.pointer (some ⟨w.heap.size,0,none⟩),.int .u64 150] 68)) (by rw [World.cell?_alloc_lt _ _ ⟨w.heap.size,0,none⟩ (by simp;omega)];simp)
 have st:=rl_set25 t ⟨w.heap.size+1+1+1,0,none⟩ e old ((((w.alloc (.cells #[.pointer (some t)] 42)).alloc (.cells #[.pointer (some ⟨9,42,none⟩),.pointer (some ⟨w.heap.size,0,none⟩),.int .u64 150] 68)).alloc (.cells #[.pointer (some ⟨9,42,none⟩),.pointer (some ⟨w.heap.size,0,none⟩),.int .u64 150] 68)).alloc (.cells #[.pointer (some e)] 40))
  (by rw [World.cell?_alloc_at _ _ _ _ (by simp)];rfl)
  (by rw [World.cell?_alloc_lt _ _ t (by simp;omega),World.cell?_alloc_lt _ _ t (by simp;omega),World.cell?_alloc_lt _ _ t (by simp;omega),World.cell?_alloc_lt _ _ t htl];exact ht0)
  (by rw [World.frozen?_alloc_old _ _ t (by simp;omega),World.frozen?_alloc_old _ _ t (by simp;omega),World.frozen?_alloc_old _ _ t (by simp;omega),World.frozen?_alloc_old _ _ t (Nat.ne_of_lt htl)];exact hf0)
 go_enter Tryz.func17,Tryz.ntmps17
 go_wp2
 refine wp_loop_rounds 1 ?_
 rw [rounds_succ]
 go_wp2
 go_ret
 exact ⟨rfl,rfl⟩
end
end Go.Proofs.YtammfhheibaeaaaGreatDoor
