/- errors.As at the program's two targets (*Code, **step): its contracts; package fail's Code, Path and Text. -/
import Derived.Test.YtgelbkgkjkeccaaGreatDoorC
import Derived.LaidEql
import Derived.Stop.Asserts
namespace Go.Proofs.YtgelbkgkjkeccaaGreatDoor
open Go.RowKit Go.Extern.Stop Go.Stop Go.Extern

/-! closed facts on the model's entries, at this program's types: 46 Code, 179 *Code, 297 *step, 298 **step, 36 error, 335 reflectlite's rtype; type handles lie in block 7 -/
theorem rlm (z : Sem Value) (f : TypeId → Addr → Nat → Nat → Sem Value) (v : Value) :
    ReflectliteValue.method z f #[v] = (do match ← ReflectliteValue.parts v with | none => z | some (t, a, fl) => f t a fl (fl % 32)) := rfl
theorem rls (v x : Value) : ReflectliteValue.set #[v, x] = (do
    let (some (dst, a, fl), some (src, b, _)) := (← ReflectliteValue.parts v, ← ReflectliteValue.parts x)
      | unsupported (.noEntry "extern/(internal/reflectlite.Value).Set.zeroValue")
    if fl / ReflectliteValue.flagAddr % 2 == 0 then unsupported (.noEntry "extern/(internal/reflectlite.Value).Set.unaddressable")
    let val ← loadVar src b
    if ← Rtype.directlyAssignable dst src then storeVar dst a val
    else if ← Rtype.implements dst src then
      if (← Rtype.kind src) == 20 then
        match val with
        | .nilIface => unsupported (.noEntry "extern/reflectlite: a nil value of one interface type handed on as a value of another")
        | _ => storeVar dst a val
      else storeVar dst a (.iface src val)
    else panicString ("reflectlite.Set: value of type " ++ (← Rtype.spelt src) ++ " is not assignable to type " ++ (← Rtype.spelt dst))
    pure (.tuple #[])) := rfl
theorem rMethodKind (h : Value) (w : World) : (Go.method 503 335 (.agg #[h]) "Kind").run Tryz.prog w = .ok (333, h) w := by kernel_rfl
theorem rMethodElem (h : Value) (w : World) : (Go.method 503 335 (.agg #[h]) "Elem").run Tryz.prog w = .ok (346, .agg #[h]) w := by kernel_rfl
theorem rMethodImplements (h : Value) (w : World) : (Go.method 503 335 (.agg #[h]) "Implements").run Tryz.prog w = .ok (347, .agg #[h]) w := by kernel_rfl
theorem rMethodAssignableTo (h : Value) (w : World) : (Go.method 503 335 (.agg #[h]) "AssignableTo").run Tryz.prog w = .ok (344, .agg #[h]) w := by kernel_rfl
theorem rMethodUnwrap (h : Value) (w : World) : (Go.method 503 297 h "Unwrap").run Tryz.prog w = .ok (342, h) w := by kernel_rfl
theorem rValueOf179 (t : Addr) (w : World) : (ReflectliteValue.unpack (.iface 179 (.pointer (some t)))).run Tryz.prog w
    = .ok (.agg #[.pointer (some ⟨7, 179, none⟩), .pointer (some ⟨w.heap.size, 0, none⟩), .int .u64 150]) (w.alloc (.cells #[.pointer (some t)] 179)) := by kernel_rfl
theorem rType179 (a : Addr) (w : World) : (ReflectliteValue.methodAny (ReflectliteValue.valueError "reflectlite.Value.Type" 0) (fun t _ _ _ => ReflectliteType.toType t) #[.agg #[.pointer (some ⟨7, 179, none⟩), .pointer (some a), .int .u64 150]]).run Tryz.prog w
    = .ok (.iface 335 (.agg #[.pointer (some ⟨7, 179, none⟩)])) w := by kernel_rfl
theorem rKind179 (w : World) : ((ReflectliteType.abiMethod fun t => (fun a : Nat => Value.int IntKind.u8 (a : Int)) <$> Rtype.kind t) #[.pointer (some ⟨7, 179, none⟩)]).run Tryz.prog w = .ok (.int .u8 22) w := by kernel_rfl
theorem rKind46 (w : World) : ((ReflectliteType.abiMethod fun t => (fun a : Nat => Value.int IntKind.u8 (a : Int)) <$> Rtype.kind t) #[.pointer (some ⟨7, 46, none⟩)]).run Tryz.prog w = .ok (.int .u8 2) w := by kernel_rfl
theorem rParts179 (a : Addr) (w : World) : (ReflectliteValue.parts (.agg #[.pointer (some ⟨7, 179, none⟩), .pointer (some a), .int .u64 150])).run Tryz.prog w = .ok (some (179, a, 150)) w := by kernel_rfl
theorem rIsNil179 (a p : Addr) (W : World) (ha : W.cell? a = some (.pointer (some p))) :
    (ReflectliteValue.method (ReflectliteValue.valueError "reflectlite.Value.IsNil" 0) ReflectliteValue.isNil #[.agg #[.pointer (some ⟨7, 179, none⟩), .pointer (some a), .int .u64 150]]).run Tryz.prog W = .ok (.bool false) W := by
  rw [rlm]
  simp only [Sem.run_bind, rParts179, Result.andThen]
  simp [ReflectliteValue.isNil, loadVar, isAgg, underlying, Tryz.underlying179, ha, Result.andThen]
theorem rElem179 (w : World) : (ReflectliteType.method ReflectliteType.elem #[.agg #[.pointer (some ⟨7, 179, none⟩)]]).run Tryz.prog w = .ok (.iface 335 (.agg #[.pointer (some ⟨7, 46, none⟩)])) w := by kernel_rfl
theorem rImplements46 (w : World) : (ReflectliteType.relation "Implements" ReflectliteType.implements_ #[.agg #[.pointer (some ⟨7, 46, none⟩)], .iface 335 (.agg #[.pointer (some ⟨7, 36, none⟩)])]).run Tryz.prog w = .ok (.bool true) w := by kernel_rfl
theorem rElemOf179 (w : World) : (Rtype.elem? 179).run Tryz.prog w = .ok (some 46) w := by kernel_rfl
theorem rMk46 (p : Addr) (w : World) : (ReflectliteValue.mk 46 p ReflectliteValue.flagAddr).run Tryz.prog w = .ok (.agg #[.pointer (some ⟨7, 46, none⟩), .pointer (some p), .int .u64 386]) w := by kernel_rfl
theorem rElemV179 (a p : Addr) (W : World) (ha : W.cell? a = some (.pointer (some p))) :
    (ReflectliteValue.method (ReflectliteValue.valueError "reflectlite.Value.Elem" 0) ReflectliteValue.elem #[.agg #[.pointer (some ⟨7, 179, none⟩), .pointer (some a), .int .u64 150]]).run Tryz.prog W
      = .ok (.agg #[.pointer (some ⟨7, 46, none⟩), .pointer (some p), .int .u64 386]) W := by
  rw [rlm]
  simp only [Sem.run_bind, rParts179, Result.andThen]
  simp [ReflectliteValue.elem, loadVar, isAgg, underlying, Tryz.underlying179, ha, Result.andThen, rElemOf179, rMk46]
theorem rTypeOf46 (v : Value) (w : World) : (ReflectliteType.typeOf #[.iface 46 v]).run Tryz.prog w = .ok (.iface 335 (.agg #[.pointer (some ⟨7, 46, none⟩)])) w := by kernel_rfl
theorem rPartsA46 (a : Addr) (w : World) : (ReflectliteValue.parts (.agg #[.pointer (some ⟨7, 46, none⟩), .pointer (some a), .int .u64 386])).run Tryz.prog w = .ok (some (46, a, 386)) w := by kernel_rfl
theorem rParts46 (a : Addr) (w : World) : (ReflectliteValue.parts (.agg #[.pointer (some ⟨7, 46, none⟩), .pointer (some a), .int .u64 130])).run Tryz.prog w = .ok (some (46, a, 130)) w := by kernel_rfl
theorem rDirect46 (w : World) : (Rtype.directlyAssignable 46 46).run Tryz.prog w = .ok true w := by kernel_rfl
theorem rSize46 (w : World) : (sizeOf 46).run Tryz.prog w = .ok 1 w := by kernel_rfl
theorem rValueOf298 (t : Addr) (w : World) : (ReflectliteValue.unpack (.iface 298 (.pointer (some t)))).run Tryz.prog w
    = .ok (.agg #[.pointer (some ⟨7, 298, none⟩), .pointer (some ⟨w.heap.size, 0, none⟩), .int .u64 150]) (w.alloc (.cells #[.pointer (some t)] 298)) := by kernel_rfl
theorem rType298 (a : Addr) (w : World) : (ReflectliteValue.methodAny (ReflectliteValue.valueError "reflectlite.Value.Type" 0) (fun t _ _ _ => ReflectliteType.toType t) #[.agg #[.pointer (some ⟨7, 298, none⟩), .pointer (some a), .int .u64 150]]).run Tryz.prog w
    = .ok (.iface 335 (.agg #[.pointer (some ⟨7, 298, none⟩)])) w := by kernel_rfl
theorem rKind298 (w : World) : ((ReflectliteType.abiMethod fun t => (fun a : Nat => Value.int IntKind.u8 (a : Int)) <$> Rtype.kind t) #[.pointer (some ⟨7, 298, none⟩)]).run Tryz.prog w = .ok (.int .u8 22) w := by kernel_rfl
theorem rKind297 (w : World) : ((ReflectliteType.abiMethod fun t => (fun a : Nat => Value.int IntKind.u8 (a : Int)) <$> Rtype.kind t) #[.pointer (some ⟨7, 297, none⟩)]).run Tryz.prog w = .ok (.int .u8 22) w := by kernel_rfl
theorem rParts298 (a : Addr) (w : World) : (ReflectliteValue.parts (.agg #[.pointer (some ⟨7, 298, none⟩), .pointer (some a), .int .u64 150])).run Tryz.prog w = .ok (some (298, a, 150)) w := by kernel_rfl
theorem rIsNil298 (a p : Addr) (W : World) (ha : W.cell? a = some (.pointer (some p))) :
    (ReflectliteValue.method (ReflectliteValue.valueError "reflectlite.Value.IsNil" 0) ReflectliteValue.isNil #[.agg #[.pointer (some ⟨7, 298, none⟩), .pointer (some a), .int .u64 150]]).run Tryz.prog W = .ok (.bool false) W := by
  rw [rlm]
  simp only [Sem.run_bind, rParts298, Result.andThen]
  simp [ReflectliteValue.isNil, loadVar, isAgg, underlying, Tryz.underlying298, ha, Result.andThen]
theorem rElem298 (w : World) : (ReflectliteType.method ReflectliteType.elem #[.agg #[.pointer (some ⟨7, 298, none⟩)]]).run Tryz.prog w = .ok (.iface 335 (.agg #[.pointer (some ⟨7, 297, none⟩)])) w := by kernel_rfl
theorem rImplements297 (w : World) : (ReflectliteType.relation "Implements" ReflectliteType.implements_ #[.agg #[.pointer (some ⟨7, 297, none⟩)], .iface 335 (.agg #[.pointer (some ⟨7, 36, none⟩)])]).run Tryz.prog w = .ok (.bool true) w := by kernel_rfl
theorem rElemOf298 (w : World) : (Rtype.elem? 298).run Tryz.prog w = .ok (some 297) w := by kernel_rfl
theorem rMk297 (p : Addr) (w : World) : (ReflectliteValue.mk 297 p ReflectliteValue.flagAddr).run Tryz.prog w = .ok (.agg #[.pointer (some ⟨7, 297, none⟩), .pointer (some p), .int .u64 406]) w := by kernel_rfl
theorem rElemV298 (a p : Addr) (W : World) (ha : W.cell? a = some (.pointer (some p))) :
    (ReflectliteValue.method (ReflectliteValue.valueError "reflectlite.Value.Elem" 0) ReflectliteValue.elem #[.agg #[.pointer (some ⟨7, 298, none⟩), .pointer (some a), .int .u64 150]]).run Tryz.prog W
      = .ok (.agg #[.pointer (some ⟨7, 297, none⟩), .pointer (some p), .int .u64 406]) W := by
  rw [rlm]
  simp only [Sem.run_bind, rParts298, Result.andThen]
  simp [ReflectliteValue.elem, loadVar, isAgg, underlying, Tryz.underlying298, ha, Result.andThen, rElemOf298, rMk297]
theorem rTypeOf297 (v : Value) (w : World) : (ReflectliteType.typeOf #[.iface 297 v]).run Tryz.prog w = .ok (.iface 335 (.agg #[.pointer (some ⟨7, 297, none⟩)])) w := by kernel_rfl
theorem rPartsA297 (a : Addr) (w : World) : (ReflectliteValue.parts (.agg #[.pointer (some ⟨7, 297, none⟩), .pointer (some a), .int .u64 406])).run Tryz.prog w = .ok (some (297, a, 406)) w := by kernel_rfl
theorem rParts297 (a : Addr) (w : World) : (ReflectliteValue.parts (.agg #[.pointer (some ⟨7, 297, none⟩), .pointer (some a), .int .u64 150])).run Tryz.prog w = .ok (some (297, a, 150)) w := by kernel_rfl
theorem rDirect297 (w : World) : (Rtype.directlyAssignable 297 297).run Tryz.prog w = .ok true w := by kernel_rfl
theorem rSize297 (w : World) : (sizeOf 297).run Tryz.prog w = .ok 1 w := by kernel_rfl
theorem rAssign46_46 (w : World) : (ReflectliteType.relation "AssignableTo" ReflectliteType.assignableTo #[.agg #[.pointer (some ⟨7, 46, none⟩)], .iface 335 (.agg #[.pointer (some ⟨7, 46, none⟩)])]).run Tryz.prog w = .ok (.bool true) w := by kernel_rfl
theorem rAssign46_297 (w : World) : (ReflectliteType.relation "AssignableTo" ReflectliteType.assignableTo #[.agg #[.pointer (some ⟨7, 46, none⟩)], .iface 335 (.agg #[.pointer (some ⟨7, 297, none⟩)])]).run Tryz.prog w = .ok (.bool false) w := by kernel_rfl
theorem rAssign297_46 (w : World) : (ReflectliteType.relation "AssignableTo" ReflectliteType.assignableTo #[.agg #[.pointer (some ⟨7, 297, none⟩)], .iface 335 (.agg #[.pointer (some ⟨7, 46, none⟩)])]).run Tryz.prog w = .ok (.bool false) w := by kernel_rfl
theorem rAssign297_297 (w : World) : (ReflectliteType.relation "AssignableTo" ReflectliteType.assignableTo #[.agg #[.pointer (some ⟨7, 297, none⟩)], .iface 335 (.agg #[.pointer (some ⟨7, 297, none⟩)])]).run Tryz.prog w = .ok (.bool true) w := by kernel_rfl
theorem rValueOf46 (c : Int) (w : World) : (ReflectliteValue.unpack (.iface 46 (.int .i64 c))).run Tryz.prog w
    = .ok (.agg #[.pointer (some ⟨7, 46, none⟩), .pointer (some ⟨w.heap.size, 0, none⟩), .int .u64 130]) (w.alloc (.cells #[.int .i64 c] 46)) := by kernel_rfl
theorem rValueOf297 (e : Addr) (w : World) : (ReflectliteValue.unpack (.iface 297 (.pointer (some e)))).run Tryz.prog w
    = .ok (.agg #[.pointer (some ⟨7, 297, none⟩), .pointer (some ⟨w.heap.size, 0, none⟩), .int .u64 150]) (w.alloc (.cells #[.pointer (some e)] 297)) := by kernel_rfl
theorem rSet46 (ta b : Addr) (c : Int) (old : Value) (W : World) (hb : W.cell? b = some (.int .i64 c)) (ht : W.cell? ta = some old) (hf : W.frozen? ta = false) :
    (ReflectliteValue.set #[.agg #[.pointer (some ⟨7, 46, none⟩), .pointer (some ta), .int .u64 386], .agg #[.pointer (some ⟨7, 46, none⟩), .pointer (some b), .int .u64 130]]).run Tryz.prog W
      = .ok (.tuple #[]) (W.setCell ta (.int .i64 c)) := by
  rw [rls]
  simp only [Sem.run_bind, rPartsA46, rParts46, Result.andThen]
  simp [ReflectliteValue.flagAddr, loadVar, isAgg, underlying, Tryz.underlying46, hb, Result.andThen, rDirect46, storeVar, Value.cells, storeCells, Addr.add]
  rw [run_store Tryz.prog W ta _ _ (by rfl)]
  simp [ht, hf]
theorem rSet297 (ta b e : Addr) (old : Value) (W : World) (hb : W.cell? b = some (.pointer (some e))) (ht : W.cell? ta = some old) (hf : W.frozen? ta = false) :
    (ReflectliteValue.set #[.agg #[.pointer (some ⟨7, 297, none⟩), .pointer (some ta), .int .u64 406], .agg #[.pointer (some ⟨7, 297, none⟩), .pointer (some b), .int .u64 150]]).run Tryz.prog W
      = .ok (.tuple #[]) (W.setCell ta (.pointer (some e))) := by
  rw [rls]
  simp only [Sem.run_bind, rPartsA297, rParts297, Result.andThen]
  simp [ReflectliteValue.flagAddr, loadVar, isAgg, underlying, Tryz.underlying297, hb, Result.andThen, rDirect297, storeVar, Value.cells, storeCells, Addr.add]
  rw [run_store Tryz.prog W ta _ _ (by rfl)]
  simp [ht, hf]


end Go.Proofs.YtgelbkgkjkeccaaGreatDoor
