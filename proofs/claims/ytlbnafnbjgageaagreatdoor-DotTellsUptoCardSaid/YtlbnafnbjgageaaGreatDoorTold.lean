/- errors.As at a target of the type *api.Errno, at an error that is an api.Errno itself; plain.Told. After the kit's worked example ToyasAs. -/
import Derived.Test.YtlbnafnbjgageaaGreatDoorFacts
import Derived.WalkKit
import Derived.LaidEql
import Derived.Stop.Asserts
import Derived.RowKitTokens
namespace Go.Proofs.YtlbnafnbjgageaaGreatDoor
open Go.RowKit Go.Extern.Stop Go.Stop Go.Extern
theorem Tryz.tValueOfP (t : Addr) (w : World) : (ReflectliteValue.unpack (.iface 286 (.pointer (some t)))).run Tryz.prog w
    = .ok (.agg #[.pointer (some ⟨10, 286, none⟩), .pointer (some ⟨w.heap.size, 0, none⟩), .int .u64 150]) (w.alloc (.cells #[.pointer (some t)] 286)) := by kernel_rfl
theorem Tryz.tTypeP (a : Addr) (w : World) : (ReflectliteValue.methodAny (ReflectliteValue.valueError "reflectlite.Value.Type" 0) (fun t _ _ _ => ReflectliteType.toType t) #[.agg #[.pointer (some ⟨10, 286, none⟩), .pointer (some a), .int .u64 150]]).run Tryz.prog w
    = .ok (.iface 379 (.agg #[.pointer (some ⟨10, 286, none⟩)])) w := by kernel_rfl
theorem Tryz.tValueOfE (n : Int) (w : World) : (ReflectliteValue.unpack (.iface 160 (.int .i64 n))).run Tryz.prog w
    = .ok (.agg #[.pointer (some ⟨10, 160, none⟩), .pointer (some ⟨w.heap.size, 0, none⟩), .int .u64 130]) (w.alloc (.cells #[.int .i64 n] 160)) := by kernel_rfl
theorem Tryz.tKindP (w : World) : ((ReflectliteType.abiMethod fun t => (fun a : Nat => Value.int IntKind.u8 (a : Int)) <$> Rtype.kind t) #[.pointer (some ⟨10, 286, none⟩)]).run Tryz.prog w = .ok (.int .u8 22) w := by kernel_rfl
theorem Tryz.tKindE (w : World) : ((ReflectliteType.abiMethod fun t => (fun a : Nat => Value.int IntKind.u8 (a : Int)) <$> Rtype.kind t) #[.pointer (some ⟨10, 160, none⟩)]).run Tryz.prog w = .ok (.int .u8 2) w := by kernel_rfl
theorem Tryz.tMethodKind (h : Value) (w : World) : (Go.method 587 379 (.agg #[h]) "Kind").run Tryz.prog w = .ok (388, h) w := by kernel_rfl
theorem Tryz.tMethodElem (h : Value) (w : World) : (Go.method 587 379 (.agg #[h]) "Elem").run Tryz.prog w = .ok (401, .agg #[h]) w := by kernel_rfl
theorem Tryz.tMethodImplements (h : Value) (w : World) : (Go.method 587 379 (.agg #[h]) "Implements").run Tryz.prog w = .ok (402, .agg #[h]) w := by kernel_rfl
theorem Tryz.tMethodAssignable (h : Value) (w : World) : (Go.method 587 379 (.agg #[h]) "AssignableTo").run Tryz.prog w = .ok (399, .agg #[h]) w := by kernel_rfl
theorem tMethod (z : Sem Value) (f : TypeId → Addr → Nat → Nat → Sem Value) (v : Value) :
    ReflectliteValue.method z f #[v] = (do match ← ReflectliteValue.parts v with | none => z | some (t, a, fl) => f t a fl (fl % 32)) := rfl
theorem Tryz.tPartsP (a : Addr) (w : World) : (ReflectliteValue.parts (.agg #[.pointer (some ⟨10, 286, none⟩), .pointer (some a), .int .u64 150])).run Tryz.prog w = .ok (some (286, a, 150)) w := by kernel_rfl
theorem Tryz.tIsNilP (a p : Addr) (W : World) (ha : W.cell? a = some (.pointer (some p))) :
    (ReflectliteValue.method (ReflectliteValue.valueError "reflectlite.Value.IsNil" 0) ReflectliteValue.isNil #[.agg #[.pointer (some ⟨10, 286, none⟩), .pointer (some a), .int .u64 150]]).run Tryz.prog W = .ok (.bool false) W := by
  rw [tMethod]
  simp only [Sem.run_bind, Tryz.tPartsP, Result.andThen]
  simp [ReflectliteValue.isNil, loadVar, isAgg, underlying, Tryz.underlying286, ha, Result.andThen]
theorem Tryz.tElemP (w : World) : (ReflectliteType.method ReflectliteType.elem #[.agg #[.pointer (some ⟨10, 286, none⟩)]]).run Tryz.prog w = .ok (.iface 379 (.agg #[.pointer (some ⟨10, 160, none⟩)])) w := by kernel_rfl
theorem Tryz.tImplementsE (w : World) : (ReflectliteType.relation "Implements" ReflectliteType.implements_ #[.agg #[.pointer (some ⟨10, 160, none⟩)], .iface 379 (.agg #[.pointer (some ⟨10, 32, none⟩)])]).run Tryz.prog w = .ok (.bool true) w := by kernel_rfl
theorem Tryz.tTypeOfE (v : Value) (w : World) : (ReflectliteType.typeOf #[.iface 160 v]).run Tryz.prog w = .ok (.iface 379 (.agg #[.pointer (some ⟨10, 160, none⟩)])) w := by kernel_rfl
theorem Tryz.tAssignableE (w : World) : (ReflectliteType.relation "AssignableTo" ReflectliteType.assignableTo #[.agg #[.pointer (some ⟨10, 160, none⟩)], .iface 379 (.agg #[.pointer (some ⟨10, 160, none⟩)])]).run Tryz.prog w = .ok (.bool true) w := by kernel_rfl
theorem Tryz.tElemOfP (w : World) : (Rtype.elem? 286).run Tryz.prog w = .ok (some 160) w := by kernel_rfl
theorem Tryz.tMkE (p : Addr) (w : World) : (ReflectliteValue.mk 160 p ReflectliteValue.flagAddr).run Tryz.prog w = .ok (.agg #[.pointer (some ⟨10, 160, none⟩), .pointer (some p), .int .u64 386]) w := by kernel_rfl
theorem Tryz.tElemVP (a p : Addr) (W : World) (ha : W.cell? a = some (.pointer (some p))) :
    (ReflectliteValue.method (ReflectliteValue.valueError "reflectlite.Value.Elem" 0) ReflectliteValue.elem #[.agg #[.pointer (some ⟨10, 286, none⟩), .pointer (some a), .int .u64 150]]).run Tryz.prog W
      = .ok (.agg #[.pointer (some ⟨10, 160, none⟩), .pointer (some p), .int .u64 386]) W := by
  rw [tMethod]
  simp only [Sem.run_bind, Tryz.tPartsP, Result.andThen]
  simp [ReflectliteValue.elem, loadVar, isAgg, underlying, Tryz.underlying286, ha, Result.andThen, Tryz.tElemOfP, Tryz.tMkE]
theorem tSet (v x : Value) : ReflectliteValue.set #[v, x] = (do
    let (some (dst, a, fl), some (src, b, _)) := (← ReflectliteValue.parts v, ← ReflectliteValue.parts x)
      | unsupported (.noEntry "extern/(internal/reflectlite.Value).Set.zeroValue")
    if fl / ReflectliteValue.flagAddr % 2 == 0 then unsupported (.noEntry "extern/(internal/reflectlite.Value).Set.unaddressable")
    let val ← loadVar src b
    if ← Rtype.directlyAssignable dst src then storeVar dst a val
    else if ← Rtype.implements dst src then
      if (← Rtype.kind src) == 20 then
        match val with
        | .nilIface => unsupported (.noEntry "extern/reflectlite: a nil value of one interface type handed on as a value of another")
        | _ => storeVar dst a val
      else storeVar dst a (.iface src val)
    else panicString ("reflectlite.Set: value of type " ++ (← Rtype.spelt src) ++ " is not assignable to type " ++ (← Rtype.spelt dst))
    pure (.tuple #[])) := rfl
theorem Tryz.tPartsEa (a : Addr) (w : World) : (ReflectliteValue.parts (.agg #[.pointer (some ⟨10, 160, none⟩), .pointer (some a), .int .u64 386])).run Tryz.prog w = .ok (some (160, a, 386)) w := by kernel_rfl
theorem Tryz.tPartsE (a : Addr) (w : World) : (ReflectliteValue.parts (.agg #[.pointer (some ⟨10, 160, none⟩), .pointer (some a), .int .u64 130])).run Tryz.prog w = .ok (some (160, a, 130)) w := by kernel_rfl
theorem Tryz.tDirectE (w : World) : (Rtype.directlyAssignable 160 160).run Tryz.prog w = .ok true w := by kernel_rfl
theorem Tryz.tSetE (ta b : Addr) (n : Int) (old : Value) (W : World) (hb : W.cell? b = some (.int .i64 n)) (ht : W.cell? ta = some old) (hf : W.frozen? ta = false) :
    (ReflectliteValue.set #[.agg #[.pointer (some ⟨10, 160, none⟩), .pointer (some ta), .int .u64 386], .agg #[.pointer (some ⟨10, 160, none⟩), .pointer (some b), .int .u64 130]]).run Tryz.prog W
      = .ok (.tuple #[]) (W.setCell ta (.int .i64 n)) := by
  rw [tSet]
  simp only [Sem.run_bind, Tryz.tPartsEa, Tryz.tPartsE, Result.andThen]
  simp [ReflectliteValue.flagAddr, loadVar, isAgg, underlying, Tryz.underlying160, hb, Result.andThen, Tryz.tDirectE, storeVar, Value.cells, storeCells, Addr.add]
  rw [run_store Tryz.prog W ta _ _ (by rfl)]
  simp [ht, hf]
end Go.Proofs.YtlbnafnbjgageaaGreatDoor
