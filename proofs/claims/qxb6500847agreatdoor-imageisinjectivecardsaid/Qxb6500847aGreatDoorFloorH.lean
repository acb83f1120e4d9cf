/-
  errors.As at a *ImageError that unwraps to an *Error; CodeOf.
-/
import Derived.Test.Qxb6500847aGreatDoorFloorG
import Derived.LaidEql
import Derived.Stop.Asserts
import Derived.RowKitTokens
namespace Go.Proofs.Qxb6500847aGreatDoor.FloorA
open Go.RowKit Go.Extern.Stop Go.Stop Go.Extern
set_option maxRecDepth 100000

/-! ### Closed facts on the model's entries for internal/reflectlite at this dump's types: 212 *Error, 214 **Error, 218 *ImageError, 45 error, 389 rtype; six package-level variables -/
theorem valueOf214 (t : Addr) (w : World) : (ReflectliteValue.unpack (.iface 214 (.pointer (some t)))).run Tryz.prog w
    = .ok (.agg #[.pointer (some ⟨6, 214, none⟩), .pointer (some ⟨w.heap.size, 0, none⟩), .int .u64 150]) (w.alloc (.cells #[.pointer (some t)] 214)) := by kernel_rfl
theorem type214 (a : Addr) (w : World) : (ReflectliteValue.methodAny (ReflectliteValue.valueError "reflectlite.Value.Type" 0) (fun t _ _ _ => ReflectliteType.toType t) #[.agg #[.pointer (some ⟨6, 214, none⟩), .pointer (some a), .int .u64 150]]).run Tryz.prog w
    = .ok (.iface 389 (.agg #[.pointer (some ⟨6, 214, none⟩)])) w := by kernel_rfl
theorem kind214 (w : World) : ((ReflectliteType.abiMethod fun t => (fun a : Nat => Value.int IntKind.u8 (a : Int)) <$> Rtype.kind t) #[.pointer (some ⟨6, 214, none⟩)]).run Tryz.prog w = .ok (.int .u8 22) w := by kernel_rfl
theorem kind212 (w : World) : ((ReflectliteType.abiMethod fun t => (fun a : Nat => Value.int IntKind.u8 (a : Int)) <$> Rtype.kind t) #[.pointer (some ⟨6, 212, none⟩)]).run Tryz.prog w = .ok (.int .u8 22) w := by kernel_rfl
theorem rlm (z : Sem Value) (f : TypeId → Addr → Nat → Nat → Sem Value) (v : Value) :
    ReflectliteValue.method z f #[v] = (do match ← ReflectliteValue.parts v with | none => z | some (t, a, fl) => f t a fl (fl % 32)) := rfl
theorem parts214 (a : Addr) (w : World) : (ReflectliteValue.parts (.agg #[.pointer (some ⟨6, 214, none⟩), .pointer (some a), .int .u64 150])).run Tryz.prog w = .ok (some (214, a, 150)) w := by kernel_rfl
theorem isNil214 (a p : Addr) (W : World) (ha : W.cell? a = some (.pointer (some p))) :
    (ReflectliteValue.method (ReflectliteValue.valueError "reflectlite.Value.IsNil" 0) ReflectliteValue.isNil #[.agg #[.pointer (some ⟨6, 214, none⟩), .pointer (some a), .int .u64 150]]).run Tryz.prog W = .ok (.bool false) W := by
  rw [rlm]
  simp only [Sem.run_bind, parts214, Result.andThen]
  simp [ReflectliteValue.isNil, loadVar, isAgg, underlying, Tryz.underlying214, ha, Result.andThen]
theorem elem214 (w : World) : (ReflectliteType.method ReflectliteType.elem #[.agg #[.pointer (some ⟨6, 214, none⟩)]]).run Tryz.prog w = .ok (.iface 389 (.agg #[.pointer (some ⟨6, 212, none⟩)])) w := by kernel_rfl
theorem implements212 (w : World) : (ReflectliteType.relation "Implements" ReflectliteType.implements_ #[.agg #[.pointer (some ⟨6, 212, none⟩)], .iface 389 (.agg #[.pointer (some ⟨6, 45, none⟩)])]).run Tryz.prog w = .ok (.bool true) w := by kernel_rfl
theorem typeOf212 (v : Value) (w : World) : (ReflectliteType.typeOf #[.iface 212 v]).run Tryz.prog w = .ok (.iface 389 (.agg #[.pointer (some ⟨6, 212, none⟩)])) w := by kernel_rfl
theorem typeOf218 (v : Value) (w : World) : (ReflectliteType.typeOf #[.iface 218 v]).run Tryz.prog w = .ok (.iface 389 (.agg #[.pointer (some ⟨6, 218, none⟩)])) w := by kernel_rfl
theorem assignable212 (w : World) : (ReflectliteType.relation "AssignableTo" ReflectliteType.assignableTo #[.agg #[.pointer (some ⟨6, 212, none⟩)], .iface 389 (.agg #[.pointer (some ⟨6, 212, none⟩)])]).run Tryz.prog w = .ok (.bool true) w := by kernel_rfl
theorem assignable218 (w : World) : (ReflectliteType.relation "AssignableTo" ReflectliteType.assignableTo #[.agg #[.pointer (some ⟨6, 218, none⟩)], .iface 389 (.agg #[.pointer (some ⟨6, 212, none⟩)])]).run Tryz.prog w = .ok (.bool false) w := by kernel_rfl
theorem valueOf212 (e : Addr) (w : World) : (ReflectliteValue.unpack (.iface 212 (.pointer (some e)))).run Tryz.prog w
    = .ok (.agg #[.pointer (some ⟨6, 212, none⟩), .pointer (some ⟨w.heap.size, 0, none⟩), .int .u64 150]) (w.alloc (.cells #[.pointer (some e)] 212)) := by kernel_rfl
theorem elemOf214 (w : World) : (Rtype.elem? 214).run Tryz.prog w = .ok (some 212) w := by kernel_rfl
theorem mk212 (p : Addr) (w : World) : (ReflectliteValue.mk 212 p ReflectliteValue.flagAddr).run Tryz.prog w = .ok (.agg #[.pointer (some ⟨6, 212, none⟩), .pointer (some p), .int .u64 406]) w := by kernel_rfl
theorem elemV214 (a p : Addr) (W : World) (ha : W.cell? a = some (.pointer (some p))) :
    (ReflectliteValue.method (ReflectliteValue.valueError "reflectlite.Value.Elem" 0) ReflectliteValue.elem #[.agg #[.pointer (some ⟨6, 214, none⟩), .pointer (some a), .int .u64 150]]).run Tryz.prog W
      = .ok (.agg #[.pointer (some ⟨6, 212, none⟩), .pointer (some p), .int .u64 406]) W := by
  rw [rlm]
  simp only [Sem.run_bind, parts214, Result.andThen]
  simp [ReflectliteValue.elem, loadVar, isAgg, underlying, Tryz.underlying214, ha, Result.andThen, elemOf214, mk212]
theorem rls (v x : Value) : ReflectliteValue.set #[v, x] = (do
    let (some (dst, a, fl), some (src, b, _)) := (← ReflectliteValue.parts v, ← ReflectliteValue.parts x)
      | unsupported (.noEntry "extern/(internal/reflectlite.Value).Set.zeroValue")
    if fl / ReflectliteValue.flagAddr % 2 == 0 then unsupported (.noEntry "extern/(internal/reflectlite.Value).Set.unaddressable")
    let val ← loadVar src b
    if ← Rtype.directlyAssignable dst src then storeVar dst a val
    else if ← Rtype.implements dst src then
      if (← Rtype.kind src) == 20 then
        match val with
        | .nilIface => unsupported (.noEntry "extern/reflectlite: a nil value of one interface type handed on as a value of another")
        | _ => storeVar dst a val
      else storeVar dst a (.iface src val)
    else panicString ("reflectlite.Set: value of type " ++ (← Rtype.spelt src) ++ " is not assignable to type " ++ (← Rtype.spelt dst))
    pure (.tuple #[])) := rfl
theorem parts212a (a : Addr) (w : World) : (ReflectliteValue.parts (.agg #[.pointer (some ⟨6, 212, none⟩), .pointer (some a), .int .u64 406])).run Tryz.prog w = .ok (some (212, a, 406)) w := by kernel_rfl
theorem parts212 (a : Addr) (w : World) : (ReflectliteValue.parts (.agg #[.pointer (some ⟨6, 212, none⟩), .pointer (some a), .int .u64 150])).run Tryz.prog w = .ok (some (212, a, 150)) w := by kernel_rfl
theorem direct212 (w : World) : (Rtype.directlyAssignable 212 212).run Tryz.prog w = .ok true w := by kernel_rfl
theorem set212 (ta b e : Addr) (old : Value) (W : World) (hb : W.cell? b = some (.pointer (some e))) (ht : W.cell? ta = some old) (hf : W.frozen? ta = false) :
    (ReflectliteValue.set #[.agg #[.pointer (some ⟨6, 212, none⟩), .pointer (some ta), .int .u64 406], .agg #[.pointer (some ⟨6, 212, none⟩), .pointer (some b), .int .u64 150]]).run Tryz.prog W
      = .ok (.tuple #[]) (W.setCell ta (.pointer (some e))) := by
  rw [rls]
  simp only [Sem.run_bind, parts212a, parts212, Result.andThen]
  simp [ReflectliteValue.flagAddr, loadVar, isAgg, underlying, Tryz.underlying212, hb, Result.andThen, direct212, storeVar, Value.cells, storeCells, Addr.add]
  rw [run_store Tryz.prog W ta _ _ (by rfl)]
  simp [ht, hf]

set_option maxHeartbeats 800000 in
theorem unwrap_any (b : Nat) (s : ByteArray) (w : World) (h1 : w.cell? ⟨b, 1, none⟩ = some (.string s)) :
    Calls Tryz.prog 365 #[.pointer (some ⟨b, 0, none⟩)] w fun e w' => e = .returned (.iface 212 (.pointer (some ⟨w.heap.size, 0, none⟩))) ∧ ∃ o : Array Value, o[0]? = some (.int .u8 17) ∧ w' = w.alloc (.cells o 216) := by
  go_enter Tryz.func365, Tryz.ntmps365
  go_wp2
  go_ret
  refine ⟨rfl, _, ?_, rfl⟩
  rfl
end Go.Proofs.Qxb6500847aGreatDoor.FloorA
