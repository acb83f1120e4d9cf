/-
  errors.Is at two equal pointers.
-/
import Derived.Test.Qxb6500848aGreatDoorPlain
import Derived.Test.Qxb6500848aGreatDoorChecked
import Derived.WalkKit
import Derived.LaidEql
import Derived.RowKitTokens
namespace Go.Proofs.Qxb6500848aGreatDoor
open Go.RowKit Go.Extern
set_option maxRecDepth 100000

theorem isTypeOf (v : Value) (w : World) : (Extern.ReflectliteType.typeOf #[.iface 216 v]).run Tryz.prog w = .ok (.iface 163 (.agg #[.pointer (some ⟨4, 216, none⟩)])) w := by kernel_rfl
def cmpFn : Array Value → Sem Value := Extern.ReflectliteType.method fun t => do Go.Extern.Rtype.noPackHeld "Comparable" t; pure (.bool (← typeInfo t).comparable)
theorem isComparable (w : World) : (cmpFn #[.agg #[.pointer (some ⟨4, 216, none⟩)]]).run Tryz.prog w = .ok (.bool true) w := by kernel_rfl
theorem isMethodComparable (v : Value) (w : World) : (Go.method 353 163 v "Comparable").run Tryz.prog w = .ok (184, v) w := by kernel_rfl
theorem isComp : (Tryz.prog.info? 216).map (·.comparable) = some true := by kernel_rfl
theorem isSize : (Tryz.prog.info? 241).map (·.size) = some 1 := by kernel_rfl

/-- errors.Is(x, x), x a pointer to an errors.errorString. -/
theorem is_same (a : Addr) (w : World) :
    Calls Tryz.prog 27 #[.iface 216 (.pointer (some a)), .iface 216 (.pointer (some a))] w fun e w' => e = .returned (.bool true) ∧ w' = w := by
  obtain ⟨i, hi, hcmp⟩ := Option.map_eq_some_iff.1 isComp
  obtain ⟨j, hj, hjs⟩ := Option.map_eq_some_iff.1 isSize
  have h8 := @run_callFunc_extern Tryz.prog 80 _ Extern.ReflectliteType.typeOf Tryz.func80 (by kernel_rfl) (by kernel_rfl) (by kernel_rfl) (by kernel_rfl)
  have h32 := @run_callFunc_extern Tryz.prog 184 _ cmpFn Tryz.func184 (by kernel_rfl) (by kernel_rfl) (by kernel_rfl) (by kernel_rfl)
  have tT := isTypeOf
  have cT := isComparable
  have mR := isMethodComparable
  have heq := run_eql_iface_ptr_same (P := Tryz.prog) w a Tryz.underlying33 Tryz.underlying216 hi hcmp hj
  go_enter Tryz.func27, Tryz.ntmps27
  go_wp2
  refine wp_loop_rounds 1 ?_
  rw [rounds_succ]
  go_wp2
  go_ret
  exact ⟨rfl, rfl⟩
end Go.Proofs.Qxb6500848aGreatDoor
