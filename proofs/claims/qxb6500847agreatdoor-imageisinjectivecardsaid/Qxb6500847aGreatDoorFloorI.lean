/-
  The walk of errors.as, errors.As and CodeOf.
-/
import Derived.Test.Qxb6500847aGreatDoorFloorH
namespace Go.Proofs.Qxb6500847aGreatDoor.FloorA
open Go.RowKit Go.Extern.Stop Go.Stop Go.Extern
set_option maxRecDepth 100000

theorem methodAssignableTo (h : Value) (w : World) : (Go.method 591 389 (.agg #[h]) "AssignableTo").run Tryz.prog w = .ok (391, .agg #[h]) w := by kernel_rfl
theorem methodKind (h : Value) (w : World) : (Go.method 591 389 (.agg #[h]) "Kind").run Tryz.prog w = .ok (352, h) w := by kernel_rfl
theorem methodElem (h : Value) (w : World) : (Go.method 591 389 (.agg #[h]) "Elem").run Tryz.prog w = .ok (393, .agg #[h]) w := by kernel_rfl
theorem methodImplements (h : Value) (w : World) : (Go.method 591 389 (.agg #[h]) "Implements").run Tryz.prog w = .ok (394, .agg #[h]) w := by kernel_rfl
theorem methodUnwrap (p : Value) (w : World) : (Go.method 591 218 p "Unwrap").run Tryz.prog w = .ok (365, p) w := by kernel_rfl

theorem noAs218 (v : Value) (xT : TypeId) (w : World) : (Instr.typeAssert (.iface 218 v) xT 394 true).run Tryz.prog w = .ok (.tuple #[.nilIface, .bool false]) w := run_typeAssert_lacksB Tryz.underlying394 (by kernel_rfl) (by kernel_rfl) v xT w
theorem hasUnwrap218 (v : Value) (xT : TypeId) (w : World) : (Instr.typeAssert (.iface 218 v) xT 397 true).run Tryz.prog w = .ok (.tuple #[.iface 218 v, .bool true]) w := run_typeAssert_hasB Tryz.underlying397 (by kernel_rfl) v xT w

set_option maxHeartbeats 4000000 in
/-- errors.as over a chain of two: a *ImageError, then the *Error that it unwraps to. -/
theorem as_inner (b B : Nat) (s : ByteArray) (t a : Addr) (old : Value) (w : World) (h1 : w.cell? ⟨b, 1, none⟩ = some (.string s)) (ht : w.cell? t = some old) (hf : w.frozen? t = false) (ha : w.cell? a = some (.pointer (some t))) (htB : B ≤ t.block) (hB : B ≤ w.heap.size) :
    Calls Tryz.prog 223 #[.iface 218 (.pointer (some ⟨b, 0, none⟩)), .iface 214 (.pointer (some t)), .agg #[.pointer (some ⟨6, 214, none⟩), .pointer (some a), .int .u64 150], .iface 389 (.agg #[.pointer (some ⟨6, 212, none⟩)])] w
      fun e w' => e = .returned (.bool true) ∧ ∃ c, w'.cell? t = some (.pointer (some ⟨c, 0, none⟩)) ∧ w'.cell? ⟨c, 0, none⟩ = some (.int .u8 17) ∧ Below B w w' := by
  have h278 := @run_callFunc_extern Tryz.prog 278 _ ReflectliteType.typeOf Tryz.func278 (by kernel_rfl) (by kernel_rfl) (by kernel_rfl) (by kernel_rfl)
  have h391 := @run_callFunc_extern Tryz.prog 391 _ (ReflectliteType.relation "AssignableTo" ReflectliteType.assignableTo) Tryz.func391 (by kernel_rfl) (by kernel_rfl) (by kernel_rfl) (by kernel_rfl)
  have h279 := @run_callFunc_extern Tryz.prog 279 _ (ReflectliteValue.method (ReflectliteValue.valueError "reflectlite.Value.Elem" 0) ReflectliteValue.elem) Tryz.func279 (by kernel_rfl) (by kernel_rfl) (by kernel_rfl) (by kernel_rfl)
  have h280 := @run_callFunc_extern Tryz.prog 280 _ ReflectliteValue.set Tryz.func280 (by kernel_rfl) (by kernel_rfl) (by kernel_rfl) (by kernel_rfl)
  have h220 := @run_callFunc_extern Tryz.prog 220 _ (fun args => ReflectliteValue.unpack (args.getD 0 (.tuple #[]))) Tryz.func220 (by kernel_rfl) (by kernel_rfl) (by kernel_rfl) (by kernel_rfl)
  have t218 := typeOf218
  have mA := methodAssignableTo
  have mU := methodUnwrap
  have t212 := typeOf212
  have a218 := assignable218
  have a212 := assignable212
  have v212 := valueOf212
  go_enter Tryz.func223, Tryz.ntmps223
  go_wp2_with fail
  refine wp_loop_rounds 2 ?_
  rw [rounds_succ]
  have nA := noAs218
  have hU := hasUnwrap218
  have hbl : b < w.heap.size := cell_lt h1
  go_wp2_with fail
  refine (unwrap_any b s _ (by rw [World.cell?_alloc_lt _ _ ⟨b, 1, none⟩ hbl]; exact h1)).mono ?_
  rintro e w1 ⟨rfl, o, ho, rfl⟩
  have HO := hideIt ho
  clear ho
  rw [show (w.alloc (.cells #[.pointer (some ⟨6, 214, none⟩), .pointer (some a), .int .u64 150] 339)).heap.size = w.heap.size + 1 by simp]
  go_wp2_with fail
  rw [rounds_succ]
  have htl : t.block < w.heap.size := cell_lt ht
  have hal : a.block < w.heap.size := cell_lt ha
  have s1 : (w.alloc (.cells #[.pointer (some ⟨6, 214, none⟩), .pointer (some a), .int .u64 150] 339)).heap.size = w.heap.size + 1 := by simp
  have s2 : ((w.alloc (.cells #[.pointer (some ⟨6, 214, none⟩), .pointer (some a), .int .u64 150] 339)).alloc (.cells o 216)).heap.size = w.heap.size + 1 + 1 := by simp
  have el := elemV214 a t ((w.alloc (.cells #[.pointer (some ⟨6, 214, none⟩), .pointer (some a), .int .u64 150] 339)).alloc (.cells o 216)) (by rw [World.cell?_alloc_lt _ _ a (by omega), World.cell?_alloc_lt _ _ a hal]; exact ha)
  have st := set212 t ⟨w.heap.size + 1 + 1, 0, none⟩ ⟨w.heap.size + 1, 0, none⟩ old (((w.alloc (.cells #[.pointer (some ⟨6, 214, none⟩), .pointer (some a), .int .u64 150] 339)).alloc (.cells o 216)).alloc (.cells #[.pointer (some ⟨w.heap.size + 1, 0, none⟩)] 212))
    (by rw [← s2]; exact cell_of_one (heap_alloc_new _ _))
    (by rw [World.cell?_alloc_lt _ _ t (by omega), World.cell?_alloc_lt _ _ t (by omega), World.cell?_alloc_lt _ _ t htl]; exact ht)
    (by rw [World.frozen?_alloc_old _ _ t (by omega), World.frozen?_alloc_old _ _ t (by omega), World.frozen?_alloc_old _ _ t (by omega)]; exact hf)
  have HS2 := hideIt s2
  have HS1 := hideIt s1
  clear s1 s2
  go_wp2
  go_ret
  refine ⟨rfl, w.heap.size + 1, ?_, ?_, ?_⟩
  · refine set_same (u := old) ?_
    rw [World.cell?_alloc_lt _ _ t (by rw [HS2.out]; omega), World.cell?_alloc_lt _ _ t (by rw [HS1.out]; omega), World.cell?_alloc_lt _ _ t htl]; exact ht
  · rw [set_other (fun e => by have := congrArg Addr.block e; simp at this; omega)]
    rw [World.cell?_alloc_lt _ _ ⟨w.heap.size + 1, 0, none⟩ (by rw [HS2.out]; show w.heap.size + 1 < _; omega)]
    have hn := heap_alloc_new (w.alloc (.cells #[.pointer (some ⟨6, 214, none⟩), .pointer (some a), .int .u64 150] 339)) (.cells o 216)
    rw [HS1.out] at hn
    rw [World.cell?]
    simp only [hn]
    simpa using HO.out
  · exact ((((Below.refl _ _).alloc hB _).alloc (by rw [HS1.out]; omega) _).alloc (by rw [HS2.out]; omega) _).setCell htB _

set_option maxHeartbeats 4000000 in
theorem as_any (b B : Nat) (s : ByteArray) (t : Addr) (old : Value) (w : World) (hg : w.cell? ⟨2, 0, none⟩ = some (.iface 389 (.agg #[.pointer (some ⟨6, 45, none⟩)])))
    (h1 : w.cell? ⟨b, 1, none⟩ = some (.string s)) (ht : w.cell? t = some old) (hf : w.frozen? t = false) (htB : B ≤ t.block) (hB : B ≤ w.heap.size) :
    Calls Tryz.prog 99 #[.iface 218 (.pointer (some ⟨b, 0, none⟩)), .iface 214 (.pointer (some t))] w
      fun e w' => e = .returned (.bool true) ∧ ∃ c, w'.cell? t = some (.pointer (some ⟨c, 0, none⟩)) ∧ w'.cell? ⟨c, 0, none⟩ = some (.int .u8 17) ∧ Below B w w' := by
  have h220 := @run_callFunc_extern Tryz.prog 220 _ (fun args => ReflectliteValue.unpack (args.getD 0 (.tuple #[]))) Tryz.func220 (by kernel_rfl) (by kernel_rfl) (by kernel_rfl) (by kernel_rfl)
  have h221 := @run_callFunc_extern Tryz.prog 221 _ (ReflectliteValue.methodAny (ReflectliteValue.valueError "reflectlite.Value.Type" 0) (fun t _ _ _ => ReflectliteType.toType t)) Tryz.func221 (by kernel_rfl) (by kernel_rfl) (by kernel_rfl) (by kernel_rfl)
  have h222 := @run_callFunc_extern Tryz.prog 222 _ (ReflectliteValue.method (ReflectliteValue.valueError "reflectlite.Value.IsNil" 0) ReflectliteValue.isNil) Tryz.func222 (by kernel_rfl) (by kernel_rfl) (by kernel_rfl) (by kernel_rfl)
  have h352 := @run_callFunc_extern Tryz.prog 352 _ (ReflectliteType.abiMethod fun t => do pure (.int .u8 (← Rtype.kind t))) Tryz.func352 (by kernel_rfl) (by kernel_rfl) (by kernel_rfl) (by kernel_rfl)
  have h393 := @run_callFunc_extern Tryz.prog 393 _ (ReflectliteType.method ReflectliteType.elem) Tryz.func393 (by kernel_rfl) (by kernel_rfl) (by kernel_rfl) (by kernel_rfl)
  have h394 := @run_callFunc_extern Tryz.prog 394 _ (ReflectliteType.relation "Implements" ReflectliteType.implements_) Tryz.func394 (by kernel_rfl) (by kernel_rfl) (by kernel_rfl) (by kernel_rfl)
  have v214 := valueOf214
  have ty214 := type214
  have mK := methodKind
  have mE := methodElem
  have mI := methodImplements
  have k214 := kind214
  have k212 := kind212
  have e214 := elem214
  have i212 := implements212
  have htl : t.block < w.heap.size := cell_lt ht
  have hbl : b < w.heap.size := cell_lt h1
  have hgl : 2 < w.heap.size := cell_lt hg
  have s1 : (w.alloc (.cells #[.pointer (some t)] 214)).heap.size = w.heap.size + 1 := by simp
  have s2 : ((w.alloc (.cells #[.pointer (some t)] 214)).alloc (.cells #[.pointer (some ⟨6, 214, none⟩), .pointer (some ⟨w.heap.size, 0, none⟩), .int .u64 150] 339)).heap.size = w.heap.size + 1 + 1 := by simp
  have c0 : ((w.alloc (.cells #[.pointer (some t)] 214)).alloc (.cells #[.pointer (some ⟨6, 214, none⟩), .pointer (some ⟨w.heap.size, 0, none⟩), .int .u64 150] 339)).cell? ⟨w.heap.size, 0, none⟩ = some (.pointer (some t)) := by
    rw [World.cell?_alloc_lt _ _ ⟨w.heap.size, 0, none⟩ (by rw [s1]; show w.heap.size < _; omega)]
    exact cell_of_one (heap_alloc_new w _)
  have hold : ∀ p : Addr, p.block < w.heap.size → ((w.alloc (.cells #[.pointer (some t)] 214)).alloc (.cells #[.pointer (some ⟨6, 214, none⟩), .pointer (some ⟨w.heap.size, 0, none⟩), .int .u64 150] 339)).cell? p = w.cell? p := by
    intro p hp
    rw [World.cell?_alloc_lt _ _ p (by rw [s1]; omega), World.cell?_alloc_lt _ _ p hp]
  have n214 := isNil214 ⟨w.heap.size, 0, none⟩ t ((w.alloc (.cells #[.pointer (some t)] 214)).alloc (.cells #[.pointer (some ⟨6, 214, none⟩), .pointer (some ⟨w.heap.size, 0, none⟩), .int .u64 150] 339)) c0
  have hg2 := (hold ⟨2, 0, none⟩ hgl).trans hg
  have HH1 := hideIt ((hold ⟨b, 1, none⟩ hbl).trans h1)
  have HHT := hideIt ((hold t htl).trans ht)
  have HC0 := hideIt c0
  have HF : Hid (((w.alloc (.cells #[.pointer (some t)] 214)).alloc (.cells #[.pointer (some ⟨6, 214, none⟩), .pointer (some ⟨w.heap.size, 0, none⟩), .int .u64 150] 339)).frozen? t = false) := by
    rw [World.frozen?_alloc_old _ _ t (by omega), World.frozen?_alloc_old _ _ t (by omega)]; exact hf
  have HS2 := hideIt s2
  have HS1 := hideIt s1
  clear s1 s2 c0 hold
  go_enter Tryz.func99, Tryz.ntmps99
  go_wp2_with fail
  refine (as_inner b B s t ⟨w.heap.size, 0, none⟩ old _ HH1.out HHT.out HF.out HC0.out htB (by rw [HS2.out]; omega)).mono ?_
  rintro e w1 ⟨rfl, c, q1, q2, q3⟩
  have Q1 := hideIt q1
  have Q2 := hideIt q2
  have Q3 := hideIt q3
  clear q1 q2 q3
  go_wp2
  go_ret
  exact ⟨rfl, c, Q1.out, Q2.out, (((Below.refl _ _).alloc hB _).alloc (by rw [HS1.out]; omega) _).trans Q3.out⟩

set_option maxHeartbeats 1600000 in
theorem codeOf_any (b : Nat) (s : ByteArray) (w : World) (hg : w.cell? ⟨2, 0, none⟩ = some (.iface 389 (.agg #[.pointer (some ⟨6, 45, none⟩)]))) (h1 : w.cell? ⟨b, 1, none⟩ = some (.string s)) :
    Calls Tryz.prog 26 #[.iface 218 (.pointer (some ⟨b, 0, none⟩))] w fun e w' => e = .returned (.int .u8 17) ∧ Below w.heap.size w w' := by
  have hbl : b < w.heap.size := cell_lt h1
  have hgl : 2 < w.heap.size := cell_lt hg
  have HG : Hid ((w.alloc (.cells #[.pointer none] 212)).cell? ⟨2, 0, none⟩ = some (.iface 389 (.agg #[.pointer (some ⟨6, 45, none⟩)]))) := by
    show _ = _
    rw [World.cell?_alloc_lt _ _ ⟨2, 0, none⟩ hgl]; exact hg
  have H1 : Hid ((w.alloc (.cells #[.pointer none] 212)).cell? ⟨b, 1, none⟩ = some (.string s)) := by
    show _ = _
    rw [World.cell?_alloc_lt _ _ ⟨b, 1, none⟩ hbl]; exact h1
  have HN := hideIt (heap_alloc_new w (.cells #[.pointer none] 212))
  clear hg h1
  go_enter Tryz.func26, Tryz.ntmps26
  go_wp2_with fail
  refine (as_any b w.heap.size s ⟨w.heap.size, 0, none⟩ (.pointer none) _ HG.out H1.out (cell_of_one HN.out) (free_of_one HN.out) (Nat.le_refl _) (by simp)).mono ?_
  rintro e w1 ⟨rfl, c, q1, q2, q3⟩
  have Q3 := hideIt q3
  clear q3
  go_wp2
  go_ret
  exact ⟨rfl, ((Below.refl _ _).alloc (Nat.le_refl _) _).trans Q3.out⟩
end Go.Proofs.Qxb6500847aGreatDoor.FloorA
