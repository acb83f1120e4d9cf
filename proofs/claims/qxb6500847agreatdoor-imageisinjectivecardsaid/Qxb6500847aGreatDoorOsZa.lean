/-
  CodeOf on an *Error; answer, flag.
-/
import Derived.Test.Qxb6500847aGreatDoorOsR2
import Derived.Test.Qxb6500847aGreatDoorFloorI
namespace Go.Proofs.Qxb6500847aGreatDoor.Os
open Go.RowKit FloorA Go.Extern.Stop Go.Stop Go.Extern
set_option maxRecDepth 100000
/-- The library's handle of the type error. -/
def Ed (w : World) : Prop := w.cell? ⟨2, 0, none⟩ = some (.iface 389 (.agg #[.pointer (some ⟨6, 45, none⟩)]))
theorem Ed.below {w w' : World} {B : Nat} (h : Ed w) (k : Below B w w') (hB : 2 < B) : Ed w' := (k.cell (p := ⟨2, 0, none⟩) hB).trans h
set_option maxHeartbeats 4000000 in
theorem as_inE (b B : Nat) (code : Int) (t a : Addr) (old : Value) (w : World) (_ : w.cell? ⟨b, 0, none⟩ = some (.int .u8 code)) (ht : w.cell? t = some old) (hf : w.frozen? t = false) (ha : w.cell? a = some (.pointer (some t))) (hne : b < B) (htB : B ≤ t.block) (hB : B ≤ w.heap.size) :
    Calls Tryz.prog 223 #[.iface 212 (.pointer (some ⟨b, 0, none⟩)), .iface 214 (.pointer (some t)), .agg #[.pointer (some ⟨6, 214, none⟩), .pointer (some a), .int .u64 150], .iface 389 (.agg #[.pointer (some ⟨6, 212, none⟩)])] w
      fun e w' => e = .returned (.bool true) ∧ w'.cell? t = some (.pointer (some ⟨b, 0, none⟩)) ∧ Below B w w' := by
  have h278 := @run_callFunc_extern Tryz.prog 278 _ ReflectliteType.typeOf Tryz.func278 (by kernel_rfl) (by kernel_rfl) (by kernel_rfl) (by kernel_rfl)
  have h391 := @run_callFunc_extern Tryz.prog 391 _ (ReflectliteType.relation "AssignableTo" ReflectliteType.assignableTo) Tryz.func391 (by kernel_rfl) (by kernel_rfl) (by kernel_rfl) (by kernel_rfl)
  have h279 := @run_callFunc_extern Tryz.prog 279 _ (ReflectliteValue.method (ReflectliteValue.valueError "reflectlite.Value.Elem" 0) ReflectliteValue.elem) Tryz.func279 (by kernel_rfl) (by kernel_rfl) (by kernel_rfl) (by kernel_rfl)
  have h280 := @run_callFunc_extern Tryz.prog 280 _ ReflectliteValue.set Tryz.func280 (by kernel_rfl) (by kernel_rfl) (by kernel_rfl) (by kernel_rfl)
  have h220 := @run_callFunc_extern Tryz.prog 220 _ (fun args => ReflectliteValue.unpack (args.getD 0 (.tuple #[]))) Tryz.func220 (by kernel_rfl) (by kernel_rfl) (by kernel_rfl) (by kernel_rfl)
  have mA := methodAssignableTo
  have t212 := typeOf212
  have a212 := assignable212
  have v212 := valueOf212
  have hbl : b < w.heap.size := by omega
  have htl : t.block < w.heap.size := cell_lt ht
  have hal : a.block < w.heap.size := cell_lt ha
  have s1 : (w.alloc (.cells #[.pointer (some ⟨6, 214, none⟩), .pointer (some a), .int .u64 150] 339)).heap.size = w.heap.size + 1 := by simp
  have el := elemV214 a t (w.alloc (.cells #[.pointer (some ⟨6, 214, none⟩), .pointer (some a), .int .u64 150] 339)) (by rw [World.cell?_alloc_lt _ _ a hal]; exact ha)
  have st := set212 t ⟨w.heap.size + 1, 0, none⟩ ⟨b, 0, none⟩ old ((w.alloc (.cells #[.pointer (some ⟨6, 214, none⟩), .pointer (some a), .int .u64 150] 339)).alloc (.cells #[.pointer (some ⟨b, 0, none⟩)] 212))
    (by rw [← s1]; exact cell_of_one (heap_alloc_new _ _))
    (by rw [World.cell?_alloc_lt _ _ t (by omega), World.cell?_alloc_lt _ _ t htl]; exact ht)
    (by rw [World.frozen?_alloc_old _ _ t (by omega), World.frozen?_alloc_old _ _ t (by omega)]; exact hf)
  have HS1 := hideIt s1
  clear s1
  go_enter Tryz.func223, Tryz.ntmps223
  go_wp2_with fail
  refine wp_loop_rounds 1 ?_
  rw [rounds_succ]
  go_wp2
  go_ret
  refine ⟨rfl, ?_, ?_⟩
  · refine set_same (u := old) ?_
    rw [World.cell?_alloc_lt _ _ t (by rw [HS1.out]; omega), World.cell?_alloc_lt _ _ t htl]; exact ht
  · exact (((Below.refl _ _).alloc hB _).alloc (by rw [HS1.out]; omega) _).setCell htB _
set_option maxHeartbeats 4000000 in
theorem as_anyE (b B : Nat) (code : Int) (t : Addr) (old : Value) (w : World) (hg : Ed w)
    (h1 : w.cell? ⟨b, 0, none⟩ = some (.int .u8 code)) (ht : w.cell? t = some old) (hf : w.frozen? t = false) (hne : b < B) (htB : B ≤ t.block) (hB : B ≤ w.heap.size) :
    Calls Tryz.prog 99 #[.iface 212 (.pointer (some ⟨b, 0, none⟩)), .iface 214 (.pointer (some t))] w
      fun e w' => e = .returned (.bool true) ∧ w'.cell? t = some (.pointer (some ⟨b, 0, none⟩)) ∧ Below B w w' := by
  have h220 := @run_callFunc_extern Tryz.prog 220 _ (fun args => ReflectliteValue.unpack (args.getD 0 (.tuple #[]))) Tryz.func220 (by kernel_rfl) (by kernel_rfl) (by kernel_rfl) (by kernel_rfl)
  have h221 := @run_callFunc_extern Tryz.prog 221 _ (ReflectliteValue.methodAny (ReflectliteValue.valueError "reflectlite.Value.Type" 0) (fun t _ _ _ => ReflectliteType.toType t)) Tryz.func221 (by kernel_rfl) (by kernel_rfl) (by kernel_rfl) (by kernel_rfl)
  have h222 := @run_callFunc_extern Tryz.prog 222 _ (ReflectliteValue.method (ReflectliteValue.valueError "reflectlite.Value.IsNil" 0) ReflectliteValue.isNil) Tryz.func222 (by kernel_rfl) (by kernel_rfl) (by kernel_rfl) (by kernel_rfl)
  have h352 := @run_callFunc_extern Tryz.prog 352 _ (ReflectliteType.abiMethod fun t => do pure (.int .u8 (← Rtype.kind t))) Tryz.func352 (by kernel_rfl) (by kernel_rfl) (by kernel_rfl) (by kernel_rfl)
  have h393 := @run_callFunc_extern Tryz.prog 393 _ (ReflectliteType.method ReflectliteType.elem) Tryz.func393 (by kernel_rfl) (by kernel_rfl) (by kernel_rfl) (by kernel_rfl)
  have h394 := @run_callFunc_extern Tryz.prog 394 _ (ReflectliteType.relation "Implements" ReflectliteType.implements_) Tryz.func394 (by kernel_rfl) (by kernel_rfl) (by kernel_rfl) (by kernel_rfl)
  have v214 := valueOf214
  have ty214 := type214
  have mK := methodKind
  have mE := methodElem
  have mI := methodImplements
  have k214 := kind214
  have k212 := kind212
  have e214 := elem214
  have i212 := implements212
  have htl : t.block < w.heap.size := cell_lt ht
  have hbl : b < w.heap.size := cell_lt h1
  have hgl : 2 < w.heap.size := cell_lt hg
  have s1 : (w.alloc (.cells #[.pointer (some t)] 214)).heap.size = w.heap.size + 1 := by simp
  have s2 : ((w.alloc (.cells #[.pointer (some t)] 214)).alloc (.cells #[.pointer (some ⟨6, 214, none⟩), .pointer (some ⟨w.heap.size, 0, none⟩), .int .u64 150] 339)).heap.size = w.heap.size + 1 + 1 := by simp
  have c0 : ((w.alloc (.cells #[.pointer (some t)] 214)).alloc (.cells #[.pointer (some ⟨6, 214, none⟩), .pointer (some ⟨w.heap.size, 0, none⟩), .int .u64 150] 339)).cell? ⟨w.heap.size, 0, none⟩ = some (.pointer (some t)) := by
    rw [World.cell?_alloc_lt _ _ ⟨w.heap.size, 0, none⟩ (by rw [s1]; show w.heap.size < _; omega)]
    exact cell_of_one (heap_alloc_new w _)
  have hold : ∀ p : Addr, p.block < w.heap.size → ((w.alloc (.cells #[.pointer (some t)] 214)).alloc (.cells #[.pointer (some ⟨6, 214, none⟩), .pointer (some ⟨w.heap.size, 0, none⟩), .int .u64 150] 339)).cell? p = w.cell? p := by
    intro p hp
    rw [World.cell?_alloc_lt _ _ p (by rw [s1]; omega), World.cell?_alloc_lt _ _ p hp]
  have n214 := isNil214 ⟨w.heap.size, 0, none⟩ t ((w.alloc (.cells #[.pointer (some t)] 214)).alloc (.cells #[.pointer (some ⟨6, 214, none⟩), .pointer (some ⟨w.heap.size, 0, none⟩), .int .u64 150] 339)) c0
  have hg2 := (hold ⟨2, 0, none⟩ hgl).trans hg
  have HH1 := hideIt ((hold ⟨b, 0, none⟩ hbl).trans h1)
  have HHT := hideIt ((hold t htl).trans ht)
  have HC0 := hideIt c0
  have HF : Hid (((w.alloc (.cells #[.pointer (some t)] 214)).alloc (.cells #[.pointer (some ⟨6, 214, none⟩), .pointer (some ⟨w.heap.size, 0, none⟩), .int .u64 150] 339)).frozen? t = false) := by
    rw [World.frozen?_alloc_old _ _ t (by omega), World.frozen?_alloc_old _ _ t (by omega)]; exact hf
  have HS2 := hideIt s2
  have HS1 := hideIt s1
  clear s1 s2 c0 hold hg
  go_enter Tryz.func99, Tryz.ntmps99
  go_wp2_with fail
  refine (as_inE b B code t ⟨w.heap.size, 0, none⟩ old _ HH1.out HHT.out HF.out HC0.out hne htB (by rw [HS2.out]; omega)).mono ?_
  rintro e w1 ⟨rfl, q1, q3⟩
  have Q1 := hideIt q1
  have Q3 := hideIt q3
  clear q1 q3
  go_wp2
  go_ret
  exact ⟨rfl, Q1.out, (((Below.refl _ _).alloc hB _).alloc (by rw [HS1.out]; omega) _).trans Q3.out⟩
set_option maxHeartbeats 1600000 in
theorem codeOf_err (v : Value) (code : Int) (w : World) (hg : Ed w) (hv : IsErr w v code) :
    Calls Tryz.prog 26 #[v] w fun e w' => e = .returned (.int .u8 code) ∧ Below w.heap.size w w' := by
  obtain ⟨b, rfl, h1⟩ := hv
  have hbl : b < w.heap.size := cell_lt h1
  have hgl : 2 < w.heap.size := cell_lt hg
  have HG : Hid (Ed (w.alloc (.cells #[.pointer none] 212))) := Ed.below hg (alloc_below _) hgl
  have H1 : Hid ((w.alloc (.cells #[.pointer none] 212)).cell? ⟨b, 0, none⟩ = some (.int .u8 code)) := by
    show _ = _
    rw [World.cell?_alloc_lt _ _ ⟨b, 0, none⟩ hbl]; exact h1
  have HN := hideIt (heap_alloc_new w (.cells #[.pointer none] 212))
  clear hg h1
  go_enter Tryz.func26, Tryz.ntmps26
  go_wp2_with fail
  refine (as_anyE b w.heap.size code ⟨w.heap.size, 0, none⟩ (.pointer none) _ HG.out H1.out (cell_of_one HN.out) (free_of_one HN.out) hbl (Nat.le_refl _) (by simp)).mono ?_
  rintro e w1 ⟨rfl, q1, q3⟩
  have q2 := (q3.cell (p := ⟨b, 0, none⟩) hbl).trans H1.out
  have Q3 := hideIt q3
  clear q3
  go_wp2
  go_ret
  exact ⟨rfl, ((Below.refl _ _).alloc (Nat.le_refl _) _).trans Q3.out⟩
theorem flag_walk (b : Bool) (w : World) : Calls Tryz.prog 69 #[.bool b] w fun e w' => (∃ x : Int, e = .returned (.int .u64 x)) ∧ w' = w := by
  cases b
  · go_enter Tryz.func69, Tryz.ntmps69
    go_wp2
    go_ret
    exact ⟨⟨_, rfl⟩, rfl⟩
  · go_enter Tryz.func69, Tryz.ntmps69
    go_wp2
    go_ret
    exact ⟨⟨_, rfl⟩, rfl⟩
/-- A Result, by its cells. -/
def RsPost (code : Int) (refs vals : Value) (w : World) (e : Ending) (w' : World) : Prop := e = .returned (.agg #[.int .u8 code, refs, vals]) ∧ Below w.heap.size w w'
set_option maxHeartbeats 1600000 in
theorem answer_ok (a1 a2 : Option Addr) (n1 c1 n2 c2 : Nat) (w : World) :
    Calls Tryz.prog 50 #[.nilIface, .slice a1 n1 c1, .slice a2 n2 c2] w (RsPost 0 (.slice a1 n1 c1) (.slice a2 n2 c2) w) := by
  go_enter Tryz.func50, Tryz.ntmps50
  go_wp2
  refine bodyPost_ret (v := .agg #[.int .u8 0, .slice a1 n1 c1, .slice a2 n2 c2]) ?_ rfl ⟨rfl, alloc_below _⟩
  exact results_cell_row (by exact Tryz.results50) _ _ w.heap.size _ _ _ _ (by rfl) (by exact heap_new _ _) Tryz.underlying57 rfl (by kernel_rfl)
theorem three_set {w : World} {b : Nat} {x y z : Value} {t : TypeId} (h : w.heap[b]? = some (.cells #[x, y, z] t (0, 0))) (x' y' z' : Value) : (((w.setCell ⟨b, 0, none⟩ x').setCell ⟨b, 1, none⟩ y').setCell ⟨b, 2, none⟩ z').heap[b]? = some (.cells #[x', y', z'] t (0, 0)) := by
  have h1 := heap_setCell_same w b 0 _ t x' h
  have h2 := heap_setCell_same _ b 1 _ t y' h1
  have h3 := heap_setCell_same _ b 2 _ t z' h2
  rw [h3]
  rfl
theorem three_cells {w : World} {b : Nat} {x y z : Value} {t : TypeId} (h : w.heap[b]? = some (.cells #[x, y, z] t (0, 0))) : w.cell? ⟨b, 0, none⟩ = some x ∧ w.cell? ⟨b, 1, none⟩ = some y ∧ w.cell? ⟨b, 2, none⟩ = some z ∧ w.frozen? ⟨b, 0, none⟩ = false ∧ w.frozen? ⟨b, 1, none⟩ = false ∧ w.frozen? ⟨b, 2, none⟩ = false := by
  refine ⟨box_cell h 0, box_cell h 1, box_cell h 2, ?_, ?_, ?_⟩ <;> simp [World.frozen?, h]
set_option maxHeartbeats 1600000 in
theorem answer_err (v : Value) (code : Int) (a1 a2 : Option Addr) (n1 c1 n2 c2 : Nat) (w : World) (hg : Ed w) (hv : IsErr w v code) :
    Calls Tryz.prog 50 #[v, .slice a1 n1 c1, .slice a2 n2 c2] w (RsPost code (.slice none 0 0) (.slice none 0 0) w) := by
  have hgl : 2 < w.heap.size := cell_lt hg
  have HC := hideIt (codeOf_err v code _ (Ed.below hg (alloc_below (.cells #[.int .u8 0, .slice none 0 0, .slice none 0 0] 57)) hgl) (hv.below (alloc_below _)))
  have hz : (w.alloc (.cells #[.int .u8 0, .slice none 0 0, .slice none 0 0] 57)).heap[w.heap.size]? = some (.cells #[.int .u8 0, .slice none 0 0, .slice none 0 0] 57 (0, 0)) := heap_new _ _
  have HZ := hideIt hz
  have HB := hideIt (alloc_below (w := w) (.cells #[.int .u8 0, .slice none 0 0, .slice none 0 0] 57))
  obtain ⟨b, rfl, _⟩ := hv
  clear hg hz
  go_enter Tryz.func50, Tryz.ntmps50
  go_wp2_with fail
  generalize w.alloc (.cells #[.int .u8 0, .slice none 0 0, .slice none 0 0] 57) = w0 at *
  go_at_call 26
  refine HC.out.mono ?_
  rintro e w1 ⟨rfl, hb1⟩
  have hz1 := (hb1.block w.heap.size (heap_lt HZ.out)).trans HZ.out
  have HZ1 := hideIt (three_set hz1 (.int .u8 code) (.slice none 0 0) (.slice none 0 0))
  obtain ⟨x0, x1, x2, f0, f1, f2⟩ := three_cells hz1
  have HB1 := hideIt (Below.thr HB.out hb1)
  clear hb1 hz1
  go_wp2
  refine bodyPost_ret (v := .agg #[.int .u8 code, .slice none 0 0, .slice none 0 0]) ?_ rfl ⟨rfl, ((HB1.out.setCell (p := ⟨w.heap.size, 0, none⟩) (Nat.le_refl _) _).setCell (p := ⟨w.heap.size, 1, none⟩) (Nat.le_refl _) _).setCell (p := ⟨w.heap.size, 2, none⟩) (Nat.le_refl _) _⟩
  exact results_cell_row (by exact Tryz.results50) _ _ w.heap.size _ _ _ _ (by rfl) (by exact HZ1.out) Tryz.underlying57 rfl (by kernel_rfl)
end Go.Proofs.Qxb6500847aGreatDoor.Os
