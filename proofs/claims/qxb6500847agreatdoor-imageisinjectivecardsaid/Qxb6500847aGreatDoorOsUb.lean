/-
  Whole rows: load, store; what a change does.
-/
import Derived.Test.Qxb6500847aGreatDoorOsVa
import Derived.Test.Qxb6500847aGreatDoorOsPg
import Derived.Test.Qxb6500847aGreatDoorOsRa
namespace Go.Proofs.Qxb6500847aGreatDoor.Os
open Go.RowKit FloorA
set_option maxRecDepth 100000
def tyT : Nat → Nat
  | 0 => 101
  | 1 => 109
  | 2 => 115
  | 3 => 121
  | 4 => 127
  | _ => 133
theorem row_one (t : Nat) (W : Nat → Int) : ∀ v ∈ rowL t W, v.oneCell' = true := by
  match t with
  | 0 => exact one0 W
  | 1 => exact one1 W
  | 2 => intro v hv; simp only [rowL, List.mem_cons, List.not_mem_nil, or_false] at hv; rcases hv with rfl | rfl | rfl <;> rfl
  | 3 => intro v hv; simp only [rowL, lo, hi, List.mem_cons, List.not_mem_nil, or_false] at hv; rcases hv with rfl | rfl | rfl | rfl | rfl <;> rfl
  | 4 => intro v hv; simp only [rowL, lo, hi, bo, List.mem_cons, List.not_mem_nil, or_false] at hv; rcases hv with rfl | rfl | rfl <;> rfl
  | _ + 5 => intro v hv; simp only [rowL, lo, hi, bo, List.mem_cons, List.not_mem_nil, or_false] at hv; rcases hv with rfl | rfl | rfl | rfl | rfl <;> rfl
theorem szT2 : (Tryz.prog.info? 115).map (·.size) = some 3 := by kernel_rfl
theorem szT3 : (Tryz.prog.info? 121).map (·.size) = some 5 := by kernel_rfl
theorem szT4 : (Tryz.prog.info? 127).map (·.size) = some 3 := by kernel_rfl
theorem szT5 : (Tryz.prog.info? 133).map (·.size) = some 5 := by kernel_rfl
theorem row_sz {t : Nat} (ht : t < 6) (W : Nat → Int) : (Tryz.prog.info? (tyT t)).map (·.size) = some (rowL t W).length := by
  rw [rowL_len]
  match t, ht with
  | 0, _ => exact size0
  | 1, _ => exact size1
  | 2, _ => exact szT2
  | 3, _ => exact szT3
  | 4, _ => exact szT4
  | 5, _ => exact szT5
theorem row_un {t : Nat} (ht : t < 6) : ∃ d, Tryz.prog.underlying (tyT t) = some d ∧ d.isRow = true := by
  match t, ht with
  | 0, _ => exact ⟨_, Tryz.underlying101, rfl⟩
  | 1, _ => exact ⟨_, Tryz.underlying109, rfl⟩
  | 2, _ => exact ⟨_, Tryz.underlying115, rfl⟩
  | 3, _ => exact ⟨_, Tryz.underlying121, rfl⟩
  | 4, _ => exact ⟨_, Tryz.underlying127, rfl⟩
  | 5, _ => exact ⟨_, Tryz.underlying133, rfl⟩
section
variable {w w' : World}
theorem load_row {t b o : Nat} (ht : t < 6) {W : Nat → Int} (h : w.rangeAt b o (rowL t W)) : (Instr.loadAt (tyT t) (.pointer (some ⟨b, o, none⟩))).run Tryz.prog w = .ok (.agg (rowL t W).toArray) w := by
  obtain ⟨d, hu, hd⟩ := row_un ht
  exact run_loadAt_mid w b o (tyT t) (rowL t W) d h hu hd (row_sz ht W)
theorem store_row {t b o : Nat} (ht : t < 6) (W : Nat → Int) (h : w.there b o (nC t)) : (Instr.storeAt (tyT t) (.pointer (some ⟨b, o, none⟩)) (.agg (rowL t W).toArray)).run Tryz.prog w = .ok () (w.setCells b o (rowL t W)) := by
  have := run_storeAt_mid (P := Tryz.prog) w b o (tyT t) (rowL t W).toArray (by rw [List.size_toArray, rowL_len]; exact h) (by rw [List.size_toArray]; exact row_sz ht W) (all_oneCell_toArray (row_one t W))
  simpa using this
theorem St1.many (w : World) (b o : Nat) (cs : List Value) : St1 b o cs.length w (w.setCells b o cs) :=
  ⟨cells_ext w b cs o, fun q hq => World.cell?_setCells_out _ _ _ _ _ (fun _ => by simp only []; omega), fun q => World.frozen?_setCells _ _ _ _ _⟩
theorem frz_new (w : World) (Z : Array Value) (T : TypeId) (q : Nat) : (w.alloc (.cells Z T)).frozen? ⟨w.heap.size, q, none⟩ = false := by
  have hn := heap_new w (.cells Z T)
  unfold World.frozen?
  rw [show (w.alloc (.cells Z T)).heap[(⟨w.heap.size, q, none⟩ : Addr).block]? = some (.cells Z T (0, 0)) from hn]
  simp
theorem new_row {t : Nat} {Z : Array Value} (hZ : Z.size = nC t) (T : TypeId) : (w.alloc (.cells Z T)).there w.heap.size 0 (nC t) := fun j hj => by
  have hn := heap_new w (.cells Z T)
  refine ⟨?_, frz_new w Z T _⟩
  rw [Nat.zero_add, box_cell hn, Array.getElem?_eq_getElem (by omega)]
  rfl
/-- A change of the payload in block b. -/
def ChPost (t b : Nat) (W : Nat → Int) (w : World) (e : Ending) (w' : World) : Prop := e = .returned (.tuple #[]) ∧ Wt t W ∧ w'.rangeAt b 0 (rowL t W) ∧ Ext w.heap.size (fun x => x = b) w w'
theorem Ext.toBelow {B b : Nat} {w1 : World} (h : Ext w1.heap.size (fun x => x = b) w1 w') (k : Below B w w1) (hb : B ≤ b) (hB : B ≤ w1.heap.size) : Below B w w' :=
  k.trans ⟨h.os, h.tape, h.output, h.size, fun q hq => h.block q (by omega) (by omega)⟩
end
theorem mval0 (p : Value) (w : World) : (Go.method 591 236 p "Valid").run Tryz.prog w = .ok (259, p) w := by kernel_rfl
theorem eval0 : ∀ args W, (callFunc 259 args).run Tryz.prog W = .ok (.enter 259 args) W := enters_of Tryz.func259 (by kernel_rfl) rfl
theorem mval1 (p : Value) (w : World) : (Go.method 591 238 p "Valid").run Tryz.prog w = .ok (262, p) w := by kernel_rfl
theorem eval1 : ∀ args W, (callFunc 262 args).run Tryz.prog W = .ok (.enter 262 args) W := enters_of Tryz.func262 (by kernel_rfl) rfl
theorem mval2 (p : Value) (w : World) : (Go.method 591 240 p "Valid").run Tryz.prog w = .ok (265, p) w := by kernel_rfl
theorem eval2 : ∀ args W, (callFunc 265 args).run Tryz.prog W = .ok (.enter 265 args) W := enters_of Tryz.func265 (by kernel_rfl) rfl
theorem mval3 (p : Value) (w : World) : (Go.method 591 242 p "Valid").run Tryz.prog w = .ok (268, p) w := by kernel_rfl
theorem eval3 : ∀ args W, (callFunc 268 args).run Tryz.prog W = .ok (.enter 268 args) W := enters_of Tryz.func268 (by kernel_rfl) rfl
theorem mval4 (p : Value) (w : World) : (Go.method 591 244 p "Valid").run Tryz.prog w = .ok (271, p) w := by kernel_rfl
theorem eval4 : ∀ args W, (callFunc 271 args).run Tryz.prog W = .ok (.enter 271 args) W := enters_of Tryz.func271 (by kernel_rfl) rfl
theorem mval5 (p : Value) (w : World) : (Go.method 591 246 p "Valid").run Tryz.prog w = .ok (274, p) w := by kernel_rfl
theorem eval5 : ∀ args W, (callFunc 274 args).run Tryz.prog W = .ok (.enter 274 args) W := enters_of Tryz.func274 (by kernel_rfl) rfl
end Go.Proofs.Qxb6500847aGreatDoor.Os
