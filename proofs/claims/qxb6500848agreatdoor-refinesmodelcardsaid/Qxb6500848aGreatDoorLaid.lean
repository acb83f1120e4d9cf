/-
  What the listed variables give a walk.
-/
import Derived.Test.Qxb6500848aGreatDoorRows
import Derived.Test.Qxb6500848aGreatDoorOpen
import Derived.Test.Qxb6500848aGreatDoorAux
import Derived.ChangeSame
import Derived.ChangeVars
import Derived.ChangeShapes
import Derived.LaidLaws
import Derived.LaidHandle
namespace Go.Proofs.Qxb6500848aGreatDoor
open Go.ChangeShapes Go.WideShapes Go.RowKit
set_option maxRecDepth 100000

theorem tabG : Tryz.prog.globalNamed "math/bits.deBruijn64tab" = some 3 := by kernel_rfl
theorem tabT : (Tryz.prog.globals[3]?).map (·.type) = some 161 := by kernel_rfl
theorem cells8 : Tryz.prog.cellsOf 5 = 1 := by kernel_rfl
theorem star_es : "*" ++ "errors.errorString" = "*errors.errorString" := by decide
theorem row_es (u : TypeId) (h : Tryz.prog.typeName? 3 u = some "*errors.errorString") : u = 216 :=
  typeName_ptr_named (nm := "errors.errorString") (by rw [star_es]; kernel_rfl) (by kernel_rfl) (by decide) u (by rw [star_es]; exact h)

/-- The table. -/
theorem gd_of {W : World} {cs : Array Value} {f : Nat} {p : List MemPlace} (hv : World.var? Tryz.prog W "math/bits.deBruijn64tab" = some cs) (hd : DataW.trod (fun _ => ()) Tryz.prog W 0 (fun _ => true) false f 161 cs.toList = some (Rows.laid_math_bits_deBruijn64tab, p)) : Gd tabC W := by
  obtain ⟨xs, m, hx, hxs, hl, hxl, hel⟩ := DataW.trod_array Tryz.underlying161 hd
  have hag : (Rows.laid_math_bits_deBruijn64tab : DataW Unit) = .agg (xs.map (·.1)) := congrArg Prod.fst hxs
  have hlist : (tabL.map fun v => (DataW.lit (.int .u8 v) : DataW Unit)) = xs.map (·.1) := by
    have e : (Rows.laid_math_bits_deBruijn64tab : DataW Unit) = .agg (tabL.map fun v => (DataW.lit (.int .u8 v) : DataW Unit)) := rfl
    rw [e] at hag
    exact DataW.agg.inj hag
  intro j hj
  have key := hel j hj
  rw [cells8, List.getElem?_eq_getElem (by omega)] at key
  obtain ⟨n, e, hx2, hwf⟩ := DataW.trod_int Tryz.underlying5 key
  have h1 : (tabL.map fun v => (DataW.lit (.int .u8 v) : DataW Unit))[j]? = some (.lit (.int .u8 n)) := by
    rw [hlist, List.getElem?_map, List.getElem?_eq_getElem (by omega), hx2]
    rfl
  have hjt : j < tabL.length := hj
  rw [List.getElem?_map, List.getElem?_eq_getElem hjt] at h1
  have h2 : tabL[j] = n := by
    have := Option.some.inj h1
    injection this with this
    injection this
  have h3 : tabC j = n := by unfold tabC; rw [Pl.getD_lt hjt, h2]
  rw [h3, World.var?_cell tabG hv j]
  have : (cs.toList.drop (j * 1)).head? = some (.int .u8 n) := by
    cases hd : cs.toList.drop (j * 1) with
    | nil => rw [hd] at e; cases e
    | cons a r => rw [hd] at e; simp at e; simp [e]
  rw [List.head?_drop] at this
  simpa using this

/-- A sentinel. -/
theorem sen_of {W : World} {nm : String} {g : Nat} (hG : Tryz.prog.globalNamed nm = some g) {cs : Array Value} {f : Nat} {p : List MemPlace} {l : DataW Unit} (hv : World.var? Tryz.prog W nm = some cs) (hd : DataW.trod (fun _ => ()) Tryz.prog W 0 (fun _ => true) false f 33 cs.toList = some (.iface "*errors.errorString" (.ptr l), p))
    (hok : ∀ (u : TypeId) (v : Value), W.cell? ⟨g, 0, none⟩ = some (.iface u v) → Value.okWide Tryz.prog W .any 0 u v) : ∃ ad, W.cell? ⟨g, 0, none⟩ = some (.iface 216 (.pointer (some ad))) := by
  obtain ⟨tn, u, v, e, hx, hy⟩ := iface_of_trod Tryz.underlying33 hd
  obtain rfl := row_es u hx
  have hc : W.cell? ⟨g, 0, none⟩ = some (.iface 216 v) := by
    rw [World.var?_cell hG hv 0]
    have : cs.toList[0]? = some (.iface 216 v) := by rw [e]; rfl
    simpa using this
  obtain ⟨a0, rfl⟩ := okWide_pointer Tryz.underlying216 (hok _ _ hc)
  rcases DataW.trod_pointer Tryz.underlying216 hy with ⟨_, h2⟩ | ⟨a, _, _, _, _, h1, _⟩
  · cases h2
  · have : Value.pointer a0 = .pointer (some a) := by simpa [Value.cells] using h1
    cases this
    exact ⟨a, hc⟩
end Go.Proofs.Qxb6500848aGreatDoor
