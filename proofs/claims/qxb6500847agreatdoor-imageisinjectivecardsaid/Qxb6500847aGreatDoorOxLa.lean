/-
  What the listed variables give a walk.
-/
import Derived.Test.Qxb6500847aGreatDoorRows
import Derived.Test.Qxb6500847aGreatDoorOsOp
import Derived.ChangeSame
import Derived.ChangeVars
import Derived.ChangeShapes
import Derived.LaidLaws
import Derived.LaidHandle
import Derived.LaidMore
import Derived.Maps.OwnSet
import Derived.WideKeyArgs
namespace Go.Proofs.Qxb6500847aGreatDoor.Os
open Go.ChangeShapes Go.WideShapes Go.RowKit Go.WideElems Go.Maps FloorA
set_option maxRecDepth 100000
theorem tabG : Tryz.prog.globalNamed "math/bits.deBruijn64tab" = some 3 := by kernel_rfl
theorem tabT : (Tryz.prog.globals[3]?).map (·.type) = some 412 := by kernel_rfl
theorem kinG : Tryz.prog.globalNamed "e2e/objstore.kinds" = some 1 := by kernel_rfl
theorem kinT : (Tryz.prog.globals[1]?).map (·.type) = some 161 := by kernel_rfl
theorem etG : Tryz.prog.globalNamed "errors.errorType" = some 2 := by kernel_rfl
theorem rtT : (Tryz.prog.cutTypes.find? (·.1 == "internal/reflectlite.rtype")).map (·.2) = some 389 := by kernel_rfl
theorem oneRow : ((List.range 491).filter fun t => Tryz.prog.rowNamed t [101, 114, 114, 111, 114]) = [45] := by kernel_rfl
theorem typesSize : Tryz.prog.types.size = 491 := by kernel_rfl
theorem cells160 : Tryz.prog.cellsOf 160 = 4 := by kernel_rfl
theorem cells9 : Tryz.prog.cellsOf 9 = 1 := by kernel_rfl
theorem cells3 : Tryz.prog.cellsOf 3 = 1 := by kernel_rfl
theorem head_at {l : List Value} {k : Nat} {v : Value} (h : (l.drop k).take 1 = [v]) : l[k]? = some v := by
  rw [← List.head?_drop]
  cases hd : l.drop k with
  | nil => rw [hd] at h; cases h
  | cons a r => rw [hd] at h; simp at h; simp [h]
/-- The table. -/
theorem gd_of {W : World} {cs : Array Value} {f : Nat} {p : List MemPlace} (hv : World.var? Tryz.prog W "math/bits.deBruijn64tab" = some cs) (hd : DataW.trod (fun _ => ()) Tryz.prog W 0 (fun _ => true) false f 412 cs.toList = some (Rows.laid_math_bits_deBruijn64tab, p)) : Gd tabC W := by
  obtain ⟨xs, m, hx, hxs, hl, hxl, hel⟩ := DataW.trod_array Tryz.underlying412 hd
  have hag : (Rows.laid_math_bits_deBruijn64tab : DataW Unit) = .agg (xs.map (·.1)) := congrArg Prod.fst hxs
  have hlist : (tabL.map fun v => (DataW.lit (.int .u8 v) : DataW Unit)) = xs.map (·.1) := by
    have e : (Rows.laid_math_bits_deBruijn64tab : DataW Unit) = .agg (tabL.map fun v => (DataW.lit (.int .u8 v) : DataW Unit)) := rfl
    rw [e] at hag
    exact DataW.agg.inj hag
  intro j hj
  have key := hel j hj
  rw [cells5, List.getElem?_eq_getElem (by omega)] at key
  obtain ⟨n, e, hx2, hwf⟩ := DataW.trod_int Tryz.underlying5 key
  have h1 : (tabL.map fun v => (DataW.lit (.int .u8 v) : DataW Unit))[j]? = some (.lit (.int .u8 n)) := by
    rw [hlist, List.getElem?_map, List.getElem?_eq_getElem (by omega), hx2]
    rfl
  have hjt : j < tabL.length := hj
  rw [List.getElem?_map, List.getElem?_eq_getElem hjt] at h1
  have h2 : tabL[j] = n := by
    have := Option.some.inj h1
    injection this with this
    injection this
  have h3 : tabC j = n := by unfold tabC; rw [List.getD, List.getElem?_eq_getElem hjt, ← h2]; rfl
  rw [h3, World.var?_cell tabG hv j]
  have := head_at e
  simpa using this
def kinL : List (List UInt8 × Int × Int × Int) := [([110, 111, 110, 101], 0, 0, 0), ([117, 110, 116, 121, 112, 101, 100], 0, 64, 0), ([99, 110, 111, 100, 101], 9, 64, 112), ([116, 104, 114, 101, 97, 100], 10, 64, 18), ([101, 110, 100, 112, 111, 105, 110, 116], 4, 128, 3), ([110, 111, 116, 105, 102, 105, 99, 97, 116, 105, 111, 110], 5, 64, 4), ([114, 101, 112, 108, 121], 4, 64, 2), ([105, 114, 113, 104, 97, 110, 100, 108, 101, 114], 4, 32, 4)]
def kinD (r : List UInt8 × Int × Int × Int) : DataW Unit := .agg [.lit (.string r.1), .lit (.int .u8 r.2.1), .lit (.int .i64 r.2.2.1), .lit (.int .i64 r.2.2.2)]
theorem kin_facts : ∀ t, t < 8 → ∃ r, kinL[t]? = some r ∧ r.1.length ≤ 100 ∧ r.2.1 = (kBits t : Int) ∧ r.2.2.2 = (kFlds t : Int) := by
  intro t ht
  match t, ht with
  | 0, _ => exact ⟨_, rfl, by decide, by decide, by decide⟩
  | 1, _ => exact ⟨_, rfl, by decide, by decide, by decide⟩
  | 2, _ => exact ⟨_, rfl, by decide, by decide, by decide⟩
  | 3, _ => exact ⟨_, rfl, by decide, by decide, by decide⟩
  | 4, _ => exact ⟨_, rfl, by decide, by decide, by decide⟩
  | 5, _ => exact ⟨_, rfl, by decide, by decide, by decide⟩
  | 6, _ => exact ⟨_, rfl, by decide, by decide, by decide⟩
  | 7, _ => exact ⟨_, rfl, by decide, by decide, by decide⟩
theorem list4 {α : Type} {l : List α} (h : l.length = 4) : ∃ a b c d, l = [a, b, c, d] := by
  match l, h with
  | [a, b, c, d], _ => exact ⟨a, b, c, d, rfl⟩
/-- The kinds. -/
theorem kd_of {W : World} {cs : Array Value} {f : Nat} {p : List MemPlace} (hv : World.var? Tryz.prog W "e2e/objstore.kinds" = some cs) (hd : DataW.trod (fun _ => ()) Tryz.prog W 0 (fun _ => true) false f 161 cs.toList = some (Rows.laid_e2e_objstore_kinds, p)) : Kd W := by
  obtain ⟨xs, m, hx, hxs, hl, hxl, hel⟩ := DataW.trod_array Tryz.underlying161 hd
  have hag : (Rows.laid_e2e_objstore_kinds : DataW Unit) = .agg (xs.map (·.1)) := congrArg Prod.fst hxs
  have hlist : kinL.map kinD = xs.map (·.1) := by
    have e : (Rows.laid_e2e_objstore_kinds : DataW Unit) = .agg (kinL.map kinD) := rfl
    rw [e] at hag
    exact DataW.agg.inj hag
  intro t ht
  obtain ⟨r, hr, r1, r2, r3⟩ := kin_facts t ht
  have key := hel t ht
  rw [cells160, List.getElem?_eq_getElem (by omega)] at key
  have h1 : (xs[t]'(by omega)).1 = kinD r := by
    have := congrArg (fun l => l[t]?) hlist
    simp only [List.getElem?_map, hr, List.getElem?_eq_getElem (show t < xs.length by omega), Option.map_some, Option.some.injEq] at this
    exact this.symm
  generalize xs[t]'(by omega) = y at key h1
  obtain ⟨ys, m', _, rfl, hcl, hyl, hfld⟩ := DataW.trod_struct Tryz.underlying160 key
  have f0 : DataW.trod (fun _ => ()) Tryz.prog W 0 (fun _ => true) false m' 9 ((((cs.toList.drop (t * 4)).take 4).drop 0).take (Tryz.prog.cellsOf 9)) = ys[0]? := hfld 0 _ rfl
  have f1 : DataW.trod (fun _ => ()) Tryz.prog W 0 (fun _ => true) false m' 5 ((((cs.toList.drop (t * 4)).take 4).drop 1).take (Tryz.prog.cellsOf 5)) = ys[1]? := hfld 1 _ rfl
  have f3 : DataW.trod (fun _ => ()) Tryz.prog W 0 (fun _ => true) false m' 3 ((((cs.toList.drop (t * 4)).take 4).drop 3).take (Tryz.prog.cellsOf 3)) = ys[3]? := hfld 3 _ rfl
  rw [cells9] at f0
  rw [cells5] at f1
  rw [cells3] at f3
  obtain ⟨y0, y1, y2, y3, rfl⟩ := list4 (l := ys) hyl
  obtain ⟨s, e0, x0, _⟩ := DataW.trod_string Tryz.underlying9 f0
  obtain ⟨n1, e1, x1, _⟩ := DataW.trod_int Tryz.underlying5 f1
  obtain ⟨n3, e3, x3, _⟩ := DataW.trod_int Tryz.underlying3 f3
  simp only [kinD, List.map_cons, List.map_nil, DataW.agg.injEq, List.cons.injEq] at h1
  obtain ⟨q0, q1, _, q3, _⟩ := h1
  rw [x0] at q0
  rw [x1] at q1
  rw [x3] at q3
  have hs : s.data.toList = r.1 := by injection q0 with q0; injection q0
  have hn1 : n1 = r.2.1 := by injection q1 with q1; injection q1
  have hn3 : n3 = r.2.2.2 := by injection q3 with q3; injection q3
  have hat : ∀ (k : Nat) (v : Value), k < 4 → (((cs.toList.drop (t * 4)).take 4).drop k).take 1 = [v] → W.cell? ⟨1, t * 4 + k, none⟩ = some v := fun k v hk h => by
    have h2 := head_at h
    rw [List.getElem?_take_of_lt hk, List.getElem?_drop] at h2
    rw [World.var?_cell kinG hv (t * 4 + k)]
    simpa using h2
  refine ⟨⟨s, ?_, hat 0 _ (by omega) e0⟩, ?_, ?_⟩
  · have : s.size = r.1.length := by rw [← hs]; exact (Array.length_toList).symm
    omega
  · rw [← r2, ← hn1]; exact hat 1 _ (by omega) e1
  · rw [← r3, ← hn3]; exact hat 3 _ (by omega) e3
theorem plainElem_bool_inv {v : Value} {z : DataW Unit × List MemPlace} (h : plainElem Tryz.prog 4 v = some z) : ∃ b, v = .bool b ∧ z = (.lit (.bool b), []) := by
  unfold plainElem at h
  rw [Tryz.underlying4] at h
  cases v <;> simp at h
  exact ⟨_, rfl, h.symm⟩
theorem ed_of {W : World} (h : handlesMet Tryz.prog [("errors.errorType", Rows.laid_errors_errorType)] W) : Ed W := by
  obtain ⟨name, u, ty, e1, e2, e3, e4, e5⟩ := h _ (List.mem_singleton.2 rfl)
  have en : name = [101, 114, 114, 111, 114] := (Option.some.inj e1).symm
  subst en
  obtain rfl := Option.some.inj (rtT.symm.trans e2)
  have hm : ty ∈ (List.range 491).filter fun t => Tryz.prog.rowNamed t [101, 114, 114, 111, 114] := List.mem_filter.2 ⟨List.mem_range.2 (by rw [← typesSize]; exact e3), e4⟩
  rw [oneRow] at hm
  obtain rfl := List.mem_singleton.1 hm
  have hh : typeHandle Tryz.prog 45 = .pointer (some ⟨6, 45, none⟩) := by kernel_rfl
  rw [hh] at e5
  simpa [Ed] using World.var?_cell etG e5 0
end Go.Proofs.Qxb6500847aGreatDoor.Os
