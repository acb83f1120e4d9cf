/-
  Two rows that agree in every cell bear the same words.
-/
import Derived.Test.Qxb6500847aGreatDoorEqA
import Derived.Test.Qxb6500847aGreatDoorOxEl
import Derived.Test.Qxb6500847aGreatDoorOsPf
namespace Go.Proofs.Qxb6500847aGreatDoor.Os
open Go.RowKit FloorA
set_option maxRecDepth 100000
theorem Agr.get {X X' : List Value} {o : Nat} {v v' : Value} (h : Agr X X' o) (h1 : X[o]? = some v) (h2 : X'[o]? = some v') : numV v = numV v' := by
  obtain ⟨a, b, e1, e2, e3⟩ := h
  rw [h1] at e1
  rw [h2] at e2
  rw [Option.some.inj e1, Option.some.inj e2]
  exact e3
theorem row_kinds {t : Nat} (ht : t < 6) (W : Nat → Int) : (rowL t W).map kdV = (rowL t (fun _ => 0)).map kdV := by
  match t, ht with
  | 0, _ =>
    show ((List.range 16).flatMap _).map kdV = ((List.range 16).flatMap _).map kdV
    rw [List.map_flatMap, List.map_flatMap]
    rfl
  | 1, _ => rfl
  | 2, _ => rfl
  | 3, _ => rfl
  | 4, _ => rfl
  | 5, _ => rfl
theorem row_kin {t : Nat} (ht : t < 6) (W W' : Nat → Int) : Kin (rowL t W) (rowL t W') := fun k v v' h h' => by
  have e : ((rowL t W).map kdV)[k]? = ((rowL t W').map kdV)[k]? := by rw [row_kinds ht W, row_kinds ht W']
  rw [List.getElem?_map, List.getElem?_map, h, h'] at e
  exact Option.some.inj e
theorem row0_at (W : Nat → Int) {c j : Nat} (hc : c < 16) (hj : j < 8) : (rowL 0 W)[c * 8 + j]? = (cellL W (7 * c))[j]? := by
  have hl : ((List.range c).flatMap (fun c => cellL W (7 * c))).length = c * 8 := by
    clear hc
    induction c with
    | zero => rfl
    | succ c ih => rw [List.range_succ, List.flatMap_append, List.length_append, ih]; simp [cellL]; omega
  rw [row0_split W hc, List.append_assoc, List.getElem?_append_right (by omega), hl, List.getElem?_append_left (by show _ < 8; omega)]
  congr 1
  omega
theorem lohi {x y : Int} (h1 : x % 65536 = y % 65536) (h2 : x / 65536 = y / 65536) : x = y := by omega
theorem bo_inj {x y : Int} (hx : 0 ≤ x ∧ x < 2) (hy : 0 ≤ y ∧ y < 2) (h : (if decide (x = 1) = true then (1 : Int) else 0) = if decide (y = 1) = true then 1 else 0) : x = y := by
  by_cases a : x = 1 <;> by_cases b : y = 1 <;> simp [a, b] at h <;> omega
theorem row_inj0 {W W' : Nat → Int} (h : ∀ o, o < 128 → Agr (rowL 0 W) (rowL 0 W') o) : ∀ f, f < 112 → W f = W' f := fun f hf => by
  obtain ⟨c, j, hc, hj, rfl⟩ : ∃ c j, c < 16 ∧ j < 7 ∧ f = 7 * c + j := ⟨f / 7, f % 7, by omega, by omega, by omega⟩
  have g : ∀ k, k < 8 → ∀ v v', (cellL W (7 * c))[k]? = some v → (cellL W' (7 * c))[k]? = some v' → numV v = numV v' := fun k hk v v' a b => (h (c * 8 + k) (by omega)).get ((row0_at W hc hk).trans a) ((row0_at W' hc hk).trans b)
  match j, hj with
  | 0, _ => exact lohi (g 0 (by omega) _ _ rfl rfl) (g 1 (by omega) _ _ rfl rfl)
  | 1, _ => exact g 2 (by omega) _ _ rfl rfl
  | 2, _ => exact g 3 (by omega) _ _ rfl rfl
  | 3, _ => exact g 4 (by omega) _ _ rfl rfl
  | 4, _ => exact g 5 (by omega) _ _ rfl rfl
  | 5, _ => exact g 6 (by omega) _ _ rfl rfl
  | 6, _ => exact g 7 (by omega) _ _ rfl rfl
theorem row_inj1 {W W' : Nat → Int} (h : ∀ o, o < 22 → Agr (rowL 1 W) (rowL 1 W') o)  : ∀ f, f < 18 → W f = W' f := fun f hf => by
  match f, hf with
  | 0, _ => exact (h 0 (by omega)).get rfl rfl
  | 1, _ => exact (h 1 (by omega)).get rfl rfl
  | 2, _ => exact lohi ((h 2 (by omega)).get rfl rfl) ((h 3 (by omega)).get rfl rfl)
  | 3, _ => exact (h 4 (by omega)).get rfl rfl
  | 4, _ => exact (h 5 (by omega)).get rfl rfl
  | 5, _ => exact lohi ((h 6 (by omega)).get rfl rfl) ((h 7 (by omega)).get rfl rfl)
  | 6, _ => exact (h 8 (by omega)).get rfl rfl
  | 7, _ => exact lohi ((h 9 (by omega)).get rfl rfl) ((h 10 (by omega)).get rfl rfl)
  | 8, _ => exact lohi ((h 11 (by omega)).get rfl rfl) ((h 12 (by omega)).get rfl rfl)
  | 9, _ => exact (h 13 (by omega)).get rfl rfl
  | 10, _ => exact (h 14 (by omega)).get rfl rfl
  | 11, _ => exact (h 15 (by omega)).get rfl rfl
  | 12, _ => exact (h 16 (by omega)).get rfl rfl
  | 13, _ => exact (h 17 (by omega)).get rfl rfl
  | 14, _ => exact (h 18 (by omega)).get rfl rfl
  | 15, _ => exact (h 19 (by omega)).get rfl rfl
  | 16, _ => exact (h 20 (by omega)).get rfl rfl
  | 17, _ => exact (h 21 (by omega)).get rfl rfl
  | f + 18, hf => exact absurd hf (by omega)
theorem row_inj2 {W W' : Nat → Int} (h : ∀ o, o < 3 → Agr (rowL 2 W) (rowL 2 W') o)  : ∀ f, f < 3 → W f = W' f := fun f hf => by
  match f, hf with
  | 0, _ => exact (h 0 (by omega)).get rfl rfl
  | 1, _ => exact (h 1 (by omega)).get rfl rfl
  | 2, _ => exact (h 2 (by omega)).get rfl rfl
theorem row_inj3 {W W' : Nat → Int} (h : ∀ o, o < 5 → Agr (rowL 3 W) (rowL 3 W') o)  : ∀ f, f < 4 → W f = W' f := fun f hf => by
  match f, hf with
  | 0, _ => exact (h 0 (by omega)).get rfl rfl
  | 1, _ => exact (h 1 (by omega)).get rfl rfl
  | 2, _ => exact (h 2 (by omega)).get rfl rfl
  | 3, _ => exact lohi ((h 3 (by omega)).get rfl rfl) ((h 4 (by omega)).get rfl rfl)
theorem row_inj4 {W W' : Nat → Int} (h : ∀ o, o < 3 → Agr (rowL 4 W) (rowL 4 W') o) (hq : Wt 4 W) (hq' : Wt 4 W') : ∀ f, f < 2 → W f = W' f := fun f hf => by
  match f, hf with
  | 0, _ => exact lohi ((h 0 (by omega)).get rfl rfl) ((h 1 (by omega)).get rfl rfl)
  | 1, _ => exact bo_inj (hq 1 (by decide)) (hq' 1 (by decide)) ((h 2 (by omega)).get rfl rfl)
theorem row_inj5 {W W' : Nat → Int} (h : ∀ o, o < 5 → Agr (rowL 5 W) (rowL 5 W') o) (hq : Wt 5 W) (hq' : Wt 5 W') : ∀ f, f < 4 → W f = W' f := fun f hf => by
  match f, hf with
  | 0, _ => exact (h 0 (by omega)).get rfl rfl
  | 1, _ => exact lohi ((h 1 (by omega)).get rfl rfl) ((h 2 (by omega)).get rfl rfl)
  | 2, _ => exact (h 3 (by omega)).get rfl rfl
  | 3, _ => exact bo_inj (hq 3 (by decide)) (hq' 3 (by decide)) ((h 4 (by omega)).get rfl rfl)
theorem off0 : (List.range 128).all (fun o => (offT Tryz.prog 10000 101 0).contains o) = true := by kernel_rfl
theorem eq_any0 (W W' : Nat → Int) : ∃ b, (∀ w, (Op.equalIn 10000 101 (.agg (rowL 0 W).toArray) (.agg (rowL 0 W').toArray)).run Tryz.prog w = .ok b w) ∧ (b = true → ∀ f, f < nF 0 → W f = W' f) := by
  obtain ⟨b, h1, h2⟩ := eq_any (P := Tryz.prog) 10000 101 (rowL 0 W) (rowL 0 W') (by rw [row_tags (by decide) W]; exact fit0) (by rw [row_tags (by decide) W']; exact fit0) (row_kin (by decide) W W')
  have e : ∀ V, valT Tryz.prog 101 (rowL 0 V) = .agg (rowL 0 V).toArray := fun V => by
    unfold valT
    rw [if_pos (by kernel_rfl)]
  refine ⟨b, fun w => by have := h1 w; rwa [e, e] at this, fun hb => ?_⟩
  have g : ∀ o, o < 128 → Agr (rowL 0 W) (rowL 0 W') o := fun o ho => h2 hb 0 _ _ (fun k v q => by rw [Nat.zero_add]; exact q) (fun k v q => by rw [Nat.zero_add]; exact q) o (by
    have := List.all_eq_true.1 off0 o (List.mem_range.2 ho)
    simpa using this)
  exact row_inj0 g
theorem off1 : (List.range 22).all (fun o => (offT Tryz.prog 10000 109 0).contains o) = true := by kernel_rfl
theorem eq_any1 (W W' : Nat → Int) : ∃ b, (∀ w, (Op.equalIn 10000 109 (.agg (rowL 1 W).toArray) (.agg (rowL 1 W').toArray)).run Tryz.prog w = .ok b w) ∧ (b = true → ∀ f, f < nF 1 → W f = W' f) := by
  obtain ⟨b, h1, h2⟩ := eq_any (P := Tryz.prog) 10000 109 (rowL 1 W) (rowL 1 W') (by rw [row_tags (by decide) W]; exact fit1) (by rw [row_tags (by decide) W']; exact fit1) (row_kin (by decide) W W')
  have e : ∀ V, valT Tryz.prog 109 (rowL 1 V) = .agg (rowL 1 V).toArray := fun V => by
    unfold valT
    rw [if_pos (by kernel_rfl)]
  refine ⟨b, fun w => by have := h1 w; rwa [e, e] at this, fun hb => ?_⟩
  have g : ∀ o, o < 22 → Agr (rowL 1 W) (rowL 1 W') o := fun o ho => h2 hb 0 _ _ (fun k v q => by rw [Nat.zero_add]; exact q) (fun k v q => by rw [Nat.zero_add]; exact q) o (by
    have := List.all_eq_true.1 off1 o (List.mem_range.2 ho)
    simpa using this)
  exact row_inj1 g
theorem off2 : (List.range 3).all (fun o => (offT Tryz.prog 10000 115 0).contains o) = true := by kernel_rfl
theorem eq_any2 (W W' : Nat → Int) : ∃ b, (∀ w, (Op.equalIn 10000 115 (.agg (rowL 2 W).toArray) (.agg (rowL 2 W').toArray)).run Tryz.prog w = .ok b w) ∧ (b = true → ∀ f, f < nF 2 → W f = W' f) := by
  obtain ⟨b, h1, h2⟩ := eq_any (P := Tryz.prog) 10000 115 (rowL 2 W) (rowL 2 W') (by rw [row_tags (by decide) W]; exact fit2) (by rw [row_tags (by decide) W']; exact fit2) (row_kin (by decide) W W')
  have e : ∀ V, valT Tryz.prog 115 (rowL 2 V) = .agg (rowL 2 V).toArray := fun V => by
    unfold valT
    rw [if_pos (by kernel_rfl)]
  refine ⟨b, fun w => by have := h1 w; rwa [e, e] at this, fun hb => ?_⟩
  have g : ∀ o, o < 3 → Agr (rowL 2 W) (rowL 2 W') o := fun o ho => h2 hb 0 _ _ (fun k v q => by rw [Nat.zero_add]; exact q) (fun k v q => by rw [Nat.zero_add]; exact q) o (by
    have := List.all_eq_true.1 off2 o (List.mem_range.2 ho)
    simpa using this)
  exact row_inj2 g
theorem off3 : (List.range 5).all (fun o => (offT Tryz.prog 10000 121 0).contains o) = true := by kernel_rfl
theorem eq_any3 (W W' : Nat → Int) : ∃ b, (∀ w, (Op.equalIn 10000 121 (.agg (rowL 3 W).toArray) (.agg (rowL 3 W').toArray)).run Tryz.prog w = .ok b w) ∧ (b = true → ∀ f, f < nF 3 → W f = W' f) := by
  obtain ⟨b, h1, h2⟩ := eq_any (P := Tryz.prog) 10000 121 (rowL 3 W) (rowL 3 W') (by rw [row_tags (by decide) W]; exact fit3) (by rw [row_tags (by decide) W']; exact fit3) (row_kin (by decide) W W')
  have e : ∀ V, valT Tryz.prog 121 (rowL 3 V) = .agg (rowL 3 V).toArray := fun V => by
    unfold valT
    rw [if_pos (by kernel_rfl)]
  refine ⟨b, fun w => by have := h1 w; rwa [e, e] at this, fun hb => ?_⟩
  have g : ∀ o, o < 5 → Agr (rowL 3 W) (rowL 3 W') o := fun o ho => h2 hb 0 _ _ (fun k v q => by rw [Nat.zero_add]; exact q) (fun k v q => by rw [Nat.zero_add]; exact q) o (by
    have := List.all_eq_true.1 off3 o (List.mem_range.2 ho)
    simpa using this)
  exact row_inj3 g
theorem off4 : (List.range 3).all (fun o => (offT Tryz.prog 10000 127 0).contains o) = true := by kernel_rfl
theorem eq_any4 (W W' : Nat → Int) (hq : Wq 4 W) (hq' : Wq 4 W') : ∃ b, (∀ w, (Op.equalIn 10000 127 (.agg (rowL 4 W).toArray) (.agg (rowL 4 W').toArray)).run Tryz.prog w = .ok b w) ∧ (b = true → ∀ f, f < nF 4 → W f = W' f) := by
  obtain ⟨b, h1, h2⟩ := eq_any (P := Tryz.prog) 10000 127 (rowL 4 W) (rowL 4 W') (by rw [row_tags (by decide) W]; exact fit4) (by rw [row_tags (by decide) W']; exact fit4) (row_kin (by decide) W W')
  have e : ∀ V, valT Tryz.prog 127 (rowL 4 V) = .agg (rowL 4 V).toArray := fun V => by
    unfold valT
    rw [if_pos (by kernel_rfl)]
  refine ⟨b, fun w => by have := h1 w; rwa [e, e] at this, fun hb => ?_⟩
  have g : ∀ o, o < 3 → Agr (rowL 4 W) (rowL 4 W') o := fun o ho => h2 hb 0 _ _ (fun k v q => by rw [Nat.zero_add]; exact q) (fun k v q => by rw [Nat.zero_add]; exact q) o (by
    have := List.all_eq_true.1 off4 o (List.mem_range.2 ho)
    simpa using this)
  exact row_inj4 g hq.1 hq'.1
theorem off5 : (List.range 5).all (fun o => (offT Tryz.prog 10000 133 0).contains o) = true := by kernel_rfl
theorem eq_any5 (W W' : Nat → Int) (hq : Wq 5 W) (hq' : Wq 5 W') : ∃ b, (∀ w, (Op.equalIn 10000 133 (.agg (rowL 5 W).toArray) (.agg (rowL 5 W').toArray)).run Tryz.prog w = .ok b w) ∧ (b = true → ∀ f, f < nF 5 → W f = W' f) := by
  obtain ⟨b, h1, h2⟩ := eq_any (P := Tryz.prog) 10000 133 (rowL 5 W) (rowL 5 W') (by rw [row_tags (by decide) W]; exact fit5) (by rw [row_tags (by decide) W']; exact fit5) (row_kin (by decide) W W')
  have e : ∀ V, valT Tryz.prog 133 (rowL 5 V) = .agg (rowL 5 V).toArray := fun V => by
    unfold valT
    rw [if_pos (by kernel_rfl)]
  refine ⟨b, fun w => by have := h1 w; rwa [e, e] at this, fun hb => ?_⟩
  have g : ∀ o, o < 5 → Agr (rowL 5 W) (rowL 5 W') o := fun o ho => h2 hb 0 _ _ (fun k v q => by rw [Nat.zero_add]; exact q) (fun k v q => by rw [Nat.zero_add]; exact q) o (by
    have := List.all_eq_true.1 off5 o (List.mem_range.2 ho)
    simpa using this)
  exact row_inj5 g hq.1 hq'.1
end Go.Proofs.Qxb6500847aGreatDoor.Os
