/-
  Arena.Equal on two arenas that are observed alike.
-/

import Derived.Test.Qxb6500847aGreatDoorOxEq
import Derived.Test.Qxb6500847aGreatDoorOsRe
import Derived.Test.Qxb6500847aGreatDoorOxA
namespace Go.Proofs.Qxb6500847aGreatDoor.Os
open Go.RowKit FloorA
set_option maxRecDepth 100000
theorem rowL_congr {t : Nat} (ht : t < 6) {W W' : Nat → Int} (h : ∀ f, f < nF t → W f = W' f) : rowL t W = rowL t W' := by
  match t, ht with
  | 0, _ =>
    show (List.range 16).flatMap _ = (List.range 16).flatMap _
    have key : ∀ c, c < 16 → cellL W (7 * c) = cellL W' (7 * c) := fun c hc => by
      have h' : ∀ f, f < 112 → W f = W' f := h
      unfold cellL
      rw [h' (7 * c) (by omega), h' (7 * c + 1) (by omega), h' (7 * c + 2) (by omega), h' (7 * c + 3) (by omega), h' (7 * c + 4) (by omega), h' (7 * c + 5) (by omega), h' (7 * c + 6) (by omega)]
    rw [List.flatMap_def, List.flatMap_def]
    exact congrArg List.flatten (List.map_congr_left (fun c hc => key c (List.mem_range.1 hc)))
  | 1, _ =>
    have h' : ∀ f, f < 18 → W f = W' f := h
    simp only [rowL]
    rw [h' 0 (by omega), h' 1 (by omega), h' 2 (by omega), h' 3 (by omega), h' 4 (by omega), h' 5 (by omega), h' 6 (by omega), h' 7 (by omega), h' 8 (by omega), h' 9 (by omega), h' 10 (by omega), h' 11 (by omega), h' 12 (by omega), h' 13 (by omega), h' 14 (by omega), h' 15 (by omega), h' 16 (by omega), h' 17 (by omega)]
  | 2, _ =>
    have h' : ∀ f, f < 3 → W f = W' f := h
    simp only [rowL]
    rw [h' 0 (by omega), h' 1 (by omega), h' 2 (by omega)]
  | 3, _ =>
    have h' : ∀ f, f < 4 → W f = W' f := h
    simp only [rowL]
    rw [h' 0 (by omega), h' 1 (by omega), h' 2 (by omega), h' 3 (by omega)]
  | 4, _ =>
    have h' : ∀ f, f < 2 → W f = W' f := h
    simp only [rowL]
    rw [h' 0 (by omega), h' 1 (by omega)]
  | 5, _ =>
    have h' : ∀ f, f < 4 → W f = W' f := h
    simp only [rowL]
    rw [h' 0 (by omega), h' 1 (by omega), h' 2 (by omega), h' 3 (by omega)]
theorem row_tags {t : Nat} (ht : t < 6) (W : Nat → Int) : (rowL t W).map tagV = (rowL t (fun _ => 0)).map tagV := by
  match t, ht with
  | 0, _ =>
    show ((List.range 16).flatMap _).map tagV = ((List.range 16).flatMap _).map tagV
    rw [List.map_flatMap, List.map_flatMap]
    rfl
  | 1, _ => rfl
  | 2, _ => rfl
  | 3, _ => rfl
  | 4, _ => rfl
  | 5, _ => rfl
def tyR : Nat → Nat
  | 0 => 101
  | 1 => 109
  | 2 => 115
  | 3 => 121
  | 4 => 127
  | _ => 133
theorem fit0 : fitsT Tryz.prog 10000 101 ((rowL 0 (fun _ => 0)).map tagV) = true := by kernel_rfl
theorem fit1 : fitsT Tryz.prog 10000 109 ((rowL 1 (fun _ => 0)).map tagV) = true := by kernel_rfl
theorem fit2 : fitsT Tryz.prog 10000 115 ((rowL 2 (fun _ => 0)).map tagV) = true := by kernel_rfl
theorem fit3 : fitsT Tryz.prog 10000 121 ((rowL 3 (fun _ => 0)).map tagV) = true := by kernel_rfl
theorem fit4 : fitsT Tryz.prog 10000 127 ((rowL 4 (fun _ => 0)).map tagV) = true := by kernel_rfl
theorem fit5 : fitsT Tryz.prog 10000 133 ((rowL 5 (fun _ => 0)).map tagV) = true := by kernel_rfl
theorem eq_row0 (W : Nat → Int) (w : World) : (Op.equalIn 10000 101 (.agg (rowL 0 W).toArray) (.agg (rowL 0 W).toArray)).run Tryz.prog w = .ok true w := by
  have h := eq_self (P := Tryz.prog) 10000 101 (rowL 0 W) (by rw [row_tags (by decide) W]; exact fit0) w
  have e : valT Tryz.prog 101 (rowL 0 W) = .agg (rowL 0 W).toArray := by
    unfold valT
    rw [if_pos (by kernel_rfl)]
  rwa [e] at h
theorem eq_row1 (W : Nat → Int) (w : World) : (Op.equalIn 10000 109 (.agg (rowL 1 W).toArray) (.agg (rowL 1 W).toArray)).run Tryz.prog w = .ok true w := by
  have h := eq_self (P := Tryz.prog) 10000 109 (rowL 1 W) (by rw [row_tags (by decide) W]; exact fit1) w
  have e : valT Tryz.prog 109 (rowL 1 W) = .agg (rowL 1 W).toArray := by
    unfold valT
    rw [if_pos (by kernel_rfl)]
  rwa [e] at h
theorem eq_row2 (W : Nat → Int) (w : World) : (Op.equalIn 10000 115 (.agg (rowL 2 W).toArray) (.agg (rowL 2 W).toArray)).run Tryz.prog w = .ok true w := by
  have h := eq_self (P := Tryz.prog) 10000 115 (rowL 2 W) (by rw [row_tags (by decide) W]; exact fit2) w
  have e : valT Tryz.prog 115 (rowL 2 W) = .agg (rowL 2 W).toArray := by
    unfold valT
    rw [if_pos (by kernel_rfl)]
  rwa [e] at h
theorem eq_row3 (W : Nat → Int) (w : World) : (Op.equalIn 10000 121 (.agg (rowL 3 W).toArray) (.agg (rowL 3 W).toArray)).run Tryz.prog w = .ok true w := by
  have h := eq_self (P := Tryz.prog) 10000 121 (rowL 3 W) (by rw [row_tags (by decide) W]; exact fit3) w
  have e : valT Tryz.prog 121 (rowL 3 W) = .agg (rowL 3 W).toArray := by
    unfold valT
    rw [if_pos (by kernel_rfl)]
  rwa [e] at h
theorem eq_row4 (W : Nat → Int) (w : World) : (Op.equalIn 10000 127 (.agg (rowL 4 W).toArray) (.agg (rowL 4 W).toArray)).run Tryz.prog w = .ok true w := by
  have h := eq_self (P := Tryz.prog) 10000 127 (rowL 4 W) (by rw [row_tags (by decide) W]; exact fit4) w
  have e : valT Tryz.prog 127 (rowL 4 W) = .agg (rowL 4 W).toArray := by
    unfold valT
    rw [if_pos (by kernel_rfl)]
  rwa [e] at h
theorem eq_row5 (W : Nat → Int) (w : World) : (Op.equalIn 10000 133 (.agg (rowL 5 W).toArray) (.agg (rowL 5 W).toArray)).run Tryz.prog w = .ok true w := by
  have h := eq_self (P := Tryz.prog) 10000 133 (rowL 5 W) (by rw [row_tags (by decide) W]; exact fit5) w
  have e : valT Tryz.prog 133 (rowL 5 W) = .agg (rowL 5 W).toArray := by
    unfold valT
    rw [if_pos (by kernel_rfl)]
  rwa [e] at h
section
variable {s s' : Av} {ws ws' : Nat → Nat → Nat → Int}
theorem ob_hd (h : ob s' ws' = ob s ws) {i : Nat} (hi : i < 320) : (s'.hd i).gen = (s.hd i).gen ∧ (s'.hd i).typ = (s.hd i).typ ∧ (s'.hd i).bas = (s.hd i).bas ∧ (s'.hd i).siz = (s.hd i).siz ∧ (s'.hd i).par = (s.hd i).par ∧ wdsOf (s'.hd i) ws' = wdsOf (s.hd i) ws := by
  have e := congrFun h i
  rw [ob_at _ _ hi, ob_at _ _ hi] at e
  injection e with e1 e2 e3 e4 e5 e6
  exact ⟨e1, e2, e3, e4, e5, e6⟩
theorem ob_pay (h : ob s' ws' = ob s ws) {i t : Nat} (hi : i < 320) (ht : (s.hd i).typ = ((t + 2 : Nat) : Int)) {f : Nat} (hf : f < nF t) : ws' t (s'.hd i).row.toNat f = ws t (s.hd i).row.toNat f := by
  obtain ⟨_, e2, _, _, _, e6⟩ := ob_hd h hi
  unfold wdsOf at e6
  have h2 : ¬ (s.hd i).typ < 2 := by omega
  have h3 : (s.hd i).typ.toNat - 2 = t := by omega
  rw [e2, if_neg h2, if_neg h2, h3] at e6
  have e7 := wlist_at (nF t) (ws' t (s'.hd i).row.toNat) hf
  rw [e6, wlist_at _ _ hf] at e7
  exact (Option.some.inj e7).symm
end
end Go.Proofs.Qxb6500847aGreatDoor.Os
