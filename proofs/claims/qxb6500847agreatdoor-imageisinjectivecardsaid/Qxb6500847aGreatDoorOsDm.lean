/-
  Decode: the order of the entries, sorted, whatever its length.
-/
import Derived.Test.Qxb6500847aGreatDoorOsDk
namespace Go.Proofs.Qxb6500847aGreatDoor.Os
open Go.RowKit FloorA Go.Shelf Go.Lib Go.Sort
set_option maxRecDepth 100000
section
variable {A : Nat} {s : Av} {w : World}
theorem sort_few {p : Option Addr} {n cap : Nat} {l : List Nat} (hl : l.length = n) (h1 : n ≤ 1) (hc : ∀ g n' c', Value.slice p n cap = .slice (some ⟨g, 0, none⟩) n' c' → ∀ j (h : j < l.length), w.cell? ⟨g, j, none⟩ = some (.int .u16 ((l[j] : Nat) : Int))) (lf : Fn) (la lb : Array Value) :
    Calls Tryz.prog 230 #[.iface 93 (.slice p n cap), .func lf la lb] w (SoPost s (.slice p n cap) l w) := by
  obtain ⟨f, hf⟩ : ∃ f, Tryz.prog.funcs.findIdx? (·.name == "internal/reflectlite" ++ ".Swapper$" ++ toString (swapperK n soE 9)) = some f := by
    have e : n = 0 ∨ n = 1 := by omega
    rcases e with rfl | rfl
    · exact ⟨307, by kernel_rfl⟩
    · exact ⟨308, by kernel_rfl⟩
  have hS := Any.sort_Slice_tiny Tryz.sl6 93 29 soT soE (by kernel_rfl) (by kernel_rfl) (by kernel_rfl) (by kernel_rfl) 9 (fun _ => by kernel_rfl) p n cap h1 f hf lf la lb w
  change Calls Tryz.prog 230 _ _ _ at hS
  refine hS.mono ?_
  rintro e w' ⟨rfl, os, rfl⟩
  refine ⟨rfl, ⟨rfl, rfl, rfl, by rw [size_grow]; exact Nat.le_add_right _ _, fun k hk _ => heap_grow_old _ _ hk⟩, l, List.Perm.refl _, ?_, fun g n' c' hv j h => ?_⟩
  · match l, hl with
    | [], _ => exact List.Pairwise.nil
    | [_], _ => exact List.pairwise_singleton _ _
    | _ :: _ :: _, q => exact absurd q (by simp only [List.length_cons]; omega)
  have := hc g n' c' hv j h
  rw [cell?_grow _ _ _ (cell_lt this)]
  exact this
theorem sort_walk {Ba Bo base : Nat} {v : Value} {l : List Nat} (hA : Am w A s) (ha : w.heap[Ba]? = some (.cells #[.pointer (some ⟨A, 0, none⟩)] 24 (0, 0))) (ho : w.heap[Bo]? = some (.cells #[v] 93 (0, 0))) (hv : OwnK .u16 29 base w v (l.map (fun x : Nat => (x : Int)))) (hl : ∀ x ∈ l, x < 320) (hn : l.length ≤ 320) (hAb : A < base) :
    Calls Tryz.prog 230 #[.iface 93 v, .func (.func 231) #[] #[.pointer (some ⟨Ba, 0, none⟩), .pointer (some ⟨Bo, 0, none⟩)]] w (SoPost s v l w) := by
  rcases hv.2 with ⟨rfl, h0⟩ | ⟨g, cap, cur, rfl, hg, hcur, hnc, _, hsz, htk⟩
  · rw [List.length_map] at h0
    exact sort_few h0 (by omega) (fun g n' c' q => by cases q) _ _ _
  · simp only [List.length_map] at hnc htk ho ⊢
    have hcell : ∀ j (h : j < l.length), w.cell? ⟨g, j, none⟩ = some (.int .u16 ((l[j] : Nat) : Int)) ∧ w.frozen? ⟨g, j, none⟩ = false := fun j h => by
      refine ⟨?_, by simp [World.frozen?, hcur]⟩
      rw [box_cell hcur j]
      have h1 : (cur.toList.take (l.length * 1))[j]? = ((l.map (fun x : Nat => (x : Int))).map (Value.int .u16))[j]? := by rw [htk]
      rw [List.getElem?_take_of_lt (by omega)] at h1
      rw [← Array.getElem?_toList, h1]
      simp [h]
    by_cases h2 : l.length ≤ 1
    · refine sort_few rfl h2 (fun g' n' c' q j h => ?_) _ _ _
      injection q with q _ _
      injection q with q
      injection q with q _ _
      subst q
      exact (hcell j h).1
    · exact sort_many hA (cell_of_one ha) (cell_of_one ho) hcell hl hn (by omega) (by omega) (fun q => by
        rw [q, ha] at hcur
        cases hcur) (fun q => by
        rw [q, ho] at hcur
        cases hcur)
end
end Go.Proofs.Qxb6500847aGreatDoor.Os
