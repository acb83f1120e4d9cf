/-
  The machine: New, newMachine, reg.
-/
import Derived.Test.Qxb6500848aGreatDoorReps
namespace Go.Proofs.Qxb6500848aGreatDoor
open Go.RowKit Pl Go.Maps
set_option maxRecDepth 100000

def A0 : List Nd := [noneNd, ⟨1, [], [], 0, 0⟩, ⟨2, [], [], 0, 0⟩]
theorem wf0 : Wf A0 := by
  refine ⟨⟨[], rfl⟩, fun i h => ?_, fun i j h h' e => ?_⟩
  · have hi : i = 0 ∨ i = 1 ∨ i = 2 := by simp [A0] at h; omega
    rcases hi with rfl | rfl | rfl <;> refine ⟨by simp [A0, noneNd], by simp [A0, noneNd], by simp [A0, noneNd], by simp [A0, noneNd], by simp [A0, noneNd], by simp [A0, noneNd], by simp [A0, noneNd], by simp [A0, noneNd], by simp [A0, noneNd], by simp [A0, noneNd], by simp [A0, noneNd], ⟨by simp [A0, noneNd], by simp [A0, noneNd], by simp [A0, noneNd], by simp [A0, noneNd], by simp [A0, noneNd], by simp [A0, noneNd]⟩⟩
  · have hi : i = 0 ∨ i = 1 ∨ i = 2 := by simp [A0] at h; omega
    have hj : j = 0 ∨ j = 1 ∨ j = 2 := by simp [A0] at h'; omega
    rcases hi with rfl | rfl | rfl <;> rcases hj with rfl | rfl | rfl <;> simp [A0, noneNd] at e <;> rfl

/-- ErrFull. -/
def Ge (w : World) : Prop := ∃ t v, w.cell? ⟨2, 0, none⟩ = some (.iface t v)
theorem Ge.lt {w : World} (h : Ge w) : 2 < w.heap.size := by
  obtain ⟨t, v, e⟩ := h
  exact cell_lt e
theorem Ge.below {w w' : World} {B : Nat} (h : Ge w) (k : Below B w w') (hB : 2 < B) : Ge w' := by
  obtain ⟨t, v, e⟩ := h
  exact ⟨t, v, (k.cell (p := ⟨2, 0, none⟩) hB).trans e⟩

def nodes0 : Obj := .cells #[.int .i64 0, .slice none 0 0, .slice none 0 0, .int .i64 0, .int .i64 0, .int .i64 1, .slice none 0 0, .slice none 0 0, .int .i64 0, .int .i64 0, .int .i64 2, .slice none 0 0, .slice none 0 0, .int .i64 0, .int .i64 0] 110
def nw (w : World) (lim : Int) : World := (w.alloc nodes0).alloc (.cells #[.slice (some ⟨w.heap.size, 0, none⟩) 3 3, .int .i64 lim] 113)

theorem st_new {w : World} (hg : Ge w) (lim : Int) : St (fun b => b = w.heap.size + 1 ∨ b = w.heap.size) (nw w lim) (w.heap.size + 1) w.heap.size lim A0 := by
  have hl := hg.lt
  obtain ⟨t, v, e⟩ := hg
  have s1 : (w.alloc nodes0).heap.size = w.heap.size + 1 := Deep.nblk_alloc _ _
  have s2 : (nw w lim).heap.size = w.heap.size + 1 + 1 := by unfold nw; rw [Deep.nblk_alloc, s1]
  have hb : Below w.heap.size w (nw w lim) := (alloc_below _).trans ((alloc_below _).mono (by rw [s1]; omega))
  have hn : (nw w lim).heap[w.heap.size]? = some nodes0 := (Deep.blk_alloc_lt _ _ _ (by rw [s1]; omega)).trans (heap_new _ _)
  refine ⟨⟨wf0, by simp [A0], Or.inl rfl, Or.inr rfl, by omega, ⟨by omega, t, v, (hb.cell (p := ⟨2, 0, none⟩) hl).trans e⟩, 3, [(.slice none 0 0, .slice none 0 0), (.slice none 0 0, .slice none 0 0), (.slice none 0 0, .slice none 0 0)], new_at _ _ s1, rfl, ⟨by simp [rowOf, ndVals, A0], Or.inr ⟨w.heap.size, 3, _, rfl, by omega, hn, by simp [A0], by simp [maxLen], by simp, by simp [rowOf, ndVals, A0, noneNd]⟩⟩, fun i h h' => ?_⟩, fun z hz => by omega⟩
  have hi : i = 0 ∨ i = 1 ∨ i = 2 := by simp [A0] at h; omega
  rcases hi with rfl | rfl | rfl <;> exact ⟨Seq.nil _ _, Seq.nil _ _⟩

set_option maxHeartbeats 1000000 in
theorem new_walk {w : World} (lim : Int) : Calls Tryz.prog 97 #[.int .i64 lim] w fun e w' => e = .returned (.pointer (some ⟨w.heap.size + 1, 0, none⟩)) ∧ w' = nw w lim := by
  go_enter Tryz.func97, Tryz.ntmps97
  go_wp2
  go_ret
  exact ⟨rfl, rfl⟩

def ewb (mm : Bool) (w : World) (ab : Nat) : World := ((((w.alloc (.map #[] 0)).alloc (.map #[] 0)).alloc (.map #[] 0)).alloc (.map #[] 0)).alloc (.cells #[.pointer (some ⟨ab, 0, none⟩), .bool mm, .map (some w.heap.size), .map (some (w.heap.size + 1)), .map (some (w.heap.size + 1 + 1)), .map (some (w.heap.size + 1 + 1 + 1))] 118)

def ew (w : World) (ab : Nat) : World := ewb true w ab
theorem en_newb (mm : Bool) {X : Nat → Prop} {w : World} {ab nb : Nat} {lim : Int} {A : List Nd} (hS : St X w ab nb lim A) : En (fun b => X b ∨ b = w.heap.size) (ewb mm w ab) (w.heap.size + 4) w.heap.size ab nb lim A := by
  have s1 : ∀ (W : World) (o : Obj), (W.alloc o).heap.size = W.heap.size + 1 := Deep.nblk_alloc
  have hm : ∀ b, b < w.heap.size → (X b ∨ b = w.heap.size) → X b := fun b hb h => h.elim id (fun e => by omega)
  have hb : Below w.heap.size w (ewb mm w ab) := ((((alloc_below _).trans ((alloc_below _).mono (by rw [s1]; omega))).trans ((alloc_below _).mono (by rw [s1, s1]; omega))).trans ((alloc_below _).mono (by rw [s1, s1, s1]; omega))).trans ((alloc_below _).mono (by rw [s1, s1, s1, s1]; omega))
  have la := hS.ar.la
  have ln := hS.xlt nb hS.ar.xn
  have sz : (ewb mm w ab).heap.size = w.heap.size + 5 := by unfold ewb; rw [s1, s1, s1, s1, s1]
  refine ⟨⟨(hS.ar.more (fun b hb => Or.inl hb) hm).below hb (Nat.le_refl _), fun z hz => ?_⟩, ⟨(mm, _), _, _, new_at _ _ (by rw [s1, s1, s1, s1])⟩, fun e => e.elim (fun e => by have := hS.xlt _ e; omega) (fun e => by omega), Or.inr rfl, by omega, by omega, fun _ => .nilFunc, [], ?_, fun k hk => absurd hk (by simp)⟩
  · rw [sz]
    rcases hz with hz | hz
    · have := hS.xlt z hz; omega
    · omega
  · have m := Mp.made 159 w (fun _ => Value.nilFunc)
    have m1 := m.ext (Ext.of_below (alloc_below (.map #[] 0)) (fun _ => False)) m.lt id
    have m2 := m1.ext (Ext.of_below (alloc_below (.map #[] 0)) (fun _ => False)) m1.lt id
    have m3 := m2.ext (Ext.of_below (alloc_below (.map #[] 0)) (fun _ => False)) m2.lt id
    exact m3.ext (Ext.of_below (alloc_below _) (fun _ => False)) m3.lt id

theorem en_new {X : Nat → Prop} {w : World} {ab nb : Nat} {lim : Int} {A : List Nd} (hS : St X w ab nb lim A) : En (fun b => X b ∨ b = w.heap.size) (ew w ab) (w.heap.size + 4) w.heap.size ab nb lim A := en_newb true hS

set_option maxHeartbeats 1000000 in
theorem enew_walkb (mm : Bool) {w : World} (ab : Nat) : Calls Tryz.prog 52 #[.pointer (some ⟨ab, 0, none⟩), .bool mm] w fun e w' => e = .returned (.pointer (some ⟨w.heap.size + 4, 0, none⟩)) ∧ w' = ewb mm w ab := by
  have hmm := @run_makeMap Tryz.prog
  go_enter Tryz.func52, Tryz.ntmps52
  go_wp2
  go_ret
  exact ⟨rfl, rfl⟩
theorem enew_walk {w : World} (ab : Nat) : Calls Tryz.prog 52 #[.pointer (some ⟨ab, 0, none⟩), .bool true] w fun e w' => e = .returned (.pointer (some ⟨w.heap.size + 4, 0, none⟩)) ∧ w' = ew w ab := enew_walkb true ab
end Go.Proofs.Qxb6500848aGreatDoor
