/-
  The abstract model: the array of entries, read whole.
-/
import Derived.Test.Qxb6500847aGreatDoorMdX
namespace Go.Proofs.Qxb6500847aGreatDoor.Os
open Go.RowKit FloorA
set_option maxRecDepth 100000
theorem flat6 {f : Nat → List Value} (hf : ∀ i, (f i).length = 6) : ∀ n, ((List.range n).flatMap f).length = n * 6 ∧ ∀ i j, i < n → j < 6 → ((List.range n).flatMap f)[i * 6 + j]? = (f i)[j]?
  | 0 => ⟨rfl, fun i j hi => by omega⟩
  | n + 1 => by
    obtain ⟨h1, h2⟩ := flat6 hf n
    rw [List.range_succ, List.flatMap_append]
    have e : List.flatMap f [n] = f n := by simp
    rw [e]
    refine ⟨by rw [List.length_append, h1, hf]; omega, fun i j hi hj => ?_⟩
    by_cases q : i < n
    · rw [List.getElem?_append_left (by rw [h1]; omega)]
      exact h2 i j q hj
    · have : i = n := by omega
      subst this
      rw [List.getElem?_append_right (by rw [h1]; omega), h1]
      congr 1
      omega
/-- The cells of the model, words' slices vs. -/
def csM (M : Nat → En) (vs : Nat → Value) : List Value := (List.range 320).flatMap (fun i => ent6 (M i) (vs i))
theorem csM_len (M : Nat → En) (vs : Nat → Value) : (csM M vs).length = 1920 := (flat6 (f := fun i => ent6 (M i) (vs i)) (fun _ => rfl) 320).1
theorem csM_get (M : Nat → En) (vs : Nat → Value) {i j : Nat} (hi : i < 320) (hj : j < 6) : (csM M vs)[i * 6 + j]? = (ent6 (M i) (vs i))[j]? := (flat6 (f := fun i => ent6 (M i) (vs i)) (fun _ => rfl) 320).2 i j hi hj
theorem inf148 : (Tryz.prog.info? 148).map (·.size) = some 1920 := by kernel_rfl
theorem inf147 : (Tryz.prog.info? 147).map (·.size) = some 6 := by kernel_rfl
section
variable {w w' : World} {B : Nat} {wb : Nat → Nat} {M : Nat → En}
theorem Md.rng (h : Md w B wb M) : ∃ vs : Nat → Value, (∀ i, i < 320 → WdV w (wb i) (M i).wds (vs i)) ∧ w.rangeAt B 0 (csM M vs) := by
  obtain ⟨vs, hv⟩ := skolem (n := 320) (p := fun i v => w.cell? ⟨B, i * 6 + 5, none⟩ = some v ∧ WdV w (wb i) (M i).wds v) (fun i hi => h.wrd i hi)
  refine ⟨vs, fun i hi => (hv i hi).2, fun q x hx => ?_⟩
  have hq : q < 1920 := by have := (List.getElem?_eq_some_iff.1 hx).1; rw [csM_len] at this; exact this
  obtain ⟨i, j, hij, hi, hj⟩ : ∃ i j, q = i * 6 + j ∧ i < 320 ∧ j < 6 := ⟨q / 6, q % 6, by omega, by omega, by omega⟩
  subst hij
  rw [csM_get M vs hi hj] at hx
  rw [Nat.zero_add]
  match j, hj, hx with
  | 0, _, hx => exact h.cel i hi 0 x hx
  | 1, _, hx => exact h.cel i hi 1 x hx
  | 2, _, hx => exact h.cel i hi 2 x hx
  | 3, _, hx => exact h.cel i hi 3 x hx
  | 4, _, hx => exact h.cel i hi 4 x hx
  | 5, _, hx =>
    obtain rfl := Option.some.inj hx
    exact (hv i hi).1
/-- An entry out of the array. -/
theorem idx148 (M : Nat → En) (vs : Nat → Value) {k : Nat} (hk : k < 320) (w : World) : (Instr.index 148 (.agg (csM M vs).toArray) (.int .i64 (k : Int))).run Tryz.prog w = .ok (.agg (ent6 (M k) (vs k)).toArray) w := by
  obtain ⟨i7, hi7, hs7⟩ := Option.map_eq_some_iff.1 inf147
  have he : List.take 6 (List.drop (k * 6) (csM M vs)) = ent6 (M k) (vs k) := by
    apply List.ext_getElem?
    intro j
    by_cases q : j < 6
    · rw [List.getElem?_take_of_lt q, List.getElem?_drop]
      exact csM_get M vs hk q
    · rw [List.getElem?_eq_none (by rw [List.length_take]; omega), List.getElem?_eq_none (by show 6 ≤ j; omega)]
  unfold Instr.index
  simp [asIntOf, run_underlying Tryz.underlying148, part, isAgg, run_underlying Tryz.underlying147, sizeOf, typeInfo, hi7, hs7]
  rw [if_pos hk, he]
/-- The loop of stats: the counts by type lie in block w.heap.size + 1. -/
structure Lw (w wr : World) (M : Nat → En) (k : Nat) : Prop where
  bel : Below w.heap.size w wr
  box : wr.heap[w.heap.size]? = some (.cells #[.int .u8 0, .slice none 0 0, .slice none 0 0] 57 (0, 0))
  cnt : ∀ t, t < 8 → wr.cell? ⟨w.heap.size + 1, t, none⟩ = some (.int .u64 (stT M t k))
  fz : ∀ o, wr.frozen? ⟨w.heap.size + 1, o, none⟩ = false
theorem Lw.lt {wr : World} {k : Nat} (h : Lw w wr M k) : w.heap.size + 1 < wr.heap.size := cell_lt (h.cnt 0 (by omega))
theorem Lw.dead {wr : World} {k : Nat} (h : Lw w wr M k) (o : Obj) (ht : ∀ t, t < 8 → stT M t (k + 1) = stT M t k) : Lw w (wr.alloc o) M (k + 1) := by
  have hl := h.lt
  have hb := alloc_below (w := wr) o
  refine ⟨Below.thr h.bel hb, (hb.block _ (by omega)).trans h.box, fun t h8 => ?_, fun o' => (World.frozen?_of_block (a := ⟨w.heap.size + 1, o', none⟩) (hb.block _ hl)).trans (h.fz o')⟩
  rw [ht t h8]
  exact (hb.cell (p := ⟨w.heap.size + 1, t, none⟩) hl).trans (h.cnt t h8)
theorem Lw.live {wr : World} {k tk : Nat} (h : Lw w wr M k) (o : Obj) (h8 : tk < 8) (ht : ∀ t, t < 8 → stT M t (k + 1) = if t = tk then stT M tk k + 1 else stT M t k) : Lw w ((wr.alloc o).setCell ⟨w.heap.size + 1, tk, none⟩ (.int .u64 (stT M tk k + 1))) M (k + 1) := by
  have hl := h.lt
  have hb := alloc_below (w := wr) o
  refine ⟨(Below.thr h.bel hb).setCell (p := ⟨w.heap.size + 1, tk, none⟩) (Nat.le_succ _) _, ?_, fun t h8' => ?_, fun o' => (World.frozen?_setCell ..).trans ((World.frozen?_of_block (a := ⟨w.heap.size + 1, o', none⟩) (hb.block _ hl)).trans (h.fz o'))⟩
  · exact (Below.heap_setCell _ _ _ _ (by show ¬ w.heap.size = w.heap.size + 1; omega)).trans ((hb.block _ (by omega)).trans h.box)
  · rw [ht t h8']
    by_cases q : t = tk
    · subst q
      rw [if_pos rfl]
      exact set_same ((hb.cell (p := ⟨w.heap.size + 1, t, none⟩) hl).trans (h.cnt t h8))
    · rw [if_neg q]
      exact (set_other (fun e => q (by injection e with _ e2; exact e2.symm))).trans ((hb.cell (p := ⟨w.heap.size + 1, t, none⟩) hl).trans (h.cnt t h8'))
end
end Go.Proofs.Qxb6500847aGreatDoor.Os
