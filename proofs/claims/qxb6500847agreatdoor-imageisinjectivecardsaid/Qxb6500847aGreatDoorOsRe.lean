/-
  Rows as a whole, in regions that draw their order; what read, write and fill do.
-/
import Derived.Test.Qxb6500847aGreatDoorOsUb
namespace Go.Proofs.Qxb6500847aGreatDoor.Os
open Go.RowKit FloorA
set_option maxRecDepth 100000
section
variable {P : Program} {ops : Array Oper} {md : Region.Mode} {Q : Exit → Act → World → Prop} {fuel : Nat} {listed : Array Bool} {a : Act} {w : World}
/-- A call of a Go function, where nothing else may come up. -/
theorem anyH_call {S : World → Prop} {i : Nat} {d : Option Nat} {f : FuncId} {args : Array Value} {E : Sem Next} (hw : (ops[i]?.map fun o => (o.dst, Region.wanted o (yielded ops a.tmps), execOp a.eval o)) = some (d, true, E)) (hr : Region.ready md ops listed = [i]) (hE : E.run P w = .ok (.enter f args) w)
    (hc : Calls P f args w (fun e w' => ∃ v, e = .returned v ∧ S w' ∧ wpAnyH P md ops Q S fuel (listed.setIfInBounds i true) (a.put d v) w')) : wpAnyH P md ops Q S (fuel + 1) listed a w := by
  obtain ⟨o, ho, e⟩ := Option.map_eq_some_iff.1 hw
  simp only [Prod.mk.injEq] at e
  obtain ⟨rfl, e2, rfl⟩ := e
  refine wpAnyH_all hr (by simp) (fun j hj => ?_)
  rw [List.mem_singleton.1 hj]
  refine wpOp_step ho (fun K hK => ?_)
  rw [if_pos e2]
  unfold Oper.wp
  rw [hE, Oper.upon_enter]
  refine hc.mono ?_
  rintro e w' ⟨v, rfl, hS, h⟩
  exact hK _ _ ⟨hS, h⟩
end
/-- The cells of a fresh payload. -/
noncomputable def zeT : Nat → Array Value
  | 0 => Tryz.zeroCells101
  | 1 => #[.int .u8 0, .int .u8 0, .int .u16 0, .int .u32 0, .int .u16 0, .int .u16 0, .int .u16 0, .int .u32 0, .int .u32 0, .int .u16 0, .int .u32 0, .int .u16 0, .int .u32 0, .int .u64 0, .int .u8 0, .int .u64 0, .int .u64 0, .int .u64 0, .int .u64 0, .int .u8 0, .int .u32 0, .int .u32 0]
  | 2 => #[.int .u8 0, .int .u16 0, .int .u16 0]
  | 3 => #[.int .u64 0, .int .u16 0, .int .u16 0, .int .u16 0, .int .u32 0]
  | 4 => #[.int .u16 0, .int .u32 0, .bool false]
  | _ => #[.int .u8 0, .int .u16 0, .int .u32 0, .int .u64 0, .bool false]
theorem ze1 : zeT 1 = (rowL 1 (fun _ => 0)).toArray := by kernel_rfl
theorem ze2 : zeT 2 = (rowL 2 (fun _ => 0)).toArray := by kernel_rfl
theorem ze3 : zeT 3 = (rowL 3 (fun _ => 0)).toArray := by kernel_rfl
theorem ze4 : zeT 4 = (rowL 4 (fun _ => 0)).toArray := by kernel_rfl
theorem ze5 : zeT 5 = (rowL 5 (fun _ => 0)).toArray := by kernel_rfl
theorem zeT_row {t : Nat} (ht : t < 6) : zeT t = (rowL t (fun _ => 0)).toArray := by
  match t, ht with
  | 0, _ => exact zrow0
  | 1, _ => exact ze1
  | 2, _ => exact ze2
  | 3, _ => exact ze3
  | 4, _ => exact ze4
  | 5, _ => exact ze5
section
variable {w w' : World}
theorem zero_new {t : Nat} (ht : t < 6) {b : Nat} {T : TypeId} (h : w.heap[b]? = some (.cells (zeT t) T (0, 0))) : w.rangeAt b 0 (rowL t (fun _ => 0)) := fun j v hv => by
  rw [Nat.zero_add, box_cell h j, zeT_row ht]
  simpa using hv
theorem row_there {t : Nat} (ht : t < 6) {b : Nat} {T : TypeId} (h : w.heap[b]? = some (.cells (zeT t) T (0, 0))) (W : Nat → Int) : w.there b 0 (rowL t W).length := by
  rw [rowL_len]
  exact there_of h _ (by rw [zeT_row ht, List.size_toArray, rowL_len]; exact Nat.le_refl _)
theorem loadVar_row {t R : Nat} (ht : t < 6) {W : Nat → Int} (h : w.rangeAt R 0 (rowL t W)) : (loadVar (tyT t) ⟨R, 0, none⟩).run Tryz.prog w = .ok (.agg (rowL t W).toArray) w := by
  obtain ⟨d, hu, hd⟩ := row_un ht
  exact run_loadVar_mid w R 0 (tyT t) _ d h hu hd (row_sz ht W)
/-- What read answers. -/
def RdPost (t : Nat) (s : Av) (ws : Nat → Nat → Nat → Int) (i : Nat) (g : Int) (w : World) (e : Ending) (w' : World) : Prop :=
  Below w.heap.size w w' ∧ ((Live s i g ∧ (s.hd i).typ = ((t + 2 : Nat) : Int) ∧ ∃ r : Nat, (s.hd i).row = (r : Int) ∧ r < nR t ∧ e = .returned (.tuple #[.agg (rowL t (ws t r)).toArray, .nilIface])) ∨ (¬ (Live s i g ∧ (s.hd i).typ = ((t + 2 : Nat) : Int)) ∧ ∃ v code, e = .returned (.tuple #[.agg (rowL t (fun _ => 0)).toArray, v]) ∧ code ≠ 0 ∧ IsErr w' v code ∧ code = (if Live s i g then 3 else stale i g)))
/-- The first k words. -/
def cut (X : Nat → Nat) (k : Nat) : Nat → Int := fun f => if f < k then (X f : Int) else 0
theorem cut_zero (X : Nat → Nat) : cut X 0 = fun _ => 0 := by funext f; unfold cut; rw [if_neg (by omega)]
theorem cut_step (X : Nat → Nat) (k : Nat) : upd (cut X k) k (X k : Int) = cut X (k + 1) := by
  funext f
  unfold upd cut
  by_cases e : f = k
  · rw [if_pos e, if_pos (by omega), e]
  · rw [if_neg e]
    by_cases q : f < k
    · rw [if_pos q, if_pos (by omega)]
    · rw [if_neg q, if_neg (by omega)]
/-- What fill does: refused, or the scratch block's row is copied. -/
def FlPost (t B o N : Nat) (X : Nat → Nat) (w : World) (e : Ending) (w' : World) : Prop :=
  ((∃ f, f < nF t ∧ ¬ fOk t f (X f : Int)) ∧ e = .returned (.bool false) ∧ Ext w.heap.size (fun b => b = N) w w') ∨ ((∀ f, f < nF t → fOk t f (X f : Int)) ∧ e = .returned (.bool true) ∧ ∃ w2, Ext w.heap.size (fun b => b = N) w w2 ∧ w' = w2.setCells B o (rowL t (cut X (nF t))))
/-- n words in memory. -/
def Words (w : World) (b o n : Nat) (X : Nat → Nat) : Prop := ∀ f, f < n → X f < 18446744073709551616 ∧ w.cell? ⟨b, o + f, none⟩ = some (.int .u64 (X f : Int))
theorem Words.ext {b o n B : Nat} {X : Nat → Nat} {T : Nat → Prop} (h : Words w b o n X) (e : Ext B T w w') (hb : b < B) (hx : ¬ T b) : Words w' b o n X := fun f hf => by
  obtain ⟨h1, h2⟩ := h f hf
  exact ⟨h1, (e.cell (p := ⟨b, o + f, none⟩) hb hx).trans h2⟩
theorem frz_ext' {T : Nat → Prop} (e : Ext w.heap.size T w w') {b : Nat} (hb : b < w.heap.size) (hT : ¬ T b) {q : Nat} : w'.frozen? ⟨b, q, none⟩ = w.frozen? ⟨b, q, none⟩ := by
  unfold World.frozen?
  rw [show w'.heap[(⟨b, q, none⟩ : Addr).block]? = w.heap[(⟨b, q, none⟩ : Addr).block]? from e.block b hb hT]
theorem MrPost.ret {A : Nat} {rb sb : Nat → Nat} {s : Av} {tl : Nat → List Int} {ws : Nat → Nat → Nat → Int} {X : Int × (Nat → En)} {e : Ending} (h : MrPost A rb sb s tl ws X w e w') : ∃ v, e = .returned v := by
  rcases h with ⟨v, e, _⟩ | ⟨_, e, _⟩
  · exact ⟨v, e⟩
  · exact ⟨_, e⟩
theorem MrPost.frame {A : Nat} {rb sb : Nat → Nat} {s : Av} {tl : Nat → List Int} {ws : Nat → Nat → Nat → Int} {X : Int × (Nat → En)} {e : Ending} (h : MrPost A rb sb s tl ws X w e w') : Ext w.heap.size (Tz A rb sb) w w' := by
  rcases h with ⟨v, e, hr, _⟩ | ⟨_, e, _, _, hx, _⟩
  · exact Ext.of_below hr.2.2 _
  · exact hx
theorem MrPost.from {w0 : World} {A : Nat} {rb sb : Nat → Nat} {s : Av} {tl : Nat → List Int} {ws : Nat → Nat → Nat → Int} {X : Int × (Nat → En)} {e : Ending} (h : MrPost A rb sb s tl ws X w0 e w') (hb : Below w.heap.size w w0) : MrPost A rb sb s tl ws X w e w' := by
  rcases h with ⟨v, e, ⟨h1, h2, h3⟩, h4⟩ | ⟨h1, e, ws', h2, hx, h3⟩
  · exact Or.inl ⟨v, e, ⟨h1, h2, Below.thr hb h3⟩, h4⟩
  · exact Or.inr ⟨h1, e, ws', h2, (Ext.of_below hb _).trans hx hb.size (fun _ _ q => q), h3⟩
theorem box_row {t b : Nat} {T : TypeId} {W : Nat → Int} (h : w.heap[b]? = some (.cells (rowL t W).toArray T (0, 0))) : w.rangeAt b 0 (rowL t W) := fun j v hv => by
  rw [Nat.zero_add, box_cell h j]
  simpa using hv
theorem FlPost.ret {t B o N : Nat} {X : Nat → Nat} {e : Ending} (h : FlPost t B o N X w e w') : ∃ q, e = .returned (.bool q) := by
  rcases h with ⟨_, e, _⟩ | ⟨_, e, _⟩
  · exact ⟨_, e⟩
  · exact ⟨_, e⟩
theorem FlPost.frm {w1 : World} {t B o N : Nat} {X : Nat → Nat} {q : Bool} (h : FlPost t B o N X w1 (.returned (.bool q)) w') (hb : Below w.heap.size w w1) (hN : w.heap.size ≤ N) : Ext w.heap.size (fun b => b = B) w w' := by
  rcases h with ⟨_, _, hx⟩ | ⟨_, _, w2, hx, rfl⟩
  · exact Ext.of_below (Ext.toBelow hx hb hN hb.size) _
  · have h2 := Ext.toBelow hx hb hN hb.size
    exact (Ext.of_below h2 (fun b => b = B)).trans (cells_ext w2 B (rowL t (cut X (nF t))) o) h2.size (fun _ _ q => q)
theorem FlPost.bad {w1 : World} {t B o N : Nat} {X : Nat → Nat} (h : FlPost t B o N X w1 (.returned (.bool false)) w') (hb : Below w.heap.size w w1) (hN : w.heap.size ≤ N) : (∃ f, f < nF t ∧ ¬ fOk t f (X f : Int)) ∧ Below w.heap.size w w' ∧ ∀ b, b < w1.heap.size → b ≠ N → w'.heap[b]? = w1.heap[b]? := by
  rcases h with ⟨hf, _, hx⟩ | ⟨_, e, _⟩
  · exact ⟨hf, Ext.toBelow hx hb hN hb.size, fun b h1 h2 => hx.block b h1 h2⟩
  · cases e
theorem cut_wq {t : Nat} {X : Nat → Nat} (h : ∀ f, f < nF t → fOk t f (X f : Int)) : Wq t (cut X (nF t)) := ⟨fun f hf => by unfold cut; rw [if_pos hf]; exact ⟨by omega, (h f hf).1⟩, fun f hf => by unfold cut; rw [if_pos hf]; exact (h f hf).2⟩
theorem FlPost.good {A : Nat} {rb sb : Nat → Nat} {s : Av} {tl : Nat → List Int} {ws : Nat → Nat → Nat → Int} {L : Nat → List Nat} {n i : Nat} {w1 : World} {t r N : Nat} {X : Nat → Nat} {Y : Int × (Nat → En)} (h : FlPost t (rb t) (r * nC t) N X w1 (.returned (.bool true)) w') (hb : Below w.heap.size w w1) (hM : Ms w1 A rb sb s tl ws) (hI : IV s tl L n) (hW : Wr ws) (hi : i < 320) (ht : t < 6) (et : (s.hd i).typ = ((t + 2 : Nat) : Int)) (er : (s.hd i).row = (r : Int)) (hr : r < nR t) (hN : w.heap.size ≤ N) (nT : ¬ Tz A rb sb N) (hY : (∀ f, f < nF t → fOk t f (X f : Int)) → Y = (0, updM (ob s ws) i { ob s ws i with wds := wlist (nF t) (cut X (nF t)) })) : MrPost A rb sb s tl ws Y w (.returned .nilIface) w' := by
  rcases h with ⟨_, e, _⟩ | ⟨hq, _, w2, hx, rfl⟩
  · cases e
  · have hM2 := hM.ext hx (fun b hb e => nT (by rw [← e]; exact hb))
    have hth : w2.there (rb t) (r * nC t) (nC t) := fun j hj => ⟨(hM2.row t ht r hr).isSome j (by rw [rowL_len]; exact hj), hM2.rfz t ht _⟩
    have hmany := St1.many w2 (rb t) (r * nC t) (rowL t (cut X (nF t)))
    rw [rowL_len] at hmany
    exact row_suc (Ext.toBelow hx hb hN hb.size) hM2 hI hW hi ht et er hr hmany (World.rangeAt_setCells_same w2 (rb t) (r * nC t) (rowL t (cut X (nF t))) (by rw [rowL_len]; exact hth)) (cut_wq hq) (hY hq)
theorem suc_none {A : Nat} {rb sb : Nat → Nat} {s : Av} {tl : Nat → List Int} {ws : Nat → Nat → Nat → Int} {X : Int × (Nat → En)} {w1 : World} (hb : Below w.heap.size w w1) (hM : Ms w1 A rb sb s tl ws) (hW : Wr ws) (hX : X = (0, ob s ws)) : MrPost A rb sb s tl ws X w (.returned .nilIface) w1 := by
  subst hX
  exact Or.inr ⟨rfl, rfl, ws, hM, Ext.of_below hb _, hW, rfl⟩
theorem ref_agg {b : Nat} {x y : Value} {T : TypeId} (h : w.heap[b]? = some (.cells #[x, y] T (0, 0))) : w.cell? ⟨b, 0, none⟩ = some x ∧ w.cell? ⟨b, 1, none⟩ = some y := ⟨(two_cells h).1, (two_cells h).2.1⟩
end
end Go.Proofs.Qxb6500847aGreatDoor.Os
