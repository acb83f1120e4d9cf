/-
  The abstract model: a word, or all words, of an entry are written.
-/
import Derived.Test.Qxb6500847aGreatDoorMdX
import Derived.Test.Qxb6500847aGreatDoorMdK
import Derived.Laws.IdiomCopy
import Derived.Deep.RegionLaw
namespace Go.Proofs.Qxb6500847aGreatDoor.Os
open Go.RowKit FloorA
set_option maxRecDepth 100000
theorem inf34m : (Tryz.prog.info? 34).map (fun i => (i.zero, i.size, i.bytes)) = some (some (.int .u64 0), 1, 8) := by kernel_rfl
theorem siz34m : (Tryz.prog.info? 34).map (·.size) = some 1 := by kernel_rfl
/-- copy as one step of a region that draws its order. -/
theorem step_copy_r {P : Program} {ops : Array Oper} {o : Oper} {a : Act} {w : World} {K : Act → World → Prop} {Q : Exit → Act → World → Prop} {E : Prop}
    (hg : o.guard = none) (d x : Operand) (dT sT : TypeId) (hop : o.op = Op.call { callee := Callee.builtin Builtin.copy, args := #[d, x], argTypes := #[dT, sT] })
    (v u : Value) (hd : a.eval d = v) (hx : a.eval x = u) {v' : Value} {w' : World} (hr : (Builtin.copy_ #[dT, sT] o.type #[v, u]).run P w = .ok v' w') (hK : K (a.put o.dst v') w') :
    if Region.wanted o (yielded ops a.tmps) = true then Oper.wp P o a w K Q else E := by
  have hw : Region.wanted o (yielded ops a.tmps) = true := by simp [Region.wanted, hg]
  rw [if_pos hw]
  unfold Oper.wp
  simp [execOp, hop, resolve, invoke, builtin, hd, hx, hr, Result.andThen]
  exact hK
theorem addP (b o i : Nat) : (⟨b, o, none⟩ : Addr).add i = ⟨b, o + i, none⟩ := by unfold Addr.add; by_cases e : i = 0 <;> simp [e]
theorem one_us (l : List Int) : ∀ v ∈ l.map (Value.int .u64), v.oneCell' = true := by
  intro v hv
  obtain ⟨x, _, rfl⟩ := List.mem_map.1 hv
  rfl
section
variable {w w' : World} {B : Nat} {wb : Nat → Nat} {M : Nat → En} {i : Nat}
theorem WdV.rng {g : Nat} {l : List Int} {v : Value} (h : WdV w g l v) (hn : l ≠ []) : w.rangeAt g 0 (l.map (.int .u64)) ∧ ∀ o, w.frozen? ⟨g, o, none⟩ = false := by
  rcases h with ⟨e, _⟩ | ⟨_, _, _, _, _, r, f⟩
  · exact absurd e hn
  · exact ⟨r, f⟩
/-- One word is written. -/
theorem Md.setW (h : Md w B wb M) (hi : i < 320) {f : Nat} (hf : f < (M i).wds.length) (x : Int) : Md (w.setCell ⟨wb i, f, none⟩ (.int .u64 x)) B wb (updM M i { M i with wds := (M i).wds.set f x }) := by
  have hw : (M i).wds ≠ [] := fun q => by rw [q] at hf; exact absurd hf (by simp)
  obtain ⟨v, _, hd⟩ := h.wrd i hi
  obtain ⟨r, fz⟩ := hd.rng hw
  refine h.words hi (fun q => hw ?_) (by simp) ((Ext.refl w.heap.size (fun b => b = wb i) w).setCell (p := ⟨wb i, f, none⟩) (Or.inr rfl) _) (fun k y hy => ?_) (fun o => (World.frozen?_setCell ..).trans (fz o))
  · have := congrArg List.length q
    simp at this
    exact this
  · rw [List.getElem?_map] at hy
    obtain ⟨z, hz, rfl⟩ := Option.map_eq_some_iff.1 hy
    rw [Nat.zero_add]
    by_cases q : k = f
    · subst q
      rw [List.getElem?_set_self hf] at hz
      obtain rfl := Option.some.inj hz
      obtain ⟨y0, hy0⟩ : ∃ y0, (M i).wds[k]? = some y0 := ⟨_, List.getElem?_eq_getElem hf⟩
      have := r k (.int .u64 y0) (by rw [List.getElem?_map, hy0]; rfl)
      rw [Nat.zero_add] at this
      exact set_same this
    · rw [List.getElem?_set_ne (fun e => q e.symm)] at hz
      have := r k (.int .u64 z) (by rw [List.getElem?_map, hz]; rfl)
      rw [Nat.zero_add] at this
      exact (set_other (fun e => q (by injection e with _ e2; exact e2.symm))).trans this
/-- All words are written. -/
theorem Md.setWs (h : Md w B wb M) (hi : i < 320) {l : List Int} (hn : l ≠ []) (hl : l.length = (M i).wds.length) : Md (w.setCells (wb i) 0 (l.map (.int .u64))) B wb (updM M i { M i with wds := l }) := by
  have hw : (M i).wds ≠ [] := fun q => by rw [q] at hl; exact hn (List.length_eq_zero_iff.1 hl)
  obtain ⟨v, _, hd⟩ := h.wrd i hi
  obtain ⟨r, fz⟩ := hd.rng hw
  refine h.words hi hn hl (Ext.cells (Ext.refl w.heap.size (fun b => b = wb i) w) rfl _ _) (World.rangeAt_setCells_same w (wb i) 0 _ (fun j hj => ?_)) (fun o => by rw [World.frozen?_setCells]; exact fz o)
  rw [List.length_map] at hj
  obtain ⟨y0, hy0⟩ : ∃ y0, (M i).wds[j]? = some y0 := ⟨_, List.getElem?_eq_getElem (by omega)⟩
  have := r j (.int .u64 y0) (by rw [List.getElem?_map, hy0]; rfl)
  exact ⟨by rw [this]; rfl, fz _⟩
theorem updW_tm {l : List Int} (hl : l.length = (M i).wds.length) {b : Nat} (h : Tm B wb (updM M i { M i with wds := l }) b) : Tm B wb M b := by
  rcases h with h | ⟨j, hj, hw, rfl⟩
  · exact Or.inl h
  · refine Or.inr ⟨j, hj, ?_, rfl⟩
    unfold updM at hw
    by_cases q : j = i
    · rw [if_pos q] at hw
      subst q
      exact fun z => hw (List.length_eq_zero_iff.1 (by show l.length = 0; rw [hl, z]; rfl))
    · rw [if_neg q] at hw; exact hw
/-- The first k words are zero. -/
def zk (l : List Int) (k : Nat) : List Int := List.replicate k 0 ++ l.drop k
theorem zk_len {l : List Int} {k : Nat} (h : k ≤ l.length) : (zk l k).length = l.length := by unfold zk; simp; omega
theorem zk_zero (l : List Int) : zk l 0 = l := by unfold zk; simp
theorem zk_all (l : List Int) : zk l l.length = List.replicate l.length 0 := by unfold zk; simp
theorem zk_succ {l : List Int} {k : Nat} (h : k < l.length) : (zk l k).set k 0 = zk l (k + 1) := by
  unfold zk
  apply List.ext_getElem?
  intro j
  by_cases q : j = k
  · subst q
    rw [List.getElem?_set_self (by simp; omega), List.getElem?_append_left (by simp), List.getElem?_replicate]
    simp
  · rw [List.getElem?_set_ne (fun e => q e.symm)]
    by_cases q2 : j < k
    · rw [List.getElem?_append_left (by simpa using q2), List.getElem?_append_left (by simp; omega), List.getElem?_replicate, List.getElem?_replicate, if_pos q2, if_pos (by omega)]
    · rw [List.getElem?_append_right (by simp; omega), List.getElem?_append_right (by simp; omega), List.getElem?_drop, List.getElem?_drop]
      congr 1
      simp
      omega
/-- One word more is zero. -/
theorem clr_next {k : Nat} (h : Md w B wb (updM M i { M i with wds := zk (M i).wds k })) (hi : i < 320) (hk : k < (M i).wds.length) : Md (w.setCell ⟨wb i, k, none⟩ (.int .u64 0)) B wb (updM M i { M i with wds := zk (M i).wds (k + 1) }) := by
  have ei : updM M i { M i with wds := zk (M i).wds k } i = { M i with wds := zk (M i).wds k } := by unfold updM; rw [if_pos rfl]
  have h2 := h.setW hi (f := k) (by rw [ei]; show k < (zk _ k).length; rw [zk_len (by omega)]; exact hk) 0
  rw [ei] at h2
  have e3 : updM (updM M i { M i with wds := zk (M i).wds k }) i { M i with wds := (zk (M i).wds k).set k 0 } = updM M i { M i with wds := zk (M i).wds (k + 1) } := by
    rw [zk_succ hk]
    funext x
    unfold updM
    by_cases q : x = i
    · rw [if_pos q, if_pos q]
    · rw [if_neg q, if_neg q, if_neg q]
  rw [← e3]
  exact h2
theorem clr_start (M : Nat → En) (i : Nat) : updM M i { M i with wds := zk (M i).wds 0 } = M := by
  rw [zk_zero]
  exact updM_self M i
/-- A word's cell. -/
theorem clr_cell {k : Nat} (h : Md w B wb (updM M i { M i with wds := zk (M i).wds k })) (hi : i < 320) (hk : k < (M i).wds.length) : (∃ x, w.cell? ⟨wb i, k, none⟩ = some (.int .u64 x)) ∧ w.frozen? ⟨wb i, k, none⟩ = false := by
  have ei : updM M i { M i with wds := zk (M i).wds k } i = { M i with wds := zk (M i).wds k } := by unfold updM; rw [if_pos rfl]
  obtain ⟨v, _, hd⟩ := h.wrd i hi
  rw [ei] at hd
  have hl : (zk (M i).wds k).length = (M i).wds.length := zk_len (by omega)
  have hn : zk (M i).wds k ≠ [] := fun q => by rw [q] at hl; simp at hl; omega
  obtain ⟨r, f⟩ := WdV.rng (l := zk (M i).wds k) hd hn
  obtain ⟨x, hx⟩ : ∃ x, (zk (M i).wds k)[k]? = some x := ⟨_, List.getElem?_eq_getElem (by omega)⟩
  have := r k (.int .u64 x) (by rw [List.getElem?_map, hx]; rfl)
  rw [Nat.zero_add] at this
  exact ⟨⟨x, this⟩, f k⟩
end
end Go.Proofs.Qxb6500847aGreatDoor.Os
