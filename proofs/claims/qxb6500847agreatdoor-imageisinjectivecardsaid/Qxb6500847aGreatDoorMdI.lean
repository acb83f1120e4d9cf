/-
  The abstract model: an entry is written; drop.
-/
import Derived.Test.Qxb6500847aGreatDoorMdH
namespace Go.Proofs.Qxb6500847aGreatDoor.Os
open Go.RowKit FloorA
set_option maxRecDepth 100000
/-- An entry with its words' slice. -/
def ent6 (e : En) (v : Value) : List Value := [.int .u32 e.gen, .int .u8 e.typ, .int .u64 e.bas, .int .u64 e.siz, .int .i64 (pz e.par), v]
section
variable {w : World} {B : Nat} {wb wb' : Nat → Nat} {M : Nat → En} {i : Nat}
theorem Md.there (h : Md w B wb M) (hi : i < 320) : w.there B (i * 6) 6 := fun j hj => by
  match j, hj with
  | 0, _ => exact ⟨by rw [Nat.add_zero, h.gen hi]; rfl, h.fz _⟩
  | 1, _ => exact ⟨by rw [h.typ hi]; rfl, h.fz _⟩
  | 2, _ => exact ⟨by rw [h.bas hi]; rfl, h.fz _⟩
  | 3, _ => exact ⟨by rw [h.siz hi]; rfl, h.fz _⟩
  | 4, _ => exact ⟨by rw [h.par hi]; rfl, h.fz _⟩
  | 5, _ => obtain ⟨v, e, _⟩ := h.wrd i hi; exact ⟨by rw [e]; rfl, h.fz _⟩
theorem WdV.set {g : Nat} {l : List Int} {v : Value} (h : WdV w g l v) (o : Nat) (vs : List Value) (hne : l ≠ [] → g ≠ B) : WdV (w.setCells B o vs) g l v := by
  rcases h with h | ⟨hl, c, e1, e2, e3, e4, e5⟩
  · exact Or.inl h
  · exact Or.inr ⟨hl, c, e1, e2, e3, World.rangeAt_setCells_apart e4 B o vs (Or.inl (hne hl)), fun o => by rw [World.frozen?_setCells]; exact e5 o⟩
/-- Entry i is written anew. -/
theorem Md.put (h : Md w B wb M) (hi : i < 320) (e : En) (v : Value) (hwb : ∀ j, j ≠ i → wb' j = wb j) (hv : WdV w (wb' i) e.wds v) (hne : e.wds ≠ [] → wb' i ≠ B) (hfr : e.wds ≠ [] → ∀ j, j < 320 → j ≠ i → (M j).wds ≠ [] → wb j ≠ wb' i) : Md (w.setCells B (i * 6) (ent6 e v)) B wb' (updM M i e) := by
  have hth := h.there hi
  have same := World.rangeAt_setCells_same w B (i * 6) (ent6 e v) hth
  have eq_i : updM M i e i = e := by unfold updM; rw [if_pos rfl]
  have eq_o : ∀ j, j ≠ i → updM M i e j = M j := fun j hj => by unfold updM; rw [if_neg hj]
  refine ⟨fun j hj => ?_, fun j hj => ?_, fun o => by rw [World.frozen?_setCells]; exact h.fz o, fun j hj hw => ?_, fun a b ha hb wa wb2 hab => ?_⟩
  · by_cases q : j = i
    · subst q
      rw [eq_i]
      intro k x hx
      refine same k x ?_
      match k, hx with
      | 0, hx => exact hx
      | 1, hx => exact hx
      | 2, hx => exact hx
      | 3, hx => exact hx
      | 4, hx => exact hx
      | k + 5, hx => simp [entL] at hx
    · rw [eq_o j q]
      refine World.rangeAt_setCells_apart (h.cel j hj) B (i * 6) _ (Or.inr ?_)
      show j * 6 + 5 ≤ i * 6 ∨ i * 6 + 6 ≤ j * 6
      omega
  · by_cases q : j = i
    · subst q
      rw [eq_i]
      exact ⟨v, same 5 v rfl, hv.set _ _ hne⟩
    · rw [eq_o j q, hwb j q]
      obtain ⟨u, e1, e2⟩ := h.wrd j hj
      refine ⟨u, ?_, e2.set _ _ (h.ne j hj)⟩
      rw [World.cell?_setCells_out B _ _ _ _ (fun _ _ => by show j * 6 + 5 < i * 6 ∨ i * 6 + 6 ≤ j * 6 + 5; omega)]
      exact e1
  · by_cases q : j = i
    · subst q
      rw [eq_i] at hw
      exact hne hw
    · rw [eq_o j q] at hw
      rw [hwb j q]
      exact h.ne j hj hw
  · by_cases qa : a = i
    · by_cases qb : b = i
      · omega
      · subst qa
        rw [eq_i] at wa
        rw [eq_o b qb] at wb2
        rw [hwb b qb] at hab
        exact absurd hab.symm (hfr wa b hb qb wb2)
    · by_cases qb : b = i
      · subst qb
        rw [eq_i] at wb2
        rw [eq_o a qa] at wa
        rw [hwb a qa] at hab
        exact absurd hab (hfr wb2 a ha qa wa)
      · rw [eq_o a qa] at wa
        rw [eq_o b qb] at wb2
        rw [hwb a qa, hwb b qb] at hab
        exact h.inj a b ha hb wa wb2 hab
theorem Ext.cells {D : Nat} {X : Nat → Prop} {a : World} (h : Ext D X a w) (hX : X B) : ∀ (vs : List Value) (o : Nat), Ext D X a (w.setCells B o vs) := fun vs => by
  induction vs generalizing w with
  | nil => exact fun _ => h
  | cons v r ih => exact fun o => ih (h.setCell (p := ⟨B, o, none⟩) (Or.inr hX) v) (o + 1)
set_option maxHeartbeats 2000000 in
theorem drop_m (h : Md w B wb M) (hM : Mk M) (hi : i < 320) (hg : (M i).gen < 4294967295) :
    Calls Tryz.prog 213 #[.pointer (some ⟨B, 0, none⟩), .int .i64 (i : Int)] w fun e w' => e = .returned (.tuple #[]) ∧ Md w' B wb (updM M i (enF ((M i).gen + 1))) ∧ Ext w.heap.size (fun b => b = B) w w' := by
  have i3 : (i : Int) < 320 := by omega
  obtain ⟨g, eg, g1, g2⟩ := hM.gen i hi
  have z0 := h.gen hi
  have z1 := h.typ hi
  have z2 := h.bas hi
  have z3 := h.siz hi
  have z4 := h.par hi
  obtain ⟨v5, z5, _⟩ := h.wrd i hi
  have f0 := h.fz (i * 6)
  have f1 := h.fz (i * 6 + 1)
  have f2 := h.fz (i * 6 + 2)
  have f3 := h.fz (i * 6 + 3)
  have f4 := h.fz (i * 6 + 4)
  have f5 := h.fz (i * 6 + 5)
  have hw : IntKind.u32.wrap ((M i).gen + 1) = (M i).gen + 1 := by unfold IntKind.wrap; simp [IntKind.bits, IntKind.signed]; omega
  have HP := hideIt (h.put (wb' := wb) hi (enF ((M i).gen + 1)) (.slice none 0 0) (fun _ _ => rfl) (Or.inl ⟨rfl, _, _, rfl⟩) (fun q => absurd rfl q) (fun q => absurd rfl q))
  have HE := hideIt (Ext.cells (Ext.refl w.heap.size (fun b => b = B) w) rfl (ent6 (enF ((M i).gen + 1)) (.slice none 0 0)) (i * 6))
  clear h hM eg
  generalize (M i).gen = gn at *
  go_enter Tryz.func213, Tryz.ntmps213
  go_wp2_with fail
  go_region
  all_goals
    have HP2 : Hid (Md ((w.setCells B (i * 6) (ent6 (enF (gn + 1)) (.slice none 0 0))).drew) B wb (updM M i (enF (gn + 1)))) := HP.out.below (below_d _)
    have HE2 : Hid (Ext w.heap.size (fun b => b = B) w ((w.setCells B (i * 6) (ent6 (enF (gn + 1)) (.slice none 0 0))).drew)) := HE.out.andThen (below_d _) HE.out.size
    have hws : ((((((w.setCell ⟨B, i * 6, none⟩ (.int .u32 (gn + 1))).setCell ⟨B, i * 6 + 1, none⟩ (.int .u8 0)).setCell ⟨B, i * 6 + 2, none⟩ (.int .u64 0)).setCell ⟨B, i * 6 + 3, none⟩ (.int .u64 0)).setCell ⟨B, i * 6 + 4, none⟩ (.int .i64 (-1))).setCell ⟨B, i * 6 + 5, none⟩ (.slice none 0 0)).drew = (w.setCells B (i * 6) (ent6 (enF (gn + 1)) (.slice none 0 0))).drew := rfl
    rw [hws]
    clear hws
    generalize (w.setCells B (i * 6) (ent6 (enF (gn + 1)) (.slice none 0 0))).drew = w2 at *
    go_wp2_with fail
    go_end0
    exact ⟨rfl, HP2.out, HE2.out⟩
end
end Go.Proofs.Qxb6500847aGreatDoor.Os
