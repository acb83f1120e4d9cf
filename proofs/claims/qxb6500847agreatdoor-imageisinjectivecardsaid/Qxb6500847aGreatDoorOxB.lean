/-
  Lists that a step answers, as they lie in memory.
-/
import Derived.Test.Qxb6500847aGreatDoorOxA
import Derived.Test.Qxb6500847aGreatDoorFloorG
namespace Go.Proofs.Qxb6500847aGreatDoor.Os
open Go.RowKit FloorA
set_option maxRecDepth 100000
/-- A slice of n elements whose cells lie in a block from B0 on. -/
def Sq (B0 : Nat) (w : World) (v : Value) (n : Nat) (xs : List Value) : Prop := ∃ ad cap, v = .slice ad n cap ∧ (0 < n → ∃ b o, ad = some ⟨b, o, none⟩ ∧ B0 ≤ b ∧ w.rangeAt b o xs)
def IsU (B0 : Nat) (w : World) (v : Value) (l : List Int) : Prop := Sq B0 w v l.length (l.map (.int .u64))
theorem Sq.nil (B0 : Nat) (w : World) : Sq B0 w (.slice none 0 0) 0 [] := ⟨none, 0, rfl, fun h => absurd h (by omega)⟩
theorem IsU.nil (B0 : Nat) (w : World) : IsU B0 w (.slice none 0 0) [] := Sq.nil B0 w
section
variable {B0 B n : Nat} {w w' : World} {v : Value} {xs : List Value} {X : Nat → Prop}
theorem rangeAt_below {b o : Nat} (h : w.rangeAt b o xs) (k : Below w.heap.size w w') : w'.rangeAt b o xs := fun j x hj => (k.cell (p := ⟨b, o + j, none⟩) (cell_lt (h j x hj))).trans (h j x hj)
theorem rangeAt_ext {b o : Nat} (h : w.rangeAt b o xs) (k : Ext w.heap.size X w w') (hx : ¬ X b) : w'.rangeAt b o xs := fun j x hj => (k.cell (p := ⟨b, o + j, none⟩) (cell_lt (h j x hj)) hx).trans (h j x hj)
theorem Sq.below (h : Sq B0 w v n xs) (k : Below w.heap.size w w') : Sq B0 w' v n xs := by
  obtain ⟨ad, cap, e, f⟩ := h
  refine ⟨ad, cap, e, fun q => ?_⟩
  obtain ⟨b, o, e1, e2, e3⟩ := f q
  exact ⟨b, o, e1, e2, rangeAt_below e3 k⟩
theorem Sq.ext (h : Sq B0 w v n xs) (k : Ext w.heap.size X w w') (hx : ∀ b, B0 ≤ b → b < w.heap.size → ¬ X b) (hl : n ≤ xs.length) : Sq B0 w' v n xs := by
  obtain ⟨ad, cap, e, f⟩ := h
  refine ⟨ad, cap, e, fun q => ?_⟩
  obtain ⟨b, o, e1, e2, e3⟩ := f q
  have hb : b < w.heap.size := by
    obtain ⟨x, hx0⟩ : ∃ x, xs[0]? = some x := ⟨_, List.getElem?_eq_getElem (by omega)⟩
    exact cell_lt (e3 0 x hx0)
  exact ⟨b, o, e1, e2, rangeAt_ext e3 k (hx b e2 hb)⟩
theorem Sq.mono (h : Sq B0 w v n xs) (k : B ≤ B0) : Sq B w v n xs := by
  obtain ⟨ad, cap, e, f⟩ := h
  refine ⟨ad, cap, e, fun q => ?_⟩
  obtain ⟨b, o, e1, e2, e3⟩ := f q
  exact ⟨b, o, e1, Nat.le_trans k e2, e3⟩
theorem Sq.of_owns {T sz : Nat} (h : w.ownsRow B0 T sz v n xs) (hv : ∃ ad cap, v = .slice ad n cap) : Sq B0 w v n xs := by
  obtain ⟨ad, cap, e⟩ := hv
  refine ⟨ad, cap, e, fun q => ?_⟩
  rcases h.2 with ⟨_, hn⟩ | ⟨g, c, cur, e1, e2, _⟩
  · omega
  · rw [e] at e1
    injection e1 with a1 a2 a3
    subst a1
    refine ⟨g, 0, rfl, e2, fun j x hj => ?_⟩
    have := World.ownsRow.cells h (g := g) (by rw [e]; rfl) j x hj
    have ad0 : (⟨g, 0, none⟩ : Addr).add j = ⟨g, 0 + j, none⟩ := by unfold Addr.add; by_cases e : j = 0 <;> simp [e]
    rwa [ad0] at this
theorem IsU.of_own {l : List Int} (h : OwnK .u64 34 B0 w v l) : IsU B0 w v l := Sq.of_owns h h.shape
end
/-- A refusal's answer. -/
def bad (c : Int) : Rs := ⟨c, [], []⟩
/-! ### What queries answer -/
/-- Load. -/
def loaX (M : Nat → En) (i : Nat) (g : Int) (f : Nat) : Rs :=
  if chk M i g ≠ 0 then bad (chk M i g) else if (M i).wds.length ≤ f then bad 13 else ⟨0, [], [(M i).wds.getD f 0]⟩
/-- LoadAll. -/
def lalX (M : Nat → En) (i : Nat) (g : Int) : Rs := if chk M i g ≠ 0 then bad (chk M i g) else ⟨0, [], (M i).wds⟩
section
variable {s : Av} {ws : Nat → Nat → Nat → Int} {i t r : Nat} {g : Int}
theorem loaX_dead (h : ¬ Live s i g) (f : Nat) : loaX (ob s ws) i g f = bad (stale i g) := by
  unfold loaX
  rw [if_pos (stale_nz h), chk_stale h]
theorem loaX_fld (h : Live s i g) {f : Nat} (hf : (ob s ws i).wds.length ≤ f) : loaX (ob s ws) i g f = bad 13 := by
  unfold loaX
  rw [chk_live h, if_neg (by simp), if_pos hf]
theorem loaX_ok (h : Live s i g) {f : Nat} (hf : f < nF t) (ht : (s.hd i).typ = ((t + 2 : Nat) : Int)) (hr : (s.hd i).row = (r : Int)) : loaX (ob s ws) i g f = ⟨0, [], [ws t r f]⟩ := by
  unfold loaX
  rw [chk_live h, if_neg (by simp), wds_obj h.1 ht hr, if_neg (by rw [wlist_len]; omega), List.getD_eq_getElem?_getD, wlist_at _ _ hf]
  rfl
theorem lalX_dead (h : ¬ Live s i g) : lalX (ob s ws) i g = bad (stale i g) := by
  unfold lalX
  rw [if_pos (stale_nz h), chk_stale h]
theorem lalX_ok (h : Live s i g) : lalX (ob s ws) i g = ⟨0, [], (ob s ws i).wds⟩ := by
  unfold lalX
  rw [chk_live h, if_neg (by simp)]
end
/-- The words of a step. -/
def xl (X : Nat → Nat) (m : Nat) : List Int := (List.range m).map (fun f => (X f : Int))
theorem xl_len (X : Nat → Nat) (m : Nat) : (xl X m).length = m := by unfold xl; simp
theorem xl_at (X : Nat → Nat) {m f : Nat} (hf : f < m) : (xl X m)[f]? = some (X f : Int) := by
  unfold xl
  rw [List.getElem?_map, List.getElem?_range hf]
  rfl
section
variable {s : Av} {ws : Nat → Nat → Nat → Int} {i t r m : Nat} {g : Int} {X : Nat → Nat}
theorem staX_dead (h : ¬ Live s i g) (l : List Int) : staX (ob s ws) i g l = (stale i g, ob s ws) := by
  unfold staX
  rw [if_pos (stale_nz h), chk_stale h]
theorem staX_len (h : Live s i g) {l : List Int} (hl : l.length ≠ (ob s ws i).wds.length) : staX (ob s ws) i g l = (13, ob s ws) := by
  unfold staX
  rw [chk_live h, if_neg (by simp), if_pos hl]
theorem staX_reg (h : Live s i g) (h1 : (s.hd i).typ = 1) : staX (ob s ws) i g [] = (0, ob s ws) := by
  have hw : (ob s ws i).wds = [] := wds_reg h.1 (by rw [h1]; omega)
  unfold staX
  rw [chk_live h, if_neg (by simp), if_neg (by rw [hw]; simp), if_pos (fun f x q => by simp at q)]
  have := updM_same (ob s ws) i
  rw [hw] at this
  rw [this]
theorem staX_bad (h : Live s i g) (ht : (s.hd i).typ = ((t + 2 : Nat) : Int)) (hr : (s.hd i).row = (r : Int)) (hq : ∃ f, f < nF t ∧ ¬ fOk t f (X f : Int)) : staX (ob s ws) i g (xl X (nF t)) = (14, ob s ws) := by
  unfold staX
  rw [chk_live h, if_neg (by simp), if_neg (by rw [wds_obj h.1 ht hr, wlist_len, xl_len]; simp), tab_obj h.1 ht]
  obtain ⟨f, hf, q⟩ := hq
  rw [if_neg (fun k => q (k f _ (xl_at X hf)))]
theorem staX_ok (h : Live s i g) (ht : (s.hd i).typ = ((t + 2 : Nat) : Int)) (hr : (s.hd i).row = (r : Int)) (hq : ∀ f, f < nF t → fOk t f (X f : Int)) {W : Nat → Int} (hW : ∀ f, f < nF t → W f = (X f : Int)) : staX (ob s ws) i g (xl X (nF t)) = (0, updM (ob s ws) i { ob s ws i with wds := wlist (nF t) W }) := by
  unfold staX
  rw [chk_live h, if_neg (by simp), if_neg (by rw [wds_obj h.1 ht hr, wlist_len, xl_len]; simp), tab_obj h.1 ht, if_pos (fun f x q => by
    have hf : f < nF t := by rw [← xl_len X (nF t)]; exact (List.getElem?_eq_some_iff.1 q).1
    rw [xl_at X hf] at q
    rw [← Option.some.inj q]
    exact hq f hf)]
  rw [show xl X (nF t) = wlist (nF t) W from (wlist_congr (W := W) (W' := fun f => (X f : Int)) hW).symm]
theorem clrX_dead (h : ¬ Live s i g) : clrX (ob s ws) i g = (stale i g, ob s ws) := by
  unfold clrX
  rw [if_pos (stale_nz h), chk_stale h]
theorem clrX_reg (h : Live s i g) (h1 : (s.hd i).typ = 1) : clrX (ob s ws) i g = (0, ob s ws) := by
  have hw : (ob s ws i).wds = [] := wds_reg h.1 (by rw [h1]; omega)
  unfold clrX
  rw [chk_live h, if_neg (by simp), hw]
  have := updM_same (ob s ws) i
  rw [hw] at this
  rw [show List.replicate ([] : List Int).length (0 : Int) = [] from rfl, this]
theorem clrX_ok (h : Live s i g) (ht : (s.hd i).typ = ((t + 2 : Nat) : Int)) (hr : (s.hd i).row = (r : Int)) : clrX (ob s ws) i g = (0, updM (ob s ws) i { ob s ws i with wds := wlist (nF t) (fun _ => 0) }) := by
  unfold clrX
  rw [chk_live h, if_neg (by simp), wds_obj h.1 ht hr, wlist_len]
  have e : List.replicate (nF t) (0 : Int) = wlist (nF t) (fun _ => 0) := by
    unfold wlist
    apply List.ext_getElem?
    intro j
    rw [List.getElem?_map, List.getElem?_replicate]
    by_cases hj : j < nF t
    · rw [if_pos hj, List.getElem?_range hj]; rfl
    · rw [if_neg hj, List.getElem?_eq_none (by simp; omega)]; rfl
  rw [e]
end
end Go.Proofs.Qxb6500847aGreatDoor.Os
