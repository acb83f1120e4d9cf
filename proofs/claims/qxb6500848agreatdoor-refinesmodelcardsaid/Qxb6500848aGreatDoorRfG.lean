/-
  Two machines in one world: each stays well while the other turns its own blocks.
-/
import Derived.Test.Qxb6500848aGreatDoorRfF
import Derived.Test.Qxb6500848aGreatDoorMoC
namespace Go.Proofs.Qxb6500848aGreatDoor
open Go.RowKit Pl Go.Maps
set_option maxRecDepth 100000

section
variable {T Z Z' : Nat → Prop} {w w' : World} {kb eb mb ab nb hb ab2 nb2 : Nat} {lim : Int} {A B : List Nd} {regs regs2 : List Int} {ad af an : Addr}

theorem St.keepM (h : St Z w ab nb lim A) (e : Ext w.heap.size T w w') (hT : ∀ b, b < w.heap.size → T b → (Z b ∨ IsMap w b) ∧ b ≠ ab ∧ b ≠ nb) (sub : ∀ b, b < w.heap.size → (Z' b ↔ Z b)) (hl : ∀ b, Z' b → b < w'.heap.size) : St Z' w' ab nb lim A := by
  have la := h.xlt _ h.ar.xa
  have ln := h.xlt _ h.ar.xn
  have far : ∀ {p : Addr} {v : Value}, w.cell? p = some v → ¬ Z p.block → w'.cell? p = some v := fun {p v} hc hx => by
    have l := cell_lt hc
    refine (e.cell l (fun y => ?_)).trans hc
    rcases (hT _ l y).1 with q | q
    · exact hx q
    · exact q.ne hc rfl
  obtain ⟨cap0, S0, z1, z2, ⟨z3, z4⟩, z5⟩ := h.ar.ex
  obtain ⟨e1, t, v, e2⟩ := h.ar.er
  have hsq : ∀ {α : Type} {enc : α → Value} {v : Value} {l : List α}, Seq enc Z w v l → Seq enc Z' w' v l := fun {α enc v l} s => by
    obtain ⟨ad, cap, rfl, p1, p2, p3⟩ := s
    refine ⟨ad, cap, rfl, p1, p2, fun hl => ?_⟩
    obtain ⟨g, o, rfl, hx, hc⟩ := p3 hl
    have lg : g < w.heap.size := cell_lt (hc 0 (List.length_pos_iff.2 hl))
    exact ⟨g, o, rfl, fun x => hx ((sub g lg).1 x), fun j hj => far (hc j hj) hx⟩
  have l1 := cell_lt e2
  refine ⟨⟨h.ar.wf, h.ar.len, (sub ab la).2 h.ar.xa, (sub nb ln).2 h.ar.xn, h.ar.ne, ⟨fun x => e1 ((sub _ l1).1 x), t, v, far e2 e1⟩, cap0, S0, (e.block ab la (fun y => (hT ab la y).2.1 rfl)).trans z1, z2, ⟨z3, ?_⟩, fun i hi hi' => ⟨hsq (z5 i hi hi').1, hsq (z5 i hi hi').2⟩⟩, hl⟩
  rcases z4 with z4 | ⟨g, cap', cur, q, hb', hh, r⟩
  · exact Or.inl z4
  · refine Or.inr ⟨g, cap', cur, q, hb', ?_, r⟩
    have eg : g = nb := by simp only [Value.slice.injEq, Option.some.injEq, Addr.mk.injEq] at q; exact q.1.1.symm
    subst eg
    exact (e.block g ln (fun y => (hT g ln y).2.2 rfl)).trans hh
theorem Seq.keepM {α : Type} {enc : α → Value} {v : Value} {l : List α} (s : Seq enc Z w v l) (e : Ext w.heap.size T w w') (hT : ∀ b, b < w.heap.size → T b → Z b ∨ IsMap w b) (sub : ∀ b, b < w.heap.size → (Z' b ↔ Z b)) : Seq enc Z' w' v l := by
  obtain ⟨ad, cap, rfl, p1, p2, p3⟩ := s
  refine ⟨ad, cap, rfl, p1, p2, fun hl => ?_⟩
  obtain ⟨g, o, rfl, hx, hc⟩ := p3 hl
  have lg : g < w.heap.size := cell_lt (hc 0 (List.length_pos_iff.2 hl))
  refine ⟨g, o, rfl, fun x => hx ((sub g lg).1 x), fun j hj => (e.cell (p := ⟨g, o + j, none⟩) lg (fun y => ?_)).trans (hc j hj)⟩
  rcases hT g lg y with q | q
  · exact hx q
  · exact q.ne (hc j hj) rfl
/-- The model's machine, while the real one works. -/
theorem Mo.keepM (h : Mo Z w hb ab nb B regs) (e : Ext w.heap.size T w w') (hT : ∀ b, b < w.heap.size → T b → (Z b ∨ IsMap w b) ∧ ¬ Tm w hb ab nb b) (sub : ∀ b, b < w.heap.size → (Z' b ↔ Z b)) (hl : ∀ b, Z' b → b < w'.heap.size) : Mo Z' w' hb ab nb B regs := by
  have lh := h.lh
  obtain ⟨rv, h1, h2⟩ := h.reg
  refine ⟨h.st.keepM e (fun b l y => ⟨(hT b l y).1, fun q => (hT b l y).2 (Or.inl q), fun q => (hT b l y).2 (Or.inr (Or.inl q))⟩) sub hl, (sub hb lh).2 h.xh, h.ha, h.hn, ⟨rv, (e.block hb lh (fun y => (hT hb lh y).2 (Or.inr (Or.inr (Or.inl rfl))))).trans h1, h2.keep e (fun rb off n cap e3 y => ?_) (fun b hb x => (sub b hb).2 x) (fun b _ q => q)⟩, h.val⟩
  have lr : rb < w.heap.size := by
    rcases h2 with ⟨q, _⟩ | ⟨rb', off', cap', cells, q, xr, _, hh, _⟩
    · rw [q] at e3; cases e3
    · rw [q] at e3
      simp only [Value.slice.injEq, Option.some.injEq, Addr.mk.injEq] at e3
      have := heap_lt hh
      omega
  exact (hT rb lr y).2 (Or.inr (Or.inr (Or.inr ⟨off, n, cap, by rw [box_cell h1 1, e3]; rfl⟩)))
/-- The real machine, while the model's works. -/
theorem MD.keepM (h : MD kb eb mb ab lim regs ad Z w nb A) (e : Ext w.heap.size T w w') (hT : ∀ b, b < w.heap.size → T b → Z b ∧ ¬ Tb w kb mb ab nb b) (sub : ∀ b, b < w.heap.size → (Z' b ↔ Z b)) (hl : ∀ b, Z' b → b < w'.heap.size) : MD kb eb mb ab lim regs ad Z' w' nb A := by
  have eX : Ext w.heap.size Z w w' := e.mono (Nat.le_refl _) (fun i hi q => (hT i hi q).1)
  have lk := h.mc.lk
  have lm := h.mc.en.lm
  have hA := h.mc.en.st.ar.wf
  obtain ⟨rv, h1, h2⟩ := h.mc.reg
  obtain ⟨a, b, c, he⟩ := h.mc.en.eng
  obtain ⟨get, ks, hM, hk⟩ := h.mc.en.memo
  have lt := h.lt
  have lg := cell_lt h.gn
  have hE : En Z' w' eb mb ab nb lim A := ⟨h.mc.en.st.keepM e (fun b l y => ⟨Or.inl (hT b l y).1, fun q => (hT b l y).2 (Or.inl q), fun q => (hT b l y).2 (Or.inr (Or.inl q))⟩) sub hl, ⟨a, b, c, (eX.block eb (heap_lt he) h.mc.en.xe).trans he⟩, fun x => h.mc.en.xe ((sub eb (heap_lt he)).1 x), (sub mb lm).2 h.mc.en.xm, h.mc.en.ma, h.mc.en.mn, get, ks, hM.ext e lm (fun y => (hT mb lm y).2 (Or.inr (Or.inr (Or.inr (Or.inl rfl))))), hk⟩
  refine ⟨⟨hE, (sub kb lk).2 h.mc.xk, h.mc.ka, h.mc.kn, h.mc.km, ⟨rv, (e.block kb lk (fun y => (hT kb lk y).2 (Or.inr (Or.inr (Or.inl rfl))))).trans h1, h2.keep e (fun rb off n cap e3 y => ?_) (fun b hb x => (sub b hb).2 x) (fun b _ q => q)⟩, h.mc.val⟩, h.ax.keep h.mc.en.xe eX sub (Le.refl _) hA hA, fun j hj => (eX.cell (p := ⟨3, j, none⟩) lt h.xt).trans (h.gd j hj), fun x => h.xt ((sub _ lt).1 x), (eX.cell (p := ⟨1, 0, none⟩) lg h.xn).trans h.gn, fun x => h.xn ((sub _ lg).1 x)⟩
  have lr : rb < w.heap.size := by
    rcases h2 with ⟨q, _⟩ | ⟨rb', off', cap', cells, q, xr, _, hh, _⟩
    · rw [q] at e3; cases e3
    · rw [q] at e3
      simp only [Value.slice.injEq, Option.some.injEq, Addr.mk.injEq] at e3
      have := heap_lt hh
      omega
  exact (hT rb lr y).2 (Or.inr (Or.inr (Or.inr (Or.inr ⟨off, n, cap, by rw [box_cell h1 2, e3]; rfl⟩))))
end
end Go.Proofs.Qxb6500848aGreatDoor
