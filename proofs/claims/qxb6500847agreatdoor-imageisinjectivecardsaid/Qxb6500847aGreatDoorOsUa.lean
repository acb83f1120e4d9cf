/-
  Reclaim, plainly.
-/
import Derived.Test.Qxb6500847aGreatDoorOsT
namespace Go.Proofs.Qxb6500847aGreatDoor.Os
open Go.RowKit FloorA
set_option maxRecDepth 100000
section
variable {s s' s'' : Av} {L : Nat → List Nat} {tl : Nat → List Int} {n c p g t B k : Nat} {r : Nat → Nat}
/-- The generations move on: what has been seen is not handed out again. -/
def Adv (s s' : Av) : Prop := ∀ x, x < 320 → (s.hd x).gen < (s'.hd x).gen ∨ ((s'.hd x).gen = (s.hd x).gen ∧ ((s.hd x).typ ≠ 0 → (s'.hd x).typ ≠ 0))
theorem Adv.refl (s : Av) : Adv s s := fun _ _ => Or.inr ⟨rfl, id⟩
theorem Adv.trans (h : Adv s s') (k : Adv s' s'') : Adv s s'' := fun x hx => by
  rcases h x hx with a | ⟨a, b⟩
  · rcases k x hx with c | ⟨c, _⟩
    · exact Or.inl (by omega)
    · exact Or.inl (by omega)
  · rcases k x hx with c | ⟨c, d⟩
    · exact Or.inl (by omega)
    · exact Or.inr ⟨c.trans a, fun q => d (b q)⟩
theorem Rel.adv (h : Rel s s' c) : Adv s s' := fun x _ => by
  by_cases e : x = c
  · subst e
    have := h.gen
    exact Or.inl (by omega)
  · obtain ⟨a, b, _⟩ := h.oth x e
    exact Or.inr ⟨a, fun q => by rw [b]; exact q⟩
theorem Rk.rel (h : Rk s r) (hr : Rel s s' c) : Rk s' r := fun x p hx ht hp hp' => by
  have e : x ≠ c := fun e => ht (by rw [e]; exact hr.typ)
  obtain ⟨_, b, _, d, _⟩ := hr.oth x e
  rw [b] at ht
  rw [d] at hp
  exact h x p hx ht hp hp'
theorem IsReg.rel (h : IsReg s p) (hr : Rel s s' c) (e : p ≠ c) : IsReg s' p := ⟨h.1, h.2.1, by rw [(hr.oth p e).2.1]; exact h.2.2⟩
theorem IsReg.unrel (h : IsReg s' p) (hr : Rel s s' c) : IsReg s p ∧ p ≠ c := by
  have e : p ≠ c := fun e => by
    have := h.2.2
    rw [e, hr.typ] at this
    omega
  exact ⟨⟨h.1, h.2.1, by rw [← (hr.oth p e).2.1]; exact h.2.2⟩, e⟩
def nLv (s : Av) : Nat := (List.range 320).countP (fun x => decide ((s.hd x).typ ≠ 0))
theorem countP_lt' {α : Type} {f h : α → Bool} : ∀ {l : List α}, (∀ x ∈ l, f x = true → h x = true) → (∃ x ∈ l, h x = true ∧ f x = false) → l.countP f < l.countP h
  | [], _, ⟨x, hx, _⟩ => absurd hx (by simp)
  | a :: l, h1, ⟨x, hx, e1, e2⟩ => by
    have hm : l.countP f ≤ l.countP h := List.countP_mono_left (fun y hy => h1 y (List.mem_cons_of_mem _ hy))
    rw [List.countP_cons, List.countP_cons]
    rcases List.mem_cons.1 hx with rfl | hx
    · simp only [e1, e2, if_true]
      simp
      omega
    · have := countP_lt' (fun y hy => h1 y (List.mem_cons_of_mem _ hy)) ⟨x, hx, e1, e2⟩
      have h3 := h1 a (List.mem_cons_self ..)
      by_cases q : f a = true
      · rw [if_pos q, if_pos (h3 q)]
        omega
      · rw [if_neg q]
        split <;> omega
theorem nLv_rel (hr : Rel s s' c) (hc : c < 320) (ht : (s.hd c).typ ≠ 0) : nLv s' < nLv s := by
  refine countP_lt' (fun x _ q => ?_) ⟨c, by simpa using hc, by simpa using ht, by simp [hr.typ]⟩
  simp only [decide_eq_true_eq] at q ⊢
  have e : x ≠ c := fun e => q (by rw [e]; exact hr.typ)
  rw [(hr.oth x e).2.1] at q
  exact q
theorem bound_of (r : Nat → Nat) : ∀ m, ∃ B, ∀ x, x < m → r x ≤ B
  | 0 => ⟨0, fun x hx => absurd hx (Nat.not_lt_zero _)⟩
  | m + 1 => by
    obtain ⟨B, hB⟩ := bound_of r m
    refine ⟨B + r m, fun x hx => ?_⟩
    by_cases e : x = m
    · subst e; omega
    · have := hB x (by omega)
      omega
/-- The way up from a region to the region at its top. -/
def Pth (s : Av) (L : Nat → List Nat) (g : Nat) : Nat → List Nat → Prop
  | c, [] => c = g
  | c, p :: r => c ≠ g ∧ IsReg s p ∧ (s.hd c).par = (p : Int) ∧ (∃ l, L p = l ++ [c]) ∧ Pth s L g p r
theorem Pth.rk (hk : Rk s r) : ∀ {q : List Nat} {c : Nat}, IsReg s c → Pth s L g c q → ∀ x ∈ q, r x < r c
  | [], _, _, _, x, hx => absurd hx (by simp)
  | p :: q, c, hc, h, x, hx => by
    obtain ⟨_, h1, h2, _, h4⟩ := h
    have e := hk c p hc.2.1 (by rw [hc.2.2]; decide) h2 h1.2.1
    rcases List.mem_cons.1 hx with rfl | hx
    · exact e
    · have := Pth.rk hk h1 h4 x hx
      omega
theorem Pth.rel (hr : Rel s s' t) (hT : ∀ p, IsReg s p → t ∈ L p → p = n) : ∀ {q : List Nat} {c : Nat}, c ≠ t → (∀ x ∈ q, x ≠ t ∧ x ≠ n) → Pth s L g c q → Pth s' (fun x => (L x).erase t) g c q
  | [], _, _, _, h => h
  | p :: q, c, hc, hq, h => by
    obtain ⟨h0, h1, h2, ⟨l, h3⟩, h4⟩ := h
    obtain ⟨e1, e2⟩ := hq p (List.mem_cons_self ..)
    refine ⟨h0, h1.rel hr e1, by rw [(hr.oth c hc).2.2.2.1]; exact h2, ⟨l, ?_⟩, Pth.rel hr hT e1 (fun x hx => hq x (List.mem_cons_of_mem _ hx)) h4⟩
    show (L p).erase t = _
    rw [List.erase_of_not_mem (fun q => e2 (hT p h1 q))]
    exact h3
/-- How many rounds are left at most. -/
def Mr (s : Av) (L : Nat → List Nat) (r : Nat → Nat) (B c k : Nat) : Prop :=
  (L c = [] ∧ nLv s * (B + 2) + 1 ≤ k) ∨ (∃ l t, L c = l ++ [t] ∧ ¬ (IsReg s t ∧ L t ≠ []) ∧ nLv s * (B + 2) ≤ k) ∨ (∃ l t, L c = l ++ [t] ∧ IsReg s t ∧ L t ≠ [] ∧ nLv s * (B + 2) + 1 + (B - r c) ≤ k)
theorem Mr.any (h : nLv s * (B + 2) + 1 + (B - r c) ≤ k) : Mr s L r B c k := by
  rcases snoc_cases (L c) with e | ⟨l, t, e⟩
  · exact Or.inl ⟨e, by omega⟩
  · by_cases q : IsReg s t ∧ L t ≠ []
    · exact Or.inr (Or.inr ⟨l, t, e, q.1, q.2, h⟩)
    · exact Or.inr (Or.inl ⟨l, t, e, q, by omega⟩)
theorem Mr.up (h : Mr s L r B c k) (he : L c = []) (hp : ∃ l, L p = l ++ [c]) : 0 < k ∧ Mr s L r B p (k - 1) := by
  have h1 : nLv s * (B + 2) + 1 ≤ k := by
    rcases h with h | ⟨l, t, h, _⟩ | ⟨l, t, h, _⟩
    · exact h.2
    · rw [he] at h; simp at h
    · rw [he] at h; simp at h
  obtain ⟨l, hl⟩ := hp
  exact ⟨by omega, Or.inr (Or.inl ⟨l, c, hl, fun q => q.2 he, by omega⟩)⟩
theorem Mr.down {l : List Nat} (h : Mr s L r B c k) (hl : L c = l ++ [t]) (h1 : IsReg s t) (h2 : L t ≠ []) (hr : r c < r t) (hB : r t ≤ B) : 0 < k ∧ Mr s L r B t (k - 1) := by
  have h3 : nLv s * (B + 2) + 1 + (B - r c) ≤ k := by
    rcases h with h | ⟨l', t', h, h4, _⟩ | ⟨l', t', h, _, _, h4⟩
    · rw [hl] at h; simp at h
    · rw [hl] at h
      have := (List.append_inj' h rfl).2
      simp only [List.cons.injEq, and_true] at this
      subst this
      exact absurd ⟨h1, h2⟩ h4
    · exact h4
  exact ⟨by omega, Mr.any (by omega)⟩
theorem Mr.rel {l : List Nat} {L' : Nat → List Nat} (h : Mr s L r B c k) (hl : L c = l ++ [t]) (hn : nLv s' < nLv s) : 0 < k ∧ Mr s' L' r B c (k - 1) := by
  have h3 : nLv s * (B + 2) ≤ k := by
    rcases h with h | ⟨l', t', h, h4, h5⟩ | ⟨l', t', h, _, _, h4⟩
    · rw [hl] at h; simp at h
    · exact h5
    · omega
  have h4 : (nLv s' + 1) * (B + 2) ≤ nLv s * (B + 2) := Nat.mul_le_mul_right _ hn
  rw [Nat.succ_mul] at h4
  exact ⟨by omega, Mr.any (by omega)⟩
end
section
variable {A : Nat} {rb sb : Nat → Nat} {s : Av} {tl : Nat → List Int} {ws : Nat → Nat → Nat → Int} {w : World}
theorem Ms.ntz (h : Ms w A rb sb s tl ws) : ¬ Tz A rb sb w.heap.size := by
  rintro (e | ⟨t, ht, e | e⟩)
  · have := h.am.lt
    omega
  · have := h.rlt ht
    omega
  · have := h.slt ht
    omega
theorem Ms.tzlt (h : Ms w A rb sb s tl ws) : ∀ b, Tz A rb sb b → b < w.heap.size := by
  rintro b (e | ⟨t, ht, e | e⟩)
  · rw [e]; exact h.am.lt
  · rw [e]; exact h.rlt ht
  · rw [e]; exact h.slt ht
end
end Go.Proofs.Qxb6500847aGreatDoor.Os
