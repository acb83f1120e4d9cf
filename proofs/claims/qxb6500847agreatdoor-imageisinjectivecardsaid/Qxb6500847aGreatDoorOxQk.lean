/-
  The innermost entry at an address.
-/
import Derived.Test.Qxb6500847aGreatDoorOxQa
namespace Go.Proofs.Qxb6500847aGreatDoor.Os
open Go.RowKit FloorA
set_option maxRecDepth 100000
/-- The innermost entry at a. -/
def Inn (M : Nat → En) (a : Int) (c : Nat) : Prop := c < 320 ∧ (M c).typ ≠ 0 ∧ (M c).bas ≤ a ∧ a < (M c).bas + (M c).siz ∧ ∀ d, d < 320 → (M d).typ ≠ 0 → (M d).bas ≤ a → a < (M d).bas + (M d).siz → d = c ∨ d ∈ ancM M c
noncomputable def locX (M : Nat → En) (a : Int) : Rs := open Classical in
  if 281474976710656 ≤ a then bad 10 else if h : ∃ c, Inn M a c then ⟨0, [rfM M (Classical.choose h)], []⟩ else bad 16
section
variable {s : Av} {tl : Nat → List Int} {ws : Nat → Nat → Nat → Int} {L : Nat → List Nat} {n c d p x y : Nat} {a : Int}
/-- The entry's bytes include a. -/
def Hol (s : Av) (a : Int) (c : Nat) : Prop := c < 320 ∧ (s.hd c).typ ≠ 0 ∧ (s.hd c).bas ≤ a ∧ a < (s.hd c).bas + (s.hd c).siz
theorem up_live (hI : IV s tl L n) : ∀ {l : List Nat} {i : Nat}, i < 320 → (s.hd i).typ ≠ 0 → Up (ob s ws) (s.hd i).par l → ∀ j ∈ l, IsReg s j
  | [], _, _, _, _, j, hj => absurd hj (by simp)
  | p :: r, i, hi, ht, h, j, hj => by
    obtain ⟨h1, h2, h3⟩ := h
    rcases par_some hI hi ht with e | ⟨q, hq, e, hm⟩
    · omega
    · have : q = p := by omega
      subst this
      rcases List.mem_cons.1 hj with e2 | e2
      · subst e2; exact hq
      · rw [ob_at _ _ h2] at h3
        exact up_live hI h2 (by rw [hq.2.2]; decide) h3 j e2
/-- Below an owner stands a child of it. -/
theorem up_kid (hI : IV s tl L n) : ∀ {l : List Nat} {i : Nat}, i < 320 → (s.hd i).typ ≠ 0 → Up (ob s ws) (s.hd i).par l → ∀ p ∈ l, ∃ q, q ∈ L p ∧ IsReg s p ∧ (q = i ∨ q ∈ l)
  | [], _, _, _, _, j, hj => absurd hj (by simp)
  | t :: r, i, hi, ht, h, j, hj => by
    obtain ⟨h1, h2, h3⟩ := h
    rcases par_some hI hi ht with e | ⟨q, hq, e, hm⟩
    · omega
    · have : q = t := by omega
      subst this
      rcases List.mem_cons.1 hj with e2 | e2
      · subst e2; exact ⟨i, hm, hq, Or.inl rfl⟩
      · rw [ob_at _ _ h2] at h3
        obtain ⟨k, k1, k2, k3⟩ := up_kid hI h2 (by rw [hq.2.2]; decide) h3 j e2
        refine ⟨k, k1, k2, Or.inr ?_⟩
        rcases k3 with e3 | e3
        · rw [e3]; exact List.mem_cons_self ..
        · exact List.mem_cons_of_mem _ e3
/-- The root above an entry. -/
theorem up_root (hI : IV s tl L n) : ∀ {l : List Nat} {i : Nat}, i < 320 → (s.hd i).typ ≠ 0 → Up (ob s ws) (s.hd i).par l → ∃ t, t < 320 ∧ (s.hd t).typ ≠ 0 ∧ (s.hd t).par = 65535 ∧ (t = i ∨ t ∈ l)
  | [], i, hi, ht, h => ⟨i, hi, ht, h, Or.inl rfl⟩
  | p :: r, i, hi, ht, h => by
    obtain ⟨h1, h2, h3⟩ := h
    rcases par_some hI hi ht with e | ⟨q, hq, e, hm⟩
    · omega
    · have : q = p := by omega
      subst this
      rw [ob_at _ _ h2] at h3
      obtain ⟨t, t1, t2, t3, t4⟩ := up_root hI h2 (by rw [hq.2.2]; decide) h3
      refine ⟨t, t1, t2, t3, Or.inr ?_⟩
      rcases t4 with e3 | e3
      · rw [e3]; exact List.mem_cons_self ..
      · exact List.mem_cons_of_mem _ e3
theorem up_rank {r : Nat → Nat} (hr : Rk s r) (hI : IV s tl L n) : ∀ {l : List Nat} {i : Nat}, i < 320 → (s.hd i).typ ≠ 0 → Up (ob s ws) (s.hd i).par l → ∀ j ∈ l, r j < r i
  | [], _, _, _, _, j, hj => absurd hj (by simp)
  | p :: q, i, hi, ht, h, j, hj => by
    obtain ⟨h1, h2, h3⟩ := h
    have hlt := hr i p hi ht h1 h2
    rcases List.mem_cons.1 hj with e2 | e2
    · subst e2; exact hlt
    · rcases par_some hI hi ht with e | ⟨t, ht2, e, hm⟩
      · omega
      · have : t = p := by omega
        subst this
        rw [ob_at _ _ h2] at h3
        have := up_rank hr hI h2 (by rw [ht2.2.2]; decide) h3 j e2
        omega
theorem Hol.up (h : Hol s a c) (hX : IX s tl L n) (hI : IV s tl L n) {l : List Nat} (hl : Up (ob s ws) (s.hd c).par l) (hd : d ∈ l) : Hol s a d := by
  obtain ⟨h1, h2, h3, h4⟩ := h
  obtain ⟨k1, k2, k3⟩ := up_in hX hI h1 h2 hl d hd
  have k4 := up_live hI h1 h2 hl d hd
  exact ⟨k1, by rw [k4.2.2]; decide, by omega, by omega⟩
/-- Two roots do not meet. -/
theorem root_one (hX : IX s tl L n) (hI : IV s tl L n) (h : Hol s a c) (h' : Hol s a d) (e : (s.hd c).par = 65535) (e' : (s.hd d).par = 65535) : c = d := by
  obtain ⟨i, hi, ei⟩ := hI.ro.all c h.1 h.2.1 e
  obtain ⟨j, hj, ej⟩ := hI.ro.all d h'.1 h'.2.1 e'
  obtain ⟨_, _, h3, h4⟩ := h
  obtain ⟨_, _, k3, k4⟩ := h'
  rcases Nat.lt_trichotomy i j with q | q | q
  · have := hX.gm.rts i j c d q hj ei ej
    omega
  · subst q
    rw [ei] at ej
    omega
  · have := hX.gm.rts j i d c q hi ej ei
    omega
/-- Two children of one region do not meet. -/
theorem kid_one (hX : IX s tl L n) (hI : IV s tl L n) (hp : IsReg s p) (hx : x ∈ L p) (hy : y ∈ L p) (h : Hol s a x) (h' : Hol s a y) : x = y := by
  have hs := (hX.gm.chn p hp).1.sorted (hX.pos hI hp)
  obtain ⟨_, _, h3, h4⟩ := h
  obtain ⟨_, _, k3, k4⟩ := h'
  obtain ⟨i, hi, ei⟩ := List.mem_iff_getElem.1 hx
  obtain ⟨j, hj, ej⟩ := List.mem_iff_getElem.1 hy
  rw [List.pairwise_iff_getElem] at hs
  rcases Nat.lt_trichotomy i j with q | q | q
  · have := hs i j hi hj q
    rw [ei, ej] at this
    omega
  · subst q; rw [← ei, ← ej]
  · have := hs j i hj hi q
    rw [ei, ej] at this
    omega
/-- Of two entries at one address one owns the other. -/
theorem hol_two (hX : IX s tl L n) (hI : IV s tl L n) : ∀ {l : List Nat} {x : Nat}, Up (ob s ws) (s.hd x).par l → Hol s a x → ∀ {y : Nat} {m : List Nat}, Up (ob s ws) (s.hd y).par m → Hol s a y → x = y ∨ y ∈ l ∨ x ∈ m
  | [], x, h, hx, y, m, hm, hy => by
    obtain ⟨t, t1, t2, t3, t4⟩ := up_root hI hy.1 hy.2.1 hm
    rcases t4 with e | e
    · subst e
      exact Or.inl (root_one hX hI hx hy h t3)
    · have ht := hy.up hX hI hm e
      have := root_one hX hI hx ht h t3
      subst this
      exact Or.inr (Or.inr e)
  | p :: r, x, h, hx, y, m, hm, hy => by
    have hp := hx.up hX hI h (d := p) (List.mem_cons_self ..)
    obtain ⟨h1, h2, h3⟩ := h
    rcases par_some hI hx.1 hx.2.1 with e | ⟨q, hq, e, hmx⟩
    · omega
    · have : q = p := by omega
      subst this
      have h3' := h3
      rw [ob_at _ _ h2] at h3'
      rcases hol_two hX hI h3' hp hm hy with k | k | k
      · subst k; exact Or.inr (Or.inl (List.mem_cons_self ..))
      · exact Or.inr (Or.inl (List.mem_cons_of_mem _ k))
      · obtain ⟨z, z1, z2, z3⟩ := up_kid hI hy.1 hy.2.1 hm q k
        have hz : Hol s a z := by
          rcases z3 with e3 | e3
          · rw [e3]; exact hy
          · exact hy.up hX hI hm e3
        have : x = z := kid_one hX hI hq hmx z1 hx hz
        subst this
        rcases z3 with e3 | e3
        · exact Or.inl e3
        · exact Or.inr (Or.inr e3)
theorem inn_of (hX : IX s tl L n) (hI : IV s tl L n) (hc : Hol s a c) (hk : IsReg s c → ∀ q ∈ L c, ¬ Hol s a q) : Inn (ob s ws) a c := by
  have hu := anc_up (ws := ws) hI hc.1 hc.2.1
  refine ⟨hc.1, by rw [ob_at _ _ hc.1]; exact hc.2.1, by rw [ob_at _ _ hc.1]; exact hc.2.2.1, by rw [ob_at _ _ hc.1]; exact hc.2.2.2, fun d hd ht h1 h2 => ?_⟩
  rw [ob_at _ _ hd] at ht h1 h2
  have hd' : Hol s a d := ⟨hd, ht, h1, h2⟩
  have hm := anc_up (ws := ws) hI hd ht
  rcases hol_two hX hI hu hc hm hd' with k | k | k
  · exact Or.inl k.symm
  · exact Or.inr k
  · exfalso
    obtain ⟨z, z1, z2, z3⟩ := up_kid hI hd ht hm c k
    refine hk z2 z z1 ?_
    rcases z3 with e3 | e3
    · rw [e3]; exact hd'
    · exact hd'.up hX hI hm e3
theorem inn_uniq (hI : IV s tl L n) {c' : Nat} (h : Inn (ob s ws) a c) (h' : Inn (ob s ws) a c') : c = c' := by
  obtain ⟨r, hr⟩ := hI.rk
  have t1 := h.2.1
  have t2 := h'.2.1
  rw [ob_at _ _ h.1] at t1
  rw [ob_at _ _ h'.1] at t2
  rcases h.2.2.2.2 c' h'.1 h'.2.1 h'.2.2.1 h'.2.2.2.1 with e | e
  · exact e.symm
  · rcases h'.2.2.2.2 c h.1 h.2.1 h.2.2.1 h.2.2.2.1 with e' | e'
    · exact e'
    · have a1 := up_rank hr hI h.1 t1 (anc_up (ws := ws) hI h.1 t1) c' e
      have a2 := up_rank hr hI h'.1 t2 (anc_up (ws := ws) hI h'.1 t2) c e'
      omega
theorem locX_rng (M : Nat → En) (h : 281474976710656 ≤ a) : locX M a = bad 10 := by
  unfold locX
  rw [if_pos h]
theorem locX_none (hX : IX s tl L n) (hI : IV s tl L n) (h : ¬ 281474976710656 ≤ a) (hn : ∀ c, (s.hd c).par = 65535 → ¬ Hol s a c) : locX (ob s ws) a = bad 16 := by
  unfold locX
  rw [if_neg h, dif_neg]
  rintro ⟨c, h1, h2, h3, h4, _⟩
  rw [ob_at _ _ h1] at h2 h3 h4
  have hc : Hol s a c := ⟨h1, h2, h3, h4⟩
  have hu := anc_up (ws := ws) hI h1 h2
  obtain ⟨t, t1, t2, t3, t4⟩ := up_root hI h1 h2 hu
  refine hn t t3 ?_
  rcases t4 with e | e
  · rw [e]; exact hc
  · exact hc.up hX hI hu e
theorem locX_ok (hX : IX s tl L n) (hI : IV s tl L n) (h : ¬ 281474976710656 ≤ a) (hc : Hol s a c) (hk : IsReg s c → ∀ q ∈ L c, ¬ Hol s a q) : locX (ob s ws) a = ⟨0, [(c, (s.hd c).gen)], []⟩ := by
  have hi := inn_of (ws := ws) hX hI hc hk
  have hx : ∃ c, Inn (ob s ws) a c := ⟨c, hi⟩
  unfold locX
  rw [if_neg h, dif_pos hx, inn_uniq hI (Classical.choose_spec hx) hi]
  unfold rfM
  rw [ob_at _ _ hc.1]
end
end Go.Proofs.Qxb6500847aGreatDoor.Os
