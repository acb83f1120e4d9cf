/-
  The tree under occupy, attach, insertRoot and new generations.
-/
import Derived.Test.Qxb6500847aGreatDoorOsT
namespace Go.Proofs.Qxb6500847aGreatDoor.Os
open Go.RowKit FloorA
set_option maxRecDepth 100000
section
variable {s s' : Av} {D D' : Nat → Prop} {L L' : Nat → List Nat} {tl : Nat → List Int} {n p c k : Nat} {r : Nat → Nat}
/-- All but generations is as it was. -/
structure Sam (s s' : Av) : Prop where
  hd : ∀ x, (s'.hd x).typ = (s.hd x).typ ∧ (s'.hd x).row = (s.hd x).row ∧ (s'.hd x).par = (s.hd x).par ∧ (s'.hd x).prv = (s.hd x).prv ∧ (s'.hd x).nxt = (s.hd x).nxt ∧ (s'.hd x).bas = (s.hd x).bas ∧ (s'.hd x).siz = (s.hd x).siz
  idl : s'.idl = s.idl
  rg : s'.rg = s.rg
  rts : s'.rts = s.rts
  nrt : s'.nrt = s.nrt
theorem Lk.sam (hs : Sam s s') {p : Nat} {nx : Int} : ∀ {l : List Nat} {pv : Int}, Lk s p pv l nx → Lk s' p pv l nx
  | [], _, _ => trivial
  | c :: r, pv, h => by
    obtain ⟨a1, _, a3, a4, a5, _⟩ := hs.hd c
    refine ⟨?_, Lk.sam hs h.2⟩
    rw [a1, a3, a4, a5]
    exact h.1
theorem IsReg.sam (hs : Sam s s') {p : Nat} : IsReg s' p ↔ IsReg s p := by unfold IsReg; rw [(hs.hd p).1]
theorem IV.sam (h : IV s tl L n) (hs : Sam s s') (hg : ∀ i, i < 320 → ∃ g : Nat, (s'.hd i).gen = (g : Int) ∧ 1 ≤ g ∧ g < 4294967296 ∧ ((s.hd i).typ ≠ 0 ∨ Idl s i → g < 4294967295)) : IV s' tl L n := by
  have ei : ∀ i, Idl s' i ↔ Idl s i := fun i => by unfold Idl; rw [hs.idl]
  have el : ∀ x, Lv s' x ↔ Lv s x := fun x => by unfold Lv; rw [(hs.hd x).1]
  have eb : ∀ i, rbas s' i = rbas s i := fun i => rbas_congr (by rw [hs.rts]) (hs.hd _).2.2.2.2.2.1
  refine ⟨⟨fun j hj => by rw [hs.idl]; exact h.ge.wd j hj, fun i hi q => ?_, fun i hi => ?_, fun i hi => ?_, fun i hi => ?_⟩, ⟨fun i j hi j2 j7 hj => ?_, fun i i' j hi hi' j2 j7 hj hj' e => ?_, h.tb.stk, h.tb.nd⟩, ?_, ⟨⟨h.ro.rts.n64, by rw [hs.nrt]; exact h.ro.rts.nrt, fun i hi => by rw [hs.rts]; exact h.ro.rts.lt i hi, fun i j hij hj => by rw [eb i, eb j]; exact h.ro.rts.sorted i j hij hj⟩, fun i d hi hd => ?_, fun d hd hD' hp' => ?_⟩, ?_⟩
  · rw [(hs.hd i).1]; exact h.ge.idl i hi ((ei i).1 q)
  · rw [(hs.hd i).1]; exact h.ge.typ i hi
  · rw [(hs.hd i).1, ei]; exact hg i hi
  · obtain ⟨_, _, _, _, _, b6, b7⟩ := hs.hd i
    rw [b6, b7]; exact h.ge.bas i hi
  · rw [(hs.hd i).1] at hj
    rw [(hs.hd i).2.1]
    exact h.tb.row i j hi j2 j7 hj
  · rw [(hs.hd i).1] at hj
    rw [(hs.hd i').1] at hj'
    rw [(hs.hd i).2.1, (hs.hd i').2.1] at e
    exact h.tb.inj i i' j hi hi' j2 j7 hj hj' e
  · have t := h.tr
    refine ⟨fun q hq => (t.lk q ((IsReg.sam hs).1 hq)).sam hs, fun q hq => by rw [hs.rg]; exact t.fst q ((IsReg.sam hs).1 hq), fun q hq => by rw [hs.rg]; exact t.lst q ((IsReg.sam hs).1 hq), fun q hq => by rw [hs.rg]; exact t.kds q ((IsReg.sam hs).1 hq), fun q hq => t.nd q ((IsReg.sam hs).1 hq), fun q hq x hx => (el x).2 (t.sub q ((IsReg.sam hs).1 hq) x hx), fun x hx hD => ?_⟩
    obtain ⟨a, b⟩ := t.all x hx ((el x).1 hD)
    rw [(hs.hd x).1, (hs.hd x).2.2.1]
    refine ⟨a, b.imp id ?_⟩
    rintro ⟨q, hq, e, hm⟩
    exact ⟨q, (IsReg.sam hs).2 hq, e, hm⟩
  · rw [hs.rts] at hd
    obtain ⟨a1, a2, a3, a4, a5, a6⟩ := h.ro.reg i d hi hd
    obtain ⟨b1, b2, b3, b4, b5, b6, b7⟩ := hs.hd d
    rw [b3, b6, b7]
    exact ⟨(IsReg.sam hs).2 a1, (el d).2 a2, a3, a4, a5, a6⟩
  · rw [(hs.hd d).2.2.1] at hp'
    rw [hs.rts]
    exact h.ro.all d hd ((el d).1 hD') hp'
  · obtain ⟨r, hr⟩ := h.rk
    refine ⟨r, fun x q hx ht hp hq => ?_⟩
    rw [(hs.hd x).1] at ht
    rw [(hs.hd x).2.2.1] at hp
    exact hr x q hx ht hp hq
/-! ### occupy -/
theorem occ_hd (s : Av) (i k : Nat) (b z row : Int) (x : Nat) : (occS s i k b z row).hd x = if x = i then ⟨(s.hd i).gen, k, row, 65535, 65535, 65535, b, z⟩ else s.hd x := by
  unfold occS
  dsimp only
  split <;> rfl
theorem occ_idl (s : Av) (i k : Nat) (b z row : Int) (x : Nat) : Idl (occS s i k b z row) x ↔ Idl s x ∧ x ≠ i := by
  have e : ∀ s1 : Av, s1.idl = s.idl → (Idl (s1.off i) x ↔ Idl s x ∧ x ≠ i) := fun s1 e => by
    rw [Idl.off]; unfold Idl; rw [e]
  unfold occS
  dsimp only
  split <;> exact e (s.setHd i ⟨(s.hd i).gen, k, row, 65535, 65535, 65535, b, z⟩) rfl
theorem occ_wd (h : Wd s) (i k : Nat) (b z row : Int) : Wd (occS s i k b z row) := by
  have e : ∀ s1 : Av, s1.idl = s.idl → Wd (s1.off i) := fun s1 e => Wd.off (fun j hj => by rw [e]; exact h j hj) i
  unfold occS
  dsimp only
  split <;> exact e (s.setHd i ⟨(s.hd i).gen, k, row, 65535, 65535, 65535, b, z⟩) rfl
theorem occ_same (s : Av) (i k : Nat) (b z row : Int) : (occS s i k b z row).rts = s.rts ∧ (occS s i k b z row).nrt = s.nrt := by
  unfold occS
  dsimp only
  split <;> exact ⟨rfl, rfl⟩
theorem occ_rg (s : Av) (i k : Nat) (b z row : Int) (j : Nat) : (occS s i k b z row).rg j = if k = 1 ∧ j = i - 256 then ⟨65535, 65535, 0, b⟩ else s.rg j := by
  unfold occS
  dsimp only
  by_cases h : k = 1
  · rw [if_pos h]
    simp [Av.setRg, h]
    rfl
  · rw [if_neg h]
    simp [h]
    rfl
theorem Ge.occ (h : Ge s) (hc : c < 320) (hi : Idl s c) (k7 : k ≤ 7) (kr : k = 1 ↔ 256 ≤ c) {b z : Int} (hb : 0 ≤ b ∧ b < 18446744073709551616 ∧ 0 ≤ z ∧ z < 18446744073709551616) (row : Int) : Ge (occS s c k b z row) := by
  refine ⟨occ_wd h.wd c k b z row, fun i hi' q => ?_, fun i hi' => ?_, fun i hi' => ?_, fun i hi' => ?_⟩
  · rw [occ_idl] at q
    rw [occ_hd, if_neg q.2]
    exact h.idl i hi' q.1
  · rw [occ_hd]
    by_cases e : i = c
    · rw [if_pos e]; exact ⟨k, rfl, k7, fun _ => by rw [e]; exact kr⟩
    · rw [if_neg e]; exact h.typ i hi'
  · rw [occ_idl, occ_hd]
    by_cases e : i = c
    · subst e
      rw [if_pos rfl]
      obtain ⟨g, a1, a2, a3, a4⟩ := h.gen i hi'
      exact ⟨g, a1, a2, a3, fun _ => a4 (Or.inr hi)⟩
    · rw [if_neg e]
      obtain ⟨g, a1, a2, a3, a4⟩ := h.gen i hi'
      exact ⟨g, a1, a2, a3, fun q => a4 (q.imp id (fun q => q.1))⟩
  · rw [occ_hd]
    by_cases e : i = c
    · rw [if_pos e]; exact hb
    · rw [if_neg e]; exact h.bas i hi'
theorem Tb.occR (h : Tb s tl) (h1 : ∀ x, x ≠ c → s'.hd x = s.hd x) (h2 : (s'.hd c).typ = 1) : Tb s' tl := by
  refine ⟨fun i j hi j2 j7 hj => ?_, fun i i' j hi hi' j2 j7 hj hj' e => ?_, h.stk, h.nd⟩
  · by_cases e : i = c
    · rw [e, h2] at hj; omega
    · rw [h1 i e] at hj ⊢
      exact h.row i j hi j2 j7 hj
  · by_cases e1 : i = c
    · rw [e1, h2] at hj; omega
    · by_cases e2 : i' = c
      · rw [e2, h2] at hj'; omega
      · rw [h1 i e1] at hj e
        rw [h1 i' e2] at hj' e
        exact h.inj i i' j hi hi' j2 j7 hj hj' e
theorem Tb.occO {q : Nat} {l : List Int} (h : Tb s tl) (k2 : 2 ≤ k) (k7 : k ≤ 7) (hl : tl (k - 2) = l ++ [(q : Int)]) (h1 : ∀ x, x ≠ c → s'.hd x = s.hd x) (h2 : (s'.hd c).typ = (k : Int)) (h3 : (s'.hd c).row = (q : Int)) : Tb s' (updT tl (k - 2) l) := by
  have nd := h.nd (k - 2) (by omega)
  rw [hl, List.nodup_append] at nd
  have sub : ∀ t x, x ∈ updT tl (k - 2) l t → x ∈ tl t := fun t x hx => by
    unfold updT at hx
    split at hx
    · next e => rw [e, hl]; exact List.mem_append_left _ hx
    · exact hx
  have hq : (q : Int) ∈ tl (k - 2) := by rw [hl]; simp
  refine ⟨fun i j hi j2 j7 hj => ?_, fun i i' j hi hi' j2 j7 hj hj' e => ?_, fun t ht x hx => h.stk t ht x (sub t x hx), fun t ht => ?_⟩
  · by_cases e : i = c
    · rw [e, h2] at hj
      have : k = j := by omega
      subst this
      obtain ⟨x, ex, hx⟩ := h.stk (k - 2) (by omega) _ hq
      have : x = q := by omega
      subst this
      refine ⟨x, by rw [e, h3], hx, fun q2 => ?_⟩
      rw [updT, if_pos rfl] at q2
      exact nd.2.2 _ q2 _ (by simp) rfl
    · rw [h1 i e] at hj ⊢
      obtain ⟨x, a1, a2, a3⟩ := h.row i j hi j2 j7 hj
      exact ⟨x, a1, a2, fun q2 => a3 (sub _ _ q2)⟩
  · have key : ∀ i, i < 320 → i ≠ c → (s'.hd i).typ = (j : Int) → (s'.hd c).typ = (j : Int) → (s'.hd i).row = (s'.hd c).row → False := fun i hi e q1 q2 q3 => by
      rw [h2] at q2
      have : k = j := by omega
      subst this
      rw [h1 i e] at q1 q3
      obtain ⟨x, a1, _, a3⟩ := h.row i k hi k2 k7 q1
      rw [h3] at q3
      exact a3 (by rw [← a1, q3]; exact hq)
    by_cases e1 : i = c
    · by_cases e2 : i' = c
      · rw [e1, e2]
      · exact (key i' hi' e2 hj' (by rw [← e1]; exact hj) (by rw [← e1]; exact e.symm)).elim
    · by_cases e2 : i' = c
      · exact (key i hi e1 hj (by rw [← e2]; exact hj') (by rw [← e2]; exact e)).elim
      · rw [h1 i e1] at hj e
        rw [h1 i' e2] at hj' e
        exact h.inj i i' j hi hi' j2 j7 hj hj' e
  · unfold updT
    split
    · exact nd.1
    · exact h.nd t ht
/-- What holds while one entry is not linked yet. -/
structure IVd (s : Av) (tl : Nat → List Int) (D : Nat → Prop) (L : Nat → List Nat) (n : Nat) : Prop where
  ge : Ge s
  tb : Tb s tl
  tr : Tr s D L
  ro : Ro s D n
theorem Rk.occ (h : Rk s r) (h1 : ∀ x, x ≠ c → s'.hd x = s.hd x) (h2 : (s'.hd c).par = 65535) : Rk s' r := fun x q hx ht hp hq => by
  by_cases e : x = c
  · rw [e, h2] at hp; omega
  · rw [h1 x e] at ht hp
    exact h x q hx ht hp hq
/-- occupy of a region. -/
theorem IVd.occR (h : IVd s tl D L n) (hc : c < 320) (c1 : 256 ≤ c) (hi : Idl s c) (hD : ¬ D c) {b z : Int} (hb : 0 ≤ b ∧ b < 18446744073709551616 ∧ 0 ≤ z ∧ z < 18446744073709551616) : IVd (occS s c 1 b z 65535) tl D (updL L c []) n := by
  have h0 := h.ge.idl c hc hi
  have h1 : ∀ x, x ≠ c → (occS s c 1 b z 65535).hd x = s.hd x := fun x e => by rw [occ_hd, if_neg e]
  have h2 := occ_hd s c 1 b z 65535 c
  rw [if_pos rfl] at h2
  have nr : ∀ i, i < n → s.rts i ≠ (c : Int) := fun i hi q => hD (h.ro.reg i c hi q).2.1
  obtain ⟨e1, e2⟩ := occ_same s c 1 b z 65535
  refine ⟨h.ge.occ hc hi (by decide) (by simp [c1]) hb 65535, h.tb.occR h1 (by rw [h2]; rfl), h.tr.occR c1 hD h0 h1 (b := b) (fun i => ?_), h.ro.other h1 nr e1 e2 (fun _ _ _ => Iff.rfl) (fun q => absurd q hD)⟩
  rw [occ_rg]
  simp
/-- occupy of an object. -/
theorem IVd.occO {q : Nat} {l : List Int} (h : IVd s tl D L n) (hc : c < 256) (hi : Idl s c) (hD : ¬ D c) (k2 : 2 ≤ k) (k7 : k ≤ 7) (hl : tl (k - 2) = l ++ [(q : Int)]) {b z : Int} (hb : 0 ≤ b ∧ b < 18446744073709551616 ∧ 0 ≤ z ∧ z < 18446744073709551616) (x : Value) : IVd (occS (s.setTi (k - 2) x) c k b z q) (updT tl (k - 2) l) D L n := by
  have h0 := h.ge.idl c (by omega) hi
  have h1 : ∀ y, y ≠ c → (occS (s.setTi (k - 2) x) c k b z q).hd y = s.hd y := fun y e => by rw [occ_hd, if_neg e]; rfl
  have h2 := occ_hd (s.setTi (k - 2) x) c k b z q c
  rw [if_pos rfl] at h2
  have nr : ∀ i, i < n → s.rts i ≠ (c : Int) := fun i hi q => hD (h.ro.reg i c hi q).2.1
  obtain ⟨e1, e2⟩ := occ_same (s.setTi (k - 2) x) c k b z q
  have hg : Ge (s.setTi (k - 2) x) := ⟨h.ge.wd, h.ge.idl, h.ge.typ, h.ge.gen, h.ge.bas⟩
  refine ⟨hg.occ (by omega) hi k7 ⟨fun e => by omega, fun e => by omega⟩ hb q, h.tb.occO k2 k7 hl h1 (by rw [h2]) (by rw [h2]), h.tr.occO hD h0 h1 (by rw [h2]; show (k : Int) ≠ 1; omega) ?_, h.ro.other h1 nr e1 e2 (fun _ _ _ => Iff.rfl) (fun q => absurd q hD)⟩
  funext j
  rw [occ_rg, if_neg (by omega)]
  rfl
/-! ### attach -/
theorem att_hd (s : Av) (p c x : Nat) : ((attS s p c).hd x).gen = (s.hd x).gen ∧ ((attS s p c).hd x).typ = (s.hd x).typ ∧ ((attS s p c).hd x).row = (s.hd x).row ∧ ((attS s p c).hd x).bas = (s.hd x).bas ∧ ((attS s p c).hd x).siz = (s.hd x).siz ∧ (x ≠ c → ((attS s p c).hd x).par = (s.hd x).par) := by
  unfold attS
  dsimp only
  by_cases h : (s.rg (p - 256)).lst = 65535
  · rw [if_pos h]
    by_cases e : x = c
    · subst e; simp [Av.setRg, Av.setHd]
    · simp [Av.setRg, Av.setHd, e]
  · rw [if_neg h]
    by_cases e2 : x = (s.rg (p - 256)).lst.toNat
    · subst e2; simp [Av.setRg, Av.setHd]
    · by_cases e : x = c
      · subst e; simp [Av.setRg, Av.setHd, e2]
      · simp [Av.setRg, Av.setHd, e, e2]
theorem att_par (s : Av) {p c : Nat} (h : (s.rg (p - 256)).lst.toNat ≠ c) : ((attS s p c).hd c).par = (p : Int) := by
  have h' : ¬ c = (s.rg (p - 256)).lst.toNat := fun e => h e.symm
  unfold attS
  dsimp only
  split <;> simp [Av.setRg, Av.setHd, h']
theorem att_same (s : Av) (p c : Nat) : (attS s p c).idl = s.idl ∧ (attS s p c).rts = s.rts ∧ (attS s p c).nrt = s.nrt ∧ (attS s p c).ti = s.ti := by
  unfold attS
  dsimp only
  split <;> exact ⟨rfl, rfl, rfl, rfl⟩
theorem IVd.att (h : IVd s tl D L n) (hp : IsReg s p) (hc : c < 320) (ht : (s.hd c).typ ≠ 0) (hD : ¬ D c) (hl : (s.rg (p - 256)).lst.toNat ≠ c) :
    IVd (attS s p c) tl (fun x => D x ∨ x = c) (updL L p (L p ++ [c])) n := by
  have a := att_hd s p c
  obtain ⟨e1, e2, e3, _⟩ := att_same s p c
  have ep := att_par s hl
  have nr : ∀ i, i < n → s.rts i ≠ (c : Int) := fun i hi q => hD (h.ro.reg i c hi q).2.1
  have ei : ∀ i, Idl (attS s p c) i ↔ Idl s i := fun i => by unfold Idl; rw [e1]
  have eb : ∀ i, rbas (attS s p c) i = rbas s i := fun i => rbas_congr (by rw [e2]) (a _).2.2.2.1
  refine ⟨⟨fun j hj => by rw [e1]; exact h.ge.wd j hj, fun i hi q => ?_, fun i hi => ?_, fun i hi => ?_, fun i hi => ?_⟩, ⟨fun i j hi j2 j7 hj => ?_, fun i i' j hi hi' j2 j7 hj hj' e => ?_, h.tb.stk, h.tb.nd⟩, h.tr.attach hp hc ht hD, ⟨⟨h.ro.rts.n64, by rw [e3]; exact h.ro.rts.nrt, fun i hi => by rw [e2]; exact h.ro.rts.lt i hi, fun i j hij hj => by rw [eb i, eb j]; exact h.ro.rts.sorted i j hij hj⟩, fun i d hi hd => ?_, fun d hd hD' hp' => ?_⟩⟩
  · rw [(a i).2.1]; exact h.ge.idl i hi ((ei i).1 q)
  · rw [(a i).2.1]; exact h.ge.typ i hi
  · rw [(a i).2.1, (a i).1, ei]; exact h.ge.gen i hi
  · rw [(a i).2.2.2.1, (a i).2.2.2.2.1]; exact h.ge.bas i hi
  · rw [(a i).2.1] at hj
    rw [(a i).2.2.1]
    exact h.tb.row i j hi j2 j7 hj
  · rw [(a i).2.1] at hj
    rw [(a i').2.1] at hj'
    rw [(a i).2.2.1, (a i').2.2.1] at e
    exact h.tb.inj i i' j hi hi' j2 j7 hj hj' e
  · rw [e2] at hd
    obtain ⟨a1, a2, a3, a4, a5, a6⟩ := h.ro.reg i d hi hd
    have dc : d ≠ c := fun e => nr i hi (by rw [hd, e])
    rw [(a d).2.2.2.1, (a d).2.2.2.2.1, (a d).2.2.2.2.2 dc]
    exact ⟨⟨a1.1, a1.2.1, by rw [(a d).2.1]; exact a1.2.2⟩, Or.inl a2, a3, a4, a5, a6⟩
  · by_cases dc : d = c
    · rw [dc, ep] at hp'
      have := hp.2.1
      omega
    · rw [(a d).2.2.2.2.2 dc] at hp'
      rw [e2]
      exact h.ro.all d hd (hD'.resolve_right dc) hp'
theorem Rk.att (h : Rk s r) (hT : Tr s D L) (pc : p ≠ c) (hlive : ∀ x, x < 320 → (s.hd x).typ ≠ 0 → x ≠ c → D x) (hk : IsReg s c → L c = []) (hl : (s.rg (p - 256)).lst.toNat ≠ c) : Rk (attS s p c) (fun x => if x = c then r p + 1 else r x) := by
  have a := att_hd s p c
  have ep := att_par s hl
  intro x q hx htx hpx hq
  rw [(a x).2.1] at htx
  by_cases xc : x = c
  · subst xc
    rw [ep] at hpx
    have : p = q := by omega
    subst this
    show (if p = x then r p + 1 else r p) < (if x = x then r p + 1 else r x)
    rw [if_neg pc, if_pos rfl]
    omega
  · rw [(a x).2.2.2.2.2 xc] at hpx
    show (if q = c then r p + 1 else r q) < (if x = c then r p + 1 else r x)
    rw [if_neg xc]
    have qc : q ≠ c := fun e => by
      subst e
      obtain ⟨_, b⟩ := hT.all x hx (hlive x hx htx xc)
      rcases b with b | ⟨y, hy, ey, hm⟩
      · rw [b] at hpx
        omega
      · have : y = q := by omega
        subst this
        rw [hk hy] at hm
        simp at hm
    rw [if_neg qc]
    exact h x q hx htx hpx hq
/-! ### insertRoot -/
theorem Ro.insert {q : Nat} (h : Ro s D n) (n1 : n < 64) (hq : q ≤ n) (hreg : IsReg s c) (hpar : (s.hd c).par = 65535) (hb : 0 ≤ (s.hd c).bas ∧ 0 < (s.hd c).siz ∧ (s.hd c).bas + (s.hd c).siz ≤ 281474976710656) (h1 : ∀ i, i < q → rbas s i < (s.hd c).bas) (h2 : ∀ i, q ≤ i → i < n → (s.hd c).bas < rbas s i) : Ro (insS s q c n) (fun x => D x ∨ x = c) (n + 1) := by
  have er : ∀ i, i < n + 1 → (insS s q c n).rts i = if i = q then (c : Int) else s.rts (if q < i then i - 1 else i) := fun i hi => by
    unfold insS
    dsimp only
    by_cases e : i = q
    · simp [e]
    · rw [if_neg e, if_neg e]
      by_cases e2 : q < i
      · rw [if_pos ⟨e2, by omega⟩, if_pos e2]
      · rw [if_neg (fun q => e2 q.1), if_neg e2]
  have eb : ∀ i, i < n + 1 → rbas (insS s q c n) i = if i = q then (s.hd c).bas else rbas s (if q < i then i - 1 else i) := fun i hi => by
    unfold rbas
    rw [er i hi]
    by_cases e : i = q
    · rw [if_pos e, if_pos e]; rfl
    · rw [if_neg e, if_neg e]; rfl
  refine ⟨⟨by omega, ?_, fun i hi => ?_, fun i j hij hj => ?_⟩, fun i d hi hd => ?_, fun d hd hD' hp' => ?_⟩
  · show (n : Int) + 1 = _
    omega
  · rw [er i hi]
    by_cases e : i = q
    · rw [if_pos e]; exact ⟨c, hreg.2.1, rfl⟩
    · rw [if_neg e]; exact h.rts.lt _ (by split <;> omega)
  · rw [eb i (by omega), eb j hj]
    by_cases e : i = q
    · rw [if_pos e, if_neg (by omega), if_pos (by omega)]
      exact h2 _ (by omega) (by omega)
    · rw [if_neg e]
      by_cases e2 : j = q
      · rw [if_pos e2, if_neg (by omega)]
        exact h1 _ (by omega)
      · rw [if_neg e2]
        exact h.rts.sorted _ _ (by split <;> split <;> omega) (by split <;> omega)
  · rw [er i hi] at hd
    by_cases e : i = q
    · rw [if_pos e] at hd
      have : c = d := by omega
      subst this
      exact ⟨hreg, Or.inr rfl, hpar, hb.1, hb.2.1, hb.2.2⟩
    · rw [if_neg e] at hd
      obtain ⟨a1, a2, a3⟩ := h.reg _ d (by split <;> omega) hd
      exact ⟨a1, Or.inl a2, a3⟩
  · by_cases e : d = c
    · exact ⟨q, by omega, by rw [er q (by omega), if_pos rfl, e]⟩
    · obtain ⟨i, hi, ei⟩ := h.all d hd (hD'.resolve_right e) hp'
      by_cases q2 : i < q
      · exact ⟨i, by omega, by rw [er i (by omega), if_neg (by omega), if_neg (by omega)]; exact ei⟩
      · exact ⟨i + 1, by omega, by rw [er (i + 1) (by omega), if_neg (by omega), if_pos (by omega)]; exact ei⟩
theorem IVd.ins {q : Nat} (h : IVd s tl D L n) (n1 : n < 64) (hq : q ≤ n) (hreg : IsReg s c) (hpar : (s.hd c).par = 65535) (hb : 0 ≤ (s.hd c).bas ∧ 0 < (s.hd c).siz ∧ (s.hd c).bas + (s.hd c).siz ≤ 281474976710656) (h1 : ∀ i, i < q → rbas s i < (s.hd c).bas) (h2 : ∀ i, q ≤ i → i < n → (s.hd c).bas < rbas s i) : IVd (insS s q c n) tl (fun x => D x ∨ x = c) L (n + 1) := by
  refine ⟨⟨h.ge.wd, h.ge.idl, h.ge.typ, h.ge.gen, h.ge.bas⟩, ⟨h.tb.row, h.tb.inj, h.tb.stk, h.tb.nd⟩, ?_, h.ro.insert n1 hq hreg hpar hb h1 h2⟩
  have t := h.tr
  exact ⟨fun p hp => Lk.congr (s := s) (s' := insS s q c n) (fun _ _ => rfl) (t.lk p hp), t.fst, t.lst, t.kds, t.nd, fun p hp x hx => Or.inl (t.sub p hp x hx), fun x hx hd => by
    rcases hd with hd | hd
    · exact t.all x hx hd
    · subst hd
      exact ⟨by show (s.hd x).typ ≠ 0; rw [hreg.2.2]; decide, Or.inl hpar⟩⟩
theorem IVd.toIV (h : IVd s tl D L n) (hr : Rk s r) (hD : ∀ x, x < 320 → (D x ↔ Lv s x)) : IV s tl L n :=
  ⟨h.ge, h.tb, h.tr.congrD hD, ⟨h.ro.rts, fun i d hi hd => by
    obtain ⟨a1, a2, a3⟩ := h.ro.reg i d hi hd
    exact ⟨a1, (hD d a1.2.1).1 a2, a3⟩, fun d hd hl hp => h.ro.all d hd ((hD d hd).2 hl) hp⟩, r, hr⟩
theorem IV.toD (h : IV s tl L n) : IVd s tl (Lv s) L n := ⟨h.ge, h.tb, h.tr, h.ro⟩
/-- Where a region's entry is idle, there is room among the roots. -/
theorem Ro.room (h : Ro s D n) (c1 : 256 ≤ c) (hc : c < 320) (hD : ¬ D c) : n < 64 := by
  have inj : ∀ i j, i < n → j < n → s.rts i = s.rts j → i = j := fun i j hi hj e => by
    rcases Nat.lt_trichotomy i j with q | q | q
    · have := h.rts.sorted i j q hj; unfold rbas at this; rw [e] at this; omega
    · exact q
    · have := h.rts.sorted j i q hi; unfold rbas at this; rw [e] at this; omega
  have nd : (c :: (List.range n).map (fun i => (s.rts i).toNat)).Nodup := by
    rw [List.nodup_cons]
    refine ⟨fun q => ?_, ?_⟩
    · obtain ⟨i, hi, e⟩ := List.mem_map.1 q
      have hi' : i < n := by simpa using hi
      obtain ⟨d, _, ed⟩ := h.rts.lt i hi'
      rw [ed, Int.toNat_natCast] at e
      subst e
      exact hD (h.reg i d hi' ed).2.1
    · rw [List.nodup_iff_pairwise_ne, List.pairwise_map]
      refine (List.nodup_iff_pairwise_ne.1 List.nodup_range).imp_of_mem (fun {a b} ha hb hab e => ?_)
      have ha' : a < n := by simpa using ha
      have hb' : b < n := by simpa using hb
      obtain ⟨d, _, ed⟩ := h.rts.lt a ha'
      obtain ⟨d', _, ed'⟩ := h.rts.lt b hb'
      rw [ed, ed', Int.toNat_natCast, Int.toNat_natCast] at e
      exact hab (inj a b ha' hb' (by rw [ed, ed', e]))
  have := pigeon 64 ((c :: (List.range n).map (fun i => (s.rts i).toNat)).map (fun x => x - 256)) (by
    rw [List.nodup_iff_pairwise_ne, List.pairwise_map]
    have ge : ∀ x ∈ (c :: (List.range n).map (fun i => (s.rts i).toNat)), 256 ≤ x := fun x hx => by
      rcases List.mem_cons.1 hx with e | e
      · rw [e]; exact c1
      · obtain ⟨i, hi, e⟩ := List.mem_map.1 e
        have hi' : i < n := by simpa using hi
        obtain ⟨d, _, ed⟩ := h.rts.lt i hi'
        rw [ed, Int.toNat_natCast] at e
        rw [← e]
        exact (h.reg i d hi' ed).1.1
    refine (List.nodup_iff_pairwise_ne.1 nd).imp_of_mem (fun {a b} ha hb hab e => hab ?_)
    have := ge a ha
    have := ge b hb
    omega) (fun x hx => by
    obtain ⟨y, hy, e⟩ := List.mem_map.1 hx
    rcases List.mem_cons.1 hy with q | q
    · omega
    · obtain ⟨i, hi, e2⟩ := List.mem_map.1 q
      have hi' : i < n := by simpa using hi
      obtain ⟨d, _, ed⟩ := h.rts.lt i hi'
      rw [ed, Int.toNat_natCast] at e2
      have := (h.reg i d hi' ed).1
      have := this.2.1
      omega)
  simp only [List.length_map, List.length_cons, List.length_range] at this
  omega
end
end Go.Proofs.Qxb6500847aGreatDoor.Os
