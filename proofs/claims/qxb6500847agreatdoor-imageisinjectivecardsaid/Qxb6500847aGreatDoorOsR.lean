/-
  What always holds of the store.
-/
import Derived.Test.Qxb6500847aGreatDoorOsQ
namespace Go.Proofs.Qxb6500847aGreatDoor.Os
open Go.RowKit FloorA
set_option maxRecDepth 100000
structure Ge (s : Av) : Prop where
  wd : Wd s
  idl : ∀ i, i < 320 → Idl s i → (s.hd i).typ = 0
  typ : ∀ i, i < 320 → ∃ k : Nat, (s.hd i).typ = (k : Int) ∧ k ≤ 7 ∧ (k ≠ 0 → (k = 1 ↔ 256 ≤ i))
  gen : ∀ i, i < 320 → ∃ g : Nat, (s.hd i).gen = (g : Int) ∧ 1 ≤ g ∧ g < 4294967296 ∧ ((s.hd i).typ ≠ 0 ∨ Idl s i → g < 4294967295)
  bas : ∀ i, i < 320 → 0 ≤ (s.hd i).bas ∧ (s.hd i).bas < 18446744073709551616 ∧ 0 ≤ (s.hd i).siz ∧ (s.hd i).siz < 18446744073709551616
structure Tb (s : Av) (tl : Nat → List Int) : Prop where
  row : ∀ i k, i < 320 → 2 ≤ k → k ≤ 7 → (s.hd i).typ = ((k : Nat) : Int) → ∃ r : Nat, (s.hd i).row = (r : Int) ∧ r < nR (k - 2) ∧ (r : Int) ∉ tl (k - 2)
  inj : ∀ i j k, i < 320 → j < 320 → 2 ≤ k → k ≤ 7 → (s.hd i).typ = ((k : Nat) : Int) → (s.hd j).typ = (k : Int) → (s.hd i).row = (s.hd j).row → i = j
  stk : ∀ t, t < 6 → ∀ x ∈ tl t, ∃ r : Nat, x = (r : Int) ∧ r < nR t
  nd : ∀ t, t < 6 → (tl t).Nodup
structure Ro (s : Av) (D : Nat → Prop) (n : Nat) : Prop where
  rts : Rts s n
  reg : ∀ i c : Nat, i < n → s.rts i = (c : Int) → IsReg s c ∧ D c ∧ (s.hd c).par = 65535 ∧ 0 ≤ (s.hd c).bas ∧ 0 < (s.hd c).siz ∧ (s.hd c).bas + (s.hd c).siz ≤ 281474976710656
  all : ∀ c, c < 320 → D c → (s.hd c).par = 65535 → ∃ i, i < n ∧ s.rts i = (c : Int)
def Rk (s : Av) (r : Nat → Nat) : Prop := ∀ c p : Nat, c < 320 → (s.hd c).typ ≠ 0 → (s.hd c).par = (p : Int) → p < 320 → r p < r c
def Lv (s : Av) (x : Nat) : Prop := (s.hd x).typ ≠ 0
/-- What always holds. -/
structure IV (s : Av) (tl : Nat → List Int) (L : Nat → List Nat) (n : Nat) : Prop where
  ge : Ge s
  tb : Tb s tl
  tr : Tr s (Lv s) L
  ro : Ro s (Lv s) n
  rk : ∃ r, Rk s r

section
variable {s s' : Av} {D D' : Nat → Prop} {L L' : Nat → List Nat} {tl : Nat → List Int} {n p c : Nat}
theorem Tr.congrD (h : Tr s D L) (hD : ∀ x, x < 320 → (D x ↔ D' x)) : Tr s D' L :=
  ⟨h.lk, h.fst, h.lst, h.kds, h.nd, fun p hp c hc => (hD c (h.mem hp hc).1).1 (h.sub p hp c hc), fun c hc hd => h.all c hc ((hD c hc).2 hd)⟩
theorem Tr.congrL (h : Tr s D L) (hL : ∀ p, IsReg s p → L' p = L p) : Tr s D L' :=
  ⟨fun p hp => by rw [hL p hp]; exact h.lk p hp, fun p hp => by rw [hL p hp]; exact h.fst p hp, fun p hp => by rw [hL p hp]; exact h.lst p hp, fun p hp => by rw [hL p hp]; exact h.kds p hp, fun p hp => by rw [hL p hp]; exact h.nd p hp, fun p hp => by rw [hL p hp]; exact h.sub p hp, fun c hc hd => by
    obtain ⟨a, b⟩ := h.all c hc hd
    refine ⟨a, b.imp id ?_⟩
    rintro ⟨q, hq, e, hm⟩
    exact ⟨q, hq, e, by rw [hL q hq]; exact hm⟩⟩
/-- An unlinked entry turns free. -/
theorem Tr.vac (h : Tr s D L) (hc : ¬ D c) (hk : IsReg s c → L c = []) (h1 : ∀ x, x ≠ c → s'.hd x = s.hd x) (h2 : (s'.hd c).typ = 0) (h3 : s'.rg = s.rg) : Tr s' D L := by
  have rg : ∀ q, IsReg s' q → IsReg s q ∧ q ≠ c := fun q hq => by
    have : q ≠ c := fun e => by
      subst e
      have := hq.2.2
      omega
    exact ⟨⟨hq.1, hq.2.1, by rw [← h1 q this]; exact hq.2.2⟩, this⟩
  have nc : ∀ q, IsReg s q → c ∉ L q := fun q hq hm => hc (h.sub q hq c hm)
  refine ⟨fun q hq => ?_, fun q hq => ?_, fun q hq => ?_, fun q hq => ?_, fun q hq => ?_, fun q hq => ?_, fun x hx hD => ?_⟩
  · exact (h.lk q (rg q hq).1).congr (fun x hx => h1 x (fun e => nc q (rg q hq).1 (e ▸ hx)))
  · rw [h3]; exact h.fst q (rg q hq).1
  · rw [h3]; exact h.lst q (rg q hq).1
  · rw [h3]; exact h.kds q (rg q hq).1
  · exact h.nd q (rg q hq).1
  · exact h.sub q (rg q hq).1
  · obtain ⟨a, b⟩ := h.all x hx hD
    have xc : x ≠ c := fun e => hc (e ▸ hD)
    rw [h1 x xc]
    refine ⟨a, b.imp id ?_⟩
    rintro ⟨q, hq, e, hm⟩
    have qc : q ≠ c := fun e2 => by
      subst e2
      rw [hk hq] at hm
      simp at hm
    exact ⟨q, ⟨hq.1, hq.2.1, by rw [h1 q qc]; exact hq.2.2⟩, e, hm⟩
/-- A free entry turns into an object. -/
theorem Tr.occO (h : Tr s D L) (hc : ¬ D c) (h0 : (s.hd c).typ = 0) (h1 : ∀ x, x ≠ c → s'.hd x = s.hd x) (h2 : (s'.hd c).typ ≠ 1) (h3 : s'.rg = s.rg) : Tr s' D L := by
  have rg : ∀ q, IsReg s' q ↔ IsReg s q := fun q => by
    by_cases e : q = c
    · subst e
      exact ⟨fun k => absurd k.2.2 h2, fun k => by have := k.2.2; omega⟩
    · unfold IsReg; rw [h1 q e]
  have nc : ∀ q, IsReg s q → c ∉ L q := fun q hq hm => hc (h.sub q hq c hm)
  refine ⟨fun q hq => ?_, fun q hq => ?_, fun q hq => ?_, fun q hq => ?_, fun q hq => ?_, fun q hq => ?_, fun x hx hD => ?_⟩
  · exact (h.lk q ((rg q).1 hq)).congr (fun x hx => h1 x (fun e => nc q ((rg q).1 hq) (e ▸ hx)))
  · rw [h3]; exact h.fst q ((rg q).1 hq)
  · rw [h3]; exact h.lst q ((rg q).1 hq)
  · rw [h3]; exact h.kds q ((rg q).1 hq)
  · exact h.nd q ((rg q).1 hq)
  · exact h.sub q ((rg q).1 hq)
  · obtain ⟨a, b⟩ := h.all x hx hD
    have xc : x ≠ c := fun e => hc (e ▸ hD)
    rw [h1 x xc]
    refine ⟨a, b.imp id ?_⟩
    rintro ⟨q, hq, e, hm⟩
    exact ⟨q, (rg q).2 hq, e, hm⟩
/-- A free entry turns into a region. -/
theorem Tr.occR (h : Tr s D L) (c1 : 256 ≤ c) (hc : ¬ D c) (h0 : (s.hd c).typ = 0) (h1 : ∀ x, x ≠ c → s'.hd x = s.hd x) {b : Int} (h3 : ∀ i, s'.rg i = if i = c - 256 then ⟨65535, 65535, 0, b⟩ else s.rg i) : Tr s' D (updL L c []) := by
  have rg : ∀ q, q ≠ c → (IsReg s' q ↔ IsReg s q) := fun q e => by unfold IsReg; rw [h1 q e]
  have rg3 : ∀ q, q ≠ c → IsReg s q → s'.rg (q - 256) = s.rg (q - 256) := fun q e hq => by
    rw [h3, if_neg]
    have := hq.1
    omega
  have nr : ¬ IsReg s c := fun k => by have := k.2.2; omega
  have nc : ∀ q, IsReg s q → c ∉ L q := fun q hq hm => hc (h.sub q hq c hm)
  refine ⟨fun q hq => ?_, fun q hq => ?_, fun q hq => ?_, fun q hq => ?_, fun q hq => ?_, fun q hq => ?_, fun x hx hD => ?_⟩
  · by_cases e : q = c
    · subst e; rw [updL_at]; trivial
    · rw [updL_ne e]; exact (h.lk q ((rg q e).1 hq)).congr (fun x hx => h1 x (fun e2 => nc q ((rg q e).1 hq) (e2 ▸ hx)))
  · by_cases e : q = c
    · subst e; rw [updL_at, h3]; simp [hOr]
    · rw [updL_ne e, rg3 q e ((rg q e).1 hq)]; exact h.fst q ((rg q e).1 hq)
  · by_cases e : q = c
    · subst e; rw [updL_at, h3]; simp [lOr]
    · rw [updL_ne e, rg3 q e ((rg q e).1 hq)]; exact h.lst q ((rg q e).1 hq)
  · by_cases e : q = c
    · subst e; rw [updL_at, h3]; simp
    · rw [updL_ne e, rg3 q e ((rg q e).1 hq)]; exact h.kds q ((rg q e).1 hq)
  · by_cases e : q = c
    · subst e; rw [updL_at]; exact List.nodup_nil
    · rw [updL_ne e]; exact h.nd q ((rg q e).1 hq)
  · by_cases e : q = c
    · subst e; rw [updL_at]; intro x hx; simp at hx
    · rw [updL_ne e]; exact h.sub q ((rg q e).1 hq)
  · obtain ⟨a, b⟩ := h.all x hx hD
    have xc : x ≠ c := fun e => hc (e ▸ hD)
    rw [h1 x xc]
    refine ⟨a, b.imp id ?_⟩
    rintro ⟨q, hq, e, hm⟩
    have qc : q ≠ c := fun e2 => nr (e2 ▸ hq)
    exact ⟨q, (rg q qc).2 hq, e, by rw [updL_ne qc]; exact hm⟩
theorem rbas_congr {i : Nat} (h1 : s'.rts i = s.rts i) (h2 : (s'.hd (s.rts i).toNat).bas = (s.hd (s.rts i).toNat).bas) : rbas s' i = rbas s i := by
  unfold rbas; rw [h1, h2]
/-- The roots stay where another entry turns. -/
theorem Ro.other (h : Ro s D n) (h1 : ∀ x, x ≠ c → s'.hd x = s.hd x) (hc : ∀ i, i < n → s.rts i ≠ (c : Int)) (h2 : s'.rts = s.rts) (h3 : s'.nrt = s.nrt) (hD : ∀ x, x < 320 → x ≠ c → (D' x ↔ D x)) (hp : D' c → (s'.hd c).par ≠ 65535) : Ro s' D' n := by
  have e : ∀ i, i < n → ∃ d : Nat, d < 320 ∧ s.rts i = (d : Int) ∧ d ≠ c := fun i hi => by
    obtain ⟨d, hd, e⟩ := h.rts.lt i hi
    exact ⟨d, hd, e, fun q => hc i hi (by rw [e, q])⟩
  have eb : ∀ i, i < n → rbas s' i = rbas s i := fun i hi => by
    obtain ⟨d, hd, e, ne⟩ := e i hi
    exact rbas_congr (by rw [h2]) (by rw [e]; simp only [Int.toNat_natCast]; rw [h1 d ne])
  refine ⟨⟨h.rts.n64, by rw [h3]; exact h.rts.nrt, fun i hi => by rw [h2]; exact h.rts.lt i hi, fun i j hij hj => by rw [eb i (by omega), eb j hj]; exact h.rts.sorted i j hij hj⟩, fun i d hi hd => ?_, fun d hd hD' hp' => ?_⟩
  · rw [h2] at hd
    have dc : d ≠ c := fun q => hc i hi (by rw [hd, q])
    obtain ⟨a1, a2, a3⟩ := h.reg i d hi hd
    rw [h1 d dc]
    exact ⟨⟨a1.1, a1.2.1, by rw [h1 d dc]; exact a1.2.2⟩, (hD d a1.2.1 dc).2 a2, a3⟩
  · by_cases dc : d = c
    · subst dc; exact absurd hp' (hp hD')
    · rw [h1 d dc] at hp'
      rw [h2]
      exact h.all d hd ((hD d hd dc).1 hD') hp'
/-- The links turn. -/
theorem Ro.fr (h : Ro s D n) (hf : Fr s s') (hD : ∀ x, x < 320 → D x → (s.hd x).par = 65535 → D' x) (hD2 : ∀ x, x < 320 → D' x → D x) : Ro s' D' n := by
  have eb : ∀ i, rbas s' i = rbas s i := fun i => rbas_congr (by rw [hf.rts]) (hf.hd _).2.2.2.2.1
  refine ⟨⟨h.rts.n64, by rw [hf.nrt]; exact h.rts.nrt, fun i hi => by rw [hf.rts]; exact h.rts.lt i hi, fun i j hij hj => by rw [eb i, eb j]; exact h.rts.sorted i j hij hj⟩, fun i d hi hd => ?_, fun d hd hD' hp' => ?_⟩
  · rw [hf.rts] at hd
    obtain ⟨a1, a2, a3, a4, a5, a6⟩ := h.reg i d hi hd
    obtain ⟨_, f2, _, f4, f5, f6⟩ := hf.hd d
    exact ⟨⟨a1.1, a1.2.1, f2.trans a1.2.2⟩, hD d a1.2.1 a2 a3, f4.trans a3, by rw [f5]; exact a4, by rw [f6]; exact a5, by rw [f5, f6]; exact a6⟩
  · rw [(hf.hd d).2.2.2.1] at hp'
    rw [hf.rts]
    exact h.all d hd (hD2 d hd hD') hp'
/-- A root leaves. -/
theorem Ro.remove (h : Ro s D n) (hp : p < n) (hpc : s.rts p = (c : Int)) : Ro (remS s p c n) (fun x => D x ∧ x ≠ c) (n - 1) := by
  have er : ∀ i, i < n - 1 → (remS s p c n).rts i = s.rts (if p ≤ i then i + 1 else i) := fun i hi => by
    unfold remS
    by_cases e : p ≤ i
    · simp [e, hi]
    · simp [e]
  have eb : ∀ i, i < n - 1 → rbas (remS s p c n) i = rbas s (if p ≤ i then i + 1 else i) := fun i hi => by
    unfold rbas
    rw [er i hi]
    rfl
  have inj : ∀ i j, i < n → j < n → s.rts i = s.rts j → i = j := fun i j hi hj e => by
    rcases Nat.lt_trichotomy i j with q | q | q
    · have := h.rts.sorted i j q hj; unfold rbas at this; rw [e] at this; omega
    · exact q
    · have := h.rts.sorted j i q hi; unfold rbas at this; rw [e] at this; omega
  refine ⟨⟨by have := h.rts.n64; omega, ?_, fun i hi => ?_, fun i j hij hj => ?_⟩, fun i d hi hd => ?_, fun d hd hD' hp' => ?_⟩
  · show (n : Int) - 1 = _
    omega
  · rw [er i hi]; exact h.rts.lt _ (by split <;> omega)
  · rw [eb i (by omega), eb j hj]
    exact h.rts.sorted _ _ (by split <;> split <;> omega) (by split <;> omega)
  · rw [er i hi] at hd
    have hi2 : (if p ≤ i then i + 1 else i) < n := by split <;> omega
    obtain ⟨a1, a2, a3⟩ := h.reg _ d hi2 hd
    refine ⟨a1, ⟨a2, fun e => ?_⟩, a3⟩
    have := inj _ p hi2 hp (by rw [hd, hpc, e])
    split at this <;> omega
  · obtain ⟨i, hi, e⟩ := h.all d hd hD'.1 hp'
    have ip : i ≠ p := fun q => hD'.2 (by
      rw [q, hpc] at e
      omega)
    by_cases q : i < p
    · exact ⟨i, by omega, by rw [er i (by omega), if_neg (by omega)]; exact e⟩
    · refine ⟨i - 1, by omega, ?_⟩
      rw [er _ (by omega), if_pos (by omega), show i - 1 + 1 = i by omega]
      exact e
end
end Go.Proofs.Qxb6500847aGreatDoor.Os
