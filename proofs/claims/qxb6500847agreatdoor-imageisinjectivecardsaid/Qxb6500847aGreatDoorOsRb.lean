/-
  One object more: occupy, attach, refOf.
-/
import Derived.Test.Qxb6500847aGreatDoorOsX
namespace Go.Proofs.Qxb6500847aGreatDoor.Os
open Go.RowKit FloorA
set_option maxRecDepth 100000
section
variable {A : Nat} {rb sb : Nat → Nat} {s s' : Av} {tl tl' : Nat → List Int} {ws : Nat → Nat → Nat → Int} {w : World} {L : Nat → List Nat} {D : Nat → Prop} {n p c i t : Nat} {r : Nat → Nat}
theorem attach_any (h : Ms w A rb sb s tl ws) (hT : Tr s D L) (hp : IsReg s p) (hc : c < 320) (hD : ¬ D c) :
    (s.rg (p - 256)).lst.toNat ≠ c ∧ Calls Tryz.prog 135 #[.pointer (some ⟨A, 0, none⟩), .int .u16 (p : Int), .int .u16 (c : Int)] w (MsPost (attS s p c) A rb sb tl ws w) := by
  have hl := hT.lst p hp
  rcases snoc_cases (L p) with e | ⟨m, a, e⟩
  · rw [e] at hl
    have hl' : (s.rg (p - 256)).lst = 65535 := hl
    refine ⟨by rw [hl']; show 65535 ≠ c; omega, attach_first h hp.1 hp.2.1 hc hl'⟩
  · rw [e, lOr_snoc] at hl
    have hm : a ∈ L p := by rw [e]; simp
    have a1 := (hT.mem hp hm).1
    have ac : a ≠ c := fun q => hD (q ▸ hT.sub p hp a hm)
    exact ⟨by rw [hl]; simpa using ac, attach_next h hp.1 hp.2.1 hc a1 ac hl⟩
/-- What one object more turns. -/
structure Gw (s s' : Av) (tl tl' : Nat → List Int) (c t p : Nat) : Prop where
  oth : ∀ y, y ≠ c → (s'.hd y).gen = (s.hd y).gen ∧ (s'.hd y).typ = (s.hd y).typ
  gen : (s'.hd c).gen = (s.hd c).gen
  typ : (s'.hd c).typ = (t : Int)
  reg : IsReg s' p
  idl : ∀ y, Idl s' y ↔ Idl s y ∧ y ≠ c
  room : t ≠ 1 → (tl' (t - 2)).length + 1 = (tl (t - 2)).length
theorem Gw.adv (h : Gw s s' tl tl' c t p) (h0 : (s.hd c).typ = 0) : Adv s s' := fun x _ => by
  by_cases e : x = c
  · subst e; exact Or.inr ⟨h.gen, fun q => absurd h0 q⟩
  · exact Or.inr ⟨(h.oth x e).1, fun q => by rw [(h.oth x e).2]; exact q⟩
def GwPost (A : Nat) (rb sb : Nat → Nat) (s : Av) (tl : Nat → List Int) (n c t p : Nat) (w : World) (e : Ending) (w2 : World) : Prop :=
  e = .returned (.tuple #[]) ∧ Ext w.heap.size (Tz A rb sb) w w2 ∧ Calls Tryz.prog 135 #[.pointer (some ⟨A, 0, none⟩), .int .u16 (p : Int), .int .u16 (c : Int)] w2 (fun e w3 => e = .returned (.tuple #[]) ∧ Ext w.heap.size (Tz A rb sb) w w3 ∧ Calls Tryz.prog 124 #[.pointer (some ⟨A, 0, none⟩), .int .u16 (c : Int)] w3 (fun e w4 => e = .returned (.agg #[.int .u16 (c : Int), .int .u32 (s.hd c).gen]) ∧ Ext w.heap.size (Tz A rb sb) w w4 ∧ ∃ s' tl' ws' L', Ms w4 A rb sb s' tl' ws' ∧ IV s' tl' L' n ∧ Wr ws' ∧ Gw s s' tl tl' c t p))
/-- Behind occupy. -/
theorem grow_end {w2 : World} {s1 : Av} {tl1 : Nat → List Int} {ws1 : Nat → Nat → Nat → Int} {L1 : Nat → List Nat} (x2 : Ext w.heap.size (Tz A rb sb) w w2) (m2 : Ms w2 A rb sb s1 tl1 ws1) (hV : IVd s1 tl1 (Lv s) L1 n) (hr : Rk s1 r) (hW : Wr ws1) (hp : IsReg s p) (hc : c < 320) (h0 : (s.hd c).typ = 0)
    (h1 : ∀ x, x ≠ c → s1.hd x = s.hd x) (h2 : (s1.hd c).gen = (s.hd c).gen ∧ (s1.hd c).typ = (t : Int)) (t1 : 1 ≤ t) (hi : ∀ y, Idl s1 y ↔ Idl s y ∧ y ≠ c) (hm : t ≠ 1 → (tl1 (t - 2)).length + 1 = (tl (t - 2)).length) (he : IsReg s1 c → L1 c = []) :
    GwPost A rb sb s tl n c t p w (.returned (.tuple #[])) w2 := by
  have nD : ¬ Lv s c := fun q => q h0
  have pc : p ≠ c := fun e => by
    have := hp.2.2
    rw [e, h0] at this
    omega
  have hp1 : IsReg s1 p := ⟨hp.1, hp.2.1, by rw [h1 p pc]; exact hp.2.2⟩
  have tc : (s1.hd c).typ ≠ 0 := by rw [h2.2]; omega
  obtain ⟨al, ac⟩ := attach_any m2 hV.tr hp1 hc nD
  refine ⟨rfl, x2, ac.mono ?_⟩
  rintro e w3 ⟨rfl, m3, x3⟩
  have x13 := x2.trans x3 x2.size (fun _ _ q => q)
  have ah := att_hd s1 p c
  have hg : ((attS s1 p c).hd c).gen = (s.hd c).gen := by rw [(ah c).1]; exact h2.1
  have rf := refOf_walk m3.am hc
  rw [hg] at rf
  refine ⟨rfl, x13, rf.mono ?_⟩
  rintro e w4 ⟨rfl, b4⟩
  have hV3 := hV.att hp1 hc tc nD al
  have hr3 := hr.att hV.tr pc (fun x hx ht hne => by
    rw [h1 x hne] at ht
    exact ht) he al
  refine ⟨rfl, x13.andThen b4 x13.size, attS s1 p c, tl1, ws1, _, m3.below b4, hV3.toIV hr3 (fun x _ => ?_), hW, ⟨fun y hy => ?_, hg, ?_, ?_, fun y => ?_, hm⟩⟩
  · show Lv s x ∨ x = c ↔ ((attS s1 p c).hd x).typ ≠ 0
    rw [(ah x).2.1]
    by_cases e : x = c
    · subst e; simp [tc]
    · rw [h1 x e]; simp [e, Lv]
  · rw [(ah y).1, (ah y).2.1, h1 y hy]; exact ⟨rfl, rfl⟩
  · rw [(ah c).2.1]; exact h2.2
  · exact ⟨hp.1, hp.2.1, by rw [(ah p).2.1]; exact hp1.2.2⟩
  · rw [← hi y]
    unfold Idl
    rw [(att_same s1 p c).1]
theorem grow_calls (h : Ms w A rb sb s tl ws) (hI : IV s tl L n) (hW : Wr ws) (hp : IsReg s p) (hc : c < 320) (hi : Idl s c) (t1 : 1 ≤ t) (t7 : t ≤ 7) (tr : t = 1 ↔ 256 ≤ c) (hroom : t ≠ 1 → 0 < (tl (t - 2)).length) {b z : Int} (hb : 0 ≤ b ∧ b < 18446744073709551616 ∧ 0 ≤ z ∧ z < 18446744073709551616) :
    Calls Tryz.prog 128 #[.pointer (some ⟨A, 0, none⟩), .int .u16 (c : Int), .int .u8 (t : Int), .int .u64 b, .int .u64 z] w (GwPost A rb sb s tl n c t p w) := by
  have h0 := hI.ge.idl c hc hi
  have nD : ¬ Lv s c := fun q => q h0
  obtain ⟨r, hr⟩ := hI.rk
  by_cases e1 : t = 1
  · subst e1
    have c1 := tr.1 rfl
    refine (occupy_one h hI.ge.wd c1 hc b z).mono ?_
    rintro e w2 ⟨rfl, m2, x2⟩
    have hh := occ_hd s c 1 b z 65535
    have hcc := hh c
    rw [if_pos rfl] at hcc
    exact grow_end x2 m2 (hI.toD.occR hc c1 hi nD hb) (hr.occ (c := c) (fun x e => by rw [hh, if_neg e]) (by rw [hcc])) hW hp hc h0 (fun x e => by rw [hh, if_neg e]) (by rw [hcc]; exact ⟨rfl, rfl⟩) t1 (occ_idl s c 1 b z 65535) (fun q => absurd rfl q) (fun _ => updL_at L c [])
  · have c1 : c < 256 := by
      rcases Nat.lt_or_ge c 256 with q | q
      · exact q
      · exact absurd (tr.2 q) e1
    rcases List.eq_nil_or_concat (tl (t - 2)) with q | ⟨l, x, q⟩
    · have := hroom e1
      rw [q] at this
      simp at this
    · rw [List.concat_eq_append] at q
      obtain ⟨rr, er, rl⟩ := hI.tb.stk (t - 2) (by omega) x (by rw [q]; simp)
      subst er
      refine (occupy_obj h hI.ge.wd hc (k := t) (by omega) t7 q rl b z).mono ?_
      rintro e w2 ⟨rfl, m2, x2⟩
      have hh := occ_hd (s.setTi (t - 2) (.slice (some ⟨sb (t - 2), 0, none⟩) l.length (nR (t - 2)))) c t b z rr
      have hcc := hh c
      rw [if_pos rfl] at hcc
      have hne : ∀ x, x ≠ c → (occS (s.setTi (t - 2) (.slice (some ⟨sb (t - 2), 0, none⟩) l.length (nR (t - 2)))) c t b z rr).hd x = s.hd x := fun x e => by rw [hh, if_neg e]; rfl
      exact grow_end x2 m2 (hI.toD.occO c1 hi nD (by omega) t7 q hb _) (hr.occ (c := c) hne (by rw [hcc])) (hW.upd (Wq.zero _)) hp hc h0 hne (by rw [hcc]; exact ⟨rfl, rfl⟩) t1 (occ_idl (s.setTi (t - 2) _) c t b z rr) (fun _ => by rw [updT, if_pos rfl, q]; simp) (fun k => absurd k.1 (by omega))
/-! ### how many are idle -/
theorem cnI_step {f lim : Nat} (h1 : f ≤ c) (h2 : c < lim) (h3 : Idl s c) (h4 : ∀ j, f ≤ j → j < c → ¬ Idl s j) : cnI s f lim = cnI s (c + 1) lim + 1 := by
  have e : ∀ m, m ≤ lim → cnI s f m = cnI s (c + 1) m + (if c < m then 1 else 0) := by
    intro m
    induction m with
    | zero => intro _; simp [cnI]
    | succ m ih =>
      intro hm
      have i1 := ih (by omega)
      have key : ∀ a, cnI s a (m + 1) = cnI s a m + (if a ≤ m ∧ (s.idl (m / 64)).testBit (m % 64) = true then 1 else 0) := fun a => by
        unfold cnI
        rw [List.range_succ, List.countP_append, List.countP_cons, List.countP_nil]
        congr 1
        by_cases q : a ≤ m ∧ (s.idl (m / 64)).testBit (m % 64) = true
        · rw [if_pos q, if_pos (by simp [q.1, q.2])]
        · rw [if_neg q, if_neg (fun k => q (by simpa using k))]
      rw [key, key, i1]
      by_cases q1 : c < m
      · have q2 : f ≤ m := by omega
        have q3 : c + 1 ≤ m := by omega
        have q4 : c < m + 1 := by omega
        rw [if_pos q1, if_pos q4]
        by_cases q5 : (s.idl (m / 64)).testBit (m % 64) = true
        · rw [if_pos ⟨q2, q5⟩, if_pos ⟨q3, q5⟩]
        · rw [if_neg (fun k => q5 k.2), if_neg (fun k => q5 k.2)]
      · rw [if_neg q1]
        by_cases q2 : c = m
        · subst q2
          rw [if_pos ⟨h1, h3⟩, if_neg (fun k => absurd k.1 (by omega)), if_pos (by omega)]
        · have n1 : ¬ (f ≤ m ∧ (s.idl (m / 64)).testBit (m % 64) = true) := fun k => h4 m k.1 (by omega) k.2
          have n2 : ¬ (c + 1 ≤ m ∧ (s.idl (m / 64)).testBit (m % 64) = true) := fun k => absurd k.1 (by omega)
          rw [if_neg n1, if_neg n2, if_neg (by omega)]
  have := e lim (Nat.le_refl _)
  rw [if_pos h2] at this
  exact this
theorem cnI_congr {f lim : Nat} (h : ∀ j, f ≤ j → j < lim → (Idl s' j ↔ Idl s j)) : cnI s' f lim = cnI s f lim := by
  unfold cnI
  apply List.countP_congr
  intro j hj
  have hj' : j < lim := by simpa using hj
  by_cases q : f ≤ j
  · have := h j q hj'
    unfold Idl at this
    simp only [q, decide_true, Bool.true_and]
    exact this
  · simp [q]
theorem cnI_none_lt {f lim : Nat} (h : ∀ j, f ≤ j → j < lim → ¬ Idl s j) : cnI s f lim = 0 := by
  unfold cnI
  rw [List.countP_eq_zero]
  intro j hj
  have hj' : j < lim := by simpa using hj
  intro k
  simp only [Bool.and_eq_true, decide_eq_true_eq] at k
  exact h j k.1 hj' k.2
end
end Go.Proofs.Qxb6500847aGreatDoor.Os
