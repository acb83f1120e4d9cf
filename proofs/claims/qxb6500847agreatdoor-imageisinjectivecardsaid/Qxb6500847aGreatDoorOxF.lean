/-
  The counters under each turn of the store.
-/
import Derived.Test.Qxb6500847aGreatDoorOxE
namespace Go.Proofs.Qxb6500847aGreatDoor.Os
open Go.RowKit FloorA
set_option maxRecDepth 100000
section
variable {s s' : Av} {D D' : Nat → Prop} {L : Nat → List Nat} {n c p k : Nat} {tl tl' : Nat → List Int}
theorem occ_cnt (s : Av) (c k : Nat) (b z row : Int) : (∀ y, (occS s c k b z row).lv y = if y = k then wrap64 (s.lv k + 1) else s.lv y) ∧ (occS s c k b z row).c0 = s.c0 ∧ (occS s c k b z row).c1 = s.c1 ∧ (occS s c k b z row).c2 = (if k = 1 then s.c2 else IntKind.u64.wrap (s.c2 + z)) ∧ (occS s c k b z row).c3 = s.c3 := by
  unfold occS
  dsimp only
  by_cases h : k = 1
  · rw [if_pos h, if_pos h]; exact ⟨fun y => rfl, rfl, rfl, rfl, rfl⟩
  · rw [if_neg h, if_neg h]; exact ⟨fun y => rfl, rfl, rfl, rfl, rfl⟩
theorem lv_bound (h : Ct s tl D) (k1 : 1 ≤ k) (k7 : k ≤ 7) : 0 ≤ s.lv k ∧ s.lv k ≤ 320 := by
  rw [h.lv k k1 k7]
  exact sumF_one (fun i _ => one_01 _)
theorem Ct.occ {row b z : Int} (h : Ct s tl D) (hc : c < 320) (h0 : (s.hd c).typ = 0) (hs0 : (s.hd c).siz = 0) (hg : (s.hd c).gen ≠ 4294967295) (hD : ¬ D c) (k1 : 1 ≤ k) (k7 : k ≤ 7) (kr : k = 1 ↔ 256 ≤ c)
    (ht : ∀ t, t < 6 → ((tl' t).length : Int) = (tl t).length - one (k = t + 2)) (x : Value) (j : Nat) : Ct (occS (s.setTi j x) c k b z row) tl' D := by
  have hh : ∀ y, (occS (s.setTi j x) c k b z row).hd y = if y = c then ⟨(s.hd c).gen, k, row, 65535, 65535, 65535, b, z⟩ else s.hd y := fun y => occ_hd (s.setTi j x) c k b z row y
  have hc' := hh c
  rw [if_pos rfl] at hc'
  have ho : ∀ y, y ≠ c → (occS (s.setTi j x) c k b z row).hd y = s.hd y := fun y e => by rw [hh, if_neg e]
  obtain ⟨o1, o2, o3, o4, o5⟩ := occ_cnt (s.setTi j x) c k b z row
  have typ : ∀ y : Nat, 1 ≤ y → sumF (fun i => one (((occS (s.setTi j x) c k b z row).hd i).typ = (y : Int))) 320 = sumF (fun i => one ((s.hd i).typ = (y : Int))) 320 + one (k = y) := fun y hy => by
    rw [sumF_upd (f := fun i => one ((s.hd i).typ = (y : Int))) (c := c) hc (fun i _ hi => by show one _ = one _; rw [ho i hi])]
    show _ - one ((s.hd c).typ = (y : Int)) + one (((occS (s.setTi j x) c k b z row).hd c).typ = (y : Int)) = _
    rw [hc', one_neg (p := (s.hd c).typ = (y : Int)) (by rw [h0]; omega)]
    have : one ((⟨(s.hd c).gen, (k : Int), row, 65535, 65535, 65535, b, z⟩ : Hd).typ = (y : Int)) = one (k = y) := by
      by_cases e : k = y
      · rw [one_pos e, one_pos (by show (k : Int) = _; omega)]
      · rw [one_neg e, one_neg (by show ¬ (k : Int) = _; omega)]
    rw [this]
    omega
  refine ⟨?_, fun y y1 y7 => ?_, ?_, ?_, ?_, ?_, fun t t6 => ?_⟩
  · rw [o1, if_neg (by omega)]; exact h.l0
  · rw [o1, typ y y1]
    by_cases e : y = k
    · subst e
      rw [if_pos rfl, one_pos rfl]
      have := lv_bound h y1 y7
      have e2 := h.lv y y1 y7
      show wrap64 (s.lv y + 1) = _
      rw [← e2]
      unfold wrap64; omega
    · rw [if_neg e, one_neg (fun q => e q.symm)]
      show s.lv y = _
      rw [h.lv y y1 y7]
      omega
  · rw [o2]
    show s.c0 = _
    rw [h.c0]
    refine (sumF_congr (fun i _ => ?_)).symm
    by_cases e : i = c
    · subst e
      rw [hc', one_neg (p := (s.hd i).typ = 0 ∧ _) (fun q => hg q.2), one_neg (fun q => by have : (k : Int) = 0 := q.1; omega)]
    · rw [ho i e]
  · rw [o3]
    show s.c1 = _
    rw [h.c1]
    refine (sumF_congr (fun i _ => ?_)).symm
    by_cases e : i = c
    · subst e
      rw [hc', one_neg (p := 256 ≤ i ∧ (s.hd i).typ = 0 ∧ _) (fun q => hg q.2.2), one_neg (fun q => by have : (k : Int) = 0 := q.2.1; omega)]
    · rw [ho i e]
  · rw [o4]
    by_cases e : k = 1
    · rw [if_pos e]
      show s.c2 = _
      rw [h.c2]
      exact congrArg _ (sumF_congr (f := fun i => (s.hd i).siz) (g := fun i => ((occS (s.setTi j x) c k b z row).hd i).siz) (fun i hi => by show ((occS (s.setTi j x) c k b z row).hd i).siz = _; rw [ho i (by have := kr.1 e; omega)])).symm
    · have cl : c < 256 := by
        rcases Nat.lt_or_ge c 256 with q | q
        · exact q
        · exact absurd (kr.2 q) e
      rw [if_neg e]
      show IntKind.u64.wrap (s.c2 + z) = _
      rw [h.c2, u64_wrap_add, sumF_upd (f := fun i => (s.hd i).siz) (g := fun i => ((occS (s.setTi j x) c k b z row).hd i).siz) (c := c) cl (fun i _ hi => by show ((occS (s.setTi j x) c k b z row).hd i).siz = _; rw [ho i hi])]
      show _ = IntKind.u64.wrap (_ - (s.hd c).siz + ((occS (s.setTi j x) c k b z row).hd c).siz)
      rw [hc', hs0]
      show _ = IntKind.u64.wrap (_ - 0 + z)
      rw [Int.sub_zero]
  · rw [o5]
    show s.c3 = _
    rw [h.c3]
    refine congrArg _ (sumF_congr (fun i _ => ?_)).symm
    by_cases e : i = c
    · subst e
      rw [siF_neg (fun q => hD q.1), siF_neg (fun q => hD q.1)]
    · rw [ho i e]
  · have e1 := h.tl t t6
    rw [typ (t + 2) (by omega), ht t t6]
    omega
theorem att_cnt (s : Av) (p c : Nat) : (attS s p c).lv = s.lv ∧ (attS s p c).c0 = s.c0 ∧ (attS s p c).c1 = s.c1 ∧ (attS s p c).c2 = s.c2 ∧ (attS s p c).c3 = s.c3 := by
  unfold attS
  dsimp only
  split <;> exact ⟨rfl, rfl, rfl, rfl, rfl⟩
theorem Ct.att (h : Ct s tl D) (hp : p < 320) (hl : (s.rg (p - 256)).lst.toNat ≠ c) (hD : ¬ D c) : Ct (attS s p c) tl (fun x => D x ∨ x = c) := by
  have a := att_hd s p c
  have ep := att_par s hl
  obtain ⟨e1, e2, e3, e4, e5⟩ := att_cnt s p c
  refine ⟨by rw [e1]; exact h.l0, fun k k1 k7 => ?_, ?_, ?_, ?_, ?_, fun t t6 => ?_⟩
  · rw [e1, h.lv k k1 k7]
    exact (sumF_congr (fun i _ => by show one _ = one _; rw [(a i).2.1])).symm
  · rw [e2, h.c0]
    exact (sumF_congr (fun i _ => by show one _ = one _; rw [(a i).2.1, (a i).1])).symm
  · rw [e3, h.c1]
    exact (sumF_congr (fun i _ => by show one _ = one _; rw [(a i).2.1, (a i).1])).symm
  · rw [e4, h.c2]
    exact congrArg _ (sumF_congr (fun i _ => (a i).2.2.2.2.1)).symm
  · rw [e5, h.c3]
    refine congrArg _ (sumF_congr (fun i _ => ?_)).symm
    by_cases e : i = c
    · subst e
      rw [siF_neg (fun q => by have := q.2; rw [ep] at this; omega), siF_neg (fun q => hD q.1)]
    · rw [(a i).2.2.2.2.2 e, (a i).2.2.2.2.1]
      exact siF_iff ⟨fun z => ⟨z.1.resolve_right e, z.2⟩, fun z => ⟨Or.inl z.1, z.2⟩⟩ _
  · have := h.tl t t6
    rw [← this]
    exact congrArg _ (sumF_congr (fun i _ => by show one _ = one _; rw [(a i).2.1]))
theorem Ct.ins {q : Nat} (h : Ct s tl D) (hc : c < 320) (hp : (s.hd c).par = 65535) (hD : ¬ D c) : Ct (insS s q c n) tl (fun x => D x ∨ x = c) := by
  refine ⟨h.l0, h.lv, h.c0, h.c1, h.c2, ?_, h.tl⟩
  show IntKind.u64.wrap (s.c3 + (s.hd c).siz) = _
  rw [h.c3, u64_wrap_add, sumF_upd (f := fun i => siF (D i ∧ (s.hd i).par = 65535) (s.hd i).siz) (g := fun i => siF ((D i ∨ i = c) ∧ ((insS s q c n).hd i).par = 65535) ((insS s q c n).hd i).siz) (c := c) hc (fun i _ hi => ?_)]
  · refine congrArg _ ?_
    rw [siF_neg (fun z => hD z.1), siF_pos ⟨Or.inr rfl, hp⟩]
    show _ = _ - 0 + (s.hd c).siz
    omega
  · exact siF_iff ⟨fun z => ⟨z.1.resolve_right hi, z.2⟩, fun z => ⟨Or.inl z.1, z.2⟩⟩ _
theorem Ct.rem {q : Nat} (h : Ct s tl D) (hc : c < 320) (hp : (s.hd c).par = 65535) (hD : D c) : Ct (remS s q c n) tl (fun x => D x ∧ x ≠ c) := by
  refine ⟨h.l0, h.lv, h.c0, h.c1, h.c2, ?_, h.tl⟩
  show IntKind.u64.wrap (s.c3 - (s.hd c).siz) = _
  rw [h.c3, u64_wrap_sub, sumF_upd (f := fun i => siF (D i ∧ (s.hd i).par = 65535) (s.hd i).siz) (g := fun i => siF ((D i ∧ i ≠ c) ∧ ((remS s q c n).hd i).par = 65535) ((remS s q c n).hd i).siz) (c := c) hc (fun i _ hi => ?_)]
  · refine congrArg _ ?_
    rw [siF_pos ⟨hD, hp⟩, siF_neg (fun z => z.1.2 rfl)]
    omega
  · exact siF_iff ⟨fun z => ⟨z.1.1, z.2⟩, fun z => ⟨⟨z.1, hi⟩, z.2⟩⟩ _
theorem Ct.cut {top : Int} (h : Ct s tl D) (hf : Fr s s') (hx : FrX s s' p top) (hp : (s.hd c).par ≠ 65535) : Ct s' tl (fun x => D x ∧ x ≠ c) := by
  refine ⟨by rw [hx.lv]; exact h.l0, fun k k1 k7 => ?_, ?_, ?_, ?_, ?_, fun t t6 => ?_⟩
  · rw [hx.lv, h.lv k k1 k7]
    exact (sumF_congr (fun i _ => by show one _ = one _; rw [(hf.hd i).2.1])).symm
  · rw [hx.c0, h.c0]
    exact (sumF_congr (fun i _ => by show one _ = one _; rw [(hf.hd i).2.1, (hf.hd i).1])).symm
  · rw [hx.c1, h.c1]
    exact (sumF_congr (fun i _ => by show one _ = one _; rw [(hf.hd i).2.1, (hf.hd i).1])).symm
  · rw [hx.c2, h.c2]
    exact congrArg _ (sumF_congr (fun i _ => (hf.hd i).2.2.2.2.2)).symm
  · rw [hx.c3, h.c3]
    refine congrArg _ (sumF_congr (fun i _ => ?_)).symm
    rw [(hf.hd i).2.2.2.1, (hf.hd i).2.2.2.2.2]
    exact siF_iff ⟨fun z => ⟨z.1.1, z.2⟩, fun z => ⟨⟨z.1, fun e => hp (by rw [← e]; exact z.2)⟩, z.2⟩⟩ _
  · have := h.tl t t6
    rw [← this]
    exact congrArg _ (sumF_congr (fun i _ => by show one _ = one _; rw [(hf.hd i).2.1]))
theorem vac_cnt (s : Av) (c k : Nat) : (∀ y, (vacS s c k).lv y = if y = k then wrap64 (s.lv k - 1) else s.lv y) ∧ (vacS s c k).c0 = (if nxG s c < 4294967295 ∨ 256 ≤ c then s.c0 else wrap64 (s.c0 + 1)) ∧ (vacS s c k).c1 = (if nxG s c < 4294967295 ∨ ¬ 256 ≤ c then s.c1 else wrap64 (s.c1 + 1)) ∧ (vacS s c k).c2 = (if k = 1 then s.c2 else IntKind.u64.wrap (s.c2 - (s.hd c).siz)) ∧ (vacS s c k).c3 = s.c3 := by
  unfold vacS nxG
  dsimp only
  by_cases h : ((s.hd c).gen + 1) % 4294967296 < 4294967295
  · rw [if_pos h, if_pos (Or.inl h), if_pos (Or.inl h)]
    split <;> refine ⟨fun y => rfl, ?_, ?_, ?_, ?_⟩ <;> first | rfl | trivial
  · by_cases q : 256 ≤ c
    · have e1 : ((s.hd c).gen + 1) % 4294967296 < 4294967295 ∨ 256 ≤ c := Or.inr q
      have e2 : ¬ (((s.hd c).gen + 1) % 4294967296 < 4294967295 ∨ ¬ 256 ≤ c) := by omega
      by_cases k1 : k = 1
      · simp only [if_neg h, if_pos q, if_pos e1, if_neg e2, if_pos k1]; refine ⟨fun y => rfl, ?_, ?_, ?_, ?_⟩ <;> first | rfl | trivial
      · simp only [if_neg h, if_pos q, if_pos e1, if_neg e2, if_neg k1]; refine ⟨fun y => rfl, ?_, ?_, ?_, ?_⟩ <;> first | rfl | trivial
    · have e1 : ¬ (((s.hd c).gen + 1) % 4294967296 < 4294967295 ∨ 256 ≤ c) := by omega
      have e2 : ((s.hd c).gen + 1) % 4294967296 < 4294967295 ∨ ¬ 256 ≤ c := Or.inr q
      by_cases k1 : k = 1
      · simp only [if_neg h, if_neg q, if_neg e1, if_pos e2, if_pos k1]; refine ⟨fun y => rfl, ?_, ?_, ?_, ?_⟩ <;> first | rfl | trivial
      · simp only [if_neg h, if_neg q, if_neg e1, if_pos e2, if_neg k1]; refine ⟨fun y => rfl, ?_, ?_, ?_, ?_⟩ <;> first | rfl | trivial
theorem Ct.vac (h : Ct s tl D) (hc : c < 320) (k1 : 1 ≤ k) (k7 : k ≤ 7) (hk : (s.hd c).typ = (k : Int)) (hg : nxG s c = (s.hd c).gen + 1 ∧ (s.hd c).gen < 4294967295) (hD : ¬ D c) (kr : k = 1 ↔ 256 ≤ c)
    (ht : ∀ t, t < 6 → ((tl' t).length : Int) = (tl t).length + one (k = t + 2)) (x : Value) (j : Nat) : Ct (vacS (s.setTi j x) c k) tl' D := by
  have hh : ∀ y, (vacS (s.setTi j x) c k).hd y = if y = c then ⟨nxG s c, 0, 0, 65535, 65535, 65535, 0, 0⟩ else s.hd y := fun y => vac_hd (s.setTi j x) c k y
  have hc' := hh c
  rw [if_pos rfl] at hc'
  have ho : ∀ y, y ≠ c → (vacS (s.setTi j x) c k).hd y = s.hd y := fun y e => by rw [hh, if_neg e]
  obtain ⟨o1, o2, o3, o4, o5⟩ := vac_cnt (s.setTi j x) c k
  have typ : ∀ y : Nat, 1 ≤ y → sumF (fun i => one (((vacS (s.setTi j x) c k).hd i).typ = (y : Int))) 320 = sumF (fun i => one ((s.hd i).typ = (y : Int))) 320 - one (k = y) := fun y hy => by
    rw [sumF_upd (f := fun i => one ((s.hd i).typ = (y : Int))) (c := c) hc (fun i _ hi => by show one _ = one _; rw [ho i hi])]
    show _ - one ((s.hd c).typ = (y : Int)) + one (((vacS (s.setTi j x) c k).hd c).typ = (y : Int)) = _
    rw [hc', one_neg (p := (⟨nxG s c, 0, 0, 65535, 65535, 65535, 0, 0⟩ : Hd).typ = (y : Int)) (fun q => by have : (0 : Int) = y := q; omega)]
    have : one ((s.hd c).typ = (y : Int)) = one (k = y) := by
      by_cases e : k = y
      · rw [one_pos e, one_pos (by rw [hk]; omega)]
      · rw [one_neg e, one_neg (by rw [hk]; omega)]
    rw [this]
    omega
  have cb0 : 0 ≤ s.c0 ∧ s.c0 ≤ 256 := by rw [h.c0]; exact sumF_one (fun i _ => one_01 _)
  have cb1 : 0 ≤ s.c1 ∧ s.c1 ≤ 320 := by rw [h.c1]; exact sumF_one (fun i _ => one_01 _)
  refine ⟨?_, fun y y1 y7 => ?_, ?_, ?_, ?_, ?_, fun t t6 => ?_⟩
  · rw [o1, if_neg (by omega)]; exact h.l0
  · rw [o1, typ y y1]
    by_cases e : y = k
    · subst e
      rw [if_pos rfl, one_pos rfl]
      have := lv_bound h y1 y7
      have e2 := h.lv y y1 y7
      show wrap64 (s.lv y - 1) = _
      rw [← e2]
      unfold wrap64; omega
    · rw [if_neg e, one_neg (fun q => e q.symm)]
      show s.lv y = _
      rw [h.lv y y1 y7]
      omega
  · rw [o2]
    show (if nxG s c < 4294967295 ∨ 256 ≤ c then s.c0 else wrap64 (s.c0 + 1)) = _
    by_cases cl : c < 256
    · rw [sumF_upd (f := fun i => one ((s.hd i).typ = 0 ∧ (s.hd i).gen = 4294967295)) (c := c) cl (fun i _ hi => by show one _ = one _; rw [ho i hi]), ← h.c0]
      show _ = s.c0 - one ((s.hd c).typ = 0 ∧ _) + one (((vacS (s.setTi j x) c k).hd c).typ = 0 ∧ ((vacS (s.setTi j x) c k).hd c).gen = 4294967295)
      rw [hc', one_neg (p := (s.hd c).typ = 0 ∧ _) (fun q => by have := q.1; omega)]
      by_cases e : nxG s c < 4294967295
      · rw [if_pos (Or.inl e), one_neg (fun q => by have : nxG s c = _ := q.2; omega)]
        omega
      · rw [if_neg (by omega), one_pos ⟨rfl, by show nxG s c = _; omega⟩]
        unfold wrap64; omega
    · rw [if_pos (Or.inr (by omega)), h.c0]
      exact (sumF_congr (fun i hi => by show one _ = one _; rw [ho i (by omega)])).symm
  · rw [o3]
    show (if nxG s c < 4294967295 ∨ ¬ 256 ≤ c then s.c1 else wrap64 (s.c1 + 1)) = _
    rw [sumF_upd (f := fun i => one (256 ≤ i ∧ (s.hd i).typ = 0 ∧ (s.hd i).gen = 4294967295)) (c := c) hc (fun i _ hi => by show one _ = one _; rw [ho i hi]), ← h.c1]
    show _ = s.c1 - one (256 ≤ c ∧ (s.hd c).typ = 0 ∧ _) + one (256 ≤ c ∧ ((vacS (s.setTi j x) c k).hd c).typ = 0 ∧ ((vacS (s.setTi j x) c k).hd c).gen = 4294967295)
    rw [hc', one_neg (p := 256 ≤ c ∧ (s.hd c).typ = 0 ∧ _) (fun q => by have := q.2.1; omega)]
    by_cases e : nxG s c < 4294967295 ∨ ¬ 256 ≤ c
    · rw [if_pos e, one_neg (fun q => by have : nxG s c = _ := q.2.2; have := q.1; omega)]
      omega
    · rw [if_neg e, one_pos ⟨by omega, rfl, by show nxG s c = _; omega⟩]
      unfold wrap64; omega
  · rw [o4]
    by_cases e : k = 1
    · rw [if_pos e]
      show s.c2 = _
      rw [h.c2]
      exact congrArg _ (sumF_congr (f := fun i => (s.hd i).siz) (g := fun i => ((vacS (s.setTi j x) c k).hd i).siz) (fun i hi => by show ((vacS (s.setTi j x) c k).hd i).siz = _; rw [ho i (by have := kr.1 e; omega)])).symm
    · have cl : c < 256 := by
        rcases Nat.lt_or_ge c 256 with q | q
        · exact q
        · exact absurd (kr.2 q) e
      rw [if_neg e]
      show IntKind.u64.wrap (s.c2 - (s.hd c).siz) = _
      rw [h.c2, u64_wrap_sub, sumF_upd (f := fun i => (s.hd i).siz) (g := fun i => ((vacS (s.setTi j x) c k).hd i).siz) (c := c) cl (fun i _ hi => by show ((vacS (s.setTi j x) c k).hd i).siz = _; rw [ho i hi])]
      show _ = IntKind.u64.wrap (_ - (s.hd c).siz + ((vacS (s.setTi j x) c k).hd c).siz)
      rw [hc']
      show _ = IntKind.u64.wrap (_ - (s.hd c).siz + 0)
      rw [Int.add_zero]
  · rw [o5]
    show s.c3 = _
    rw [h.c3]
    refine congrArg _ (sumF_congr (fun i _ => ?_)).symm
    by_cases e : i = c
    · subst e
      rw [siF_neg (fun q => hD q.1), siF_neg (fun q => hD q.1)]
    · rw [ho i e]
  · have e1 := h.tl t t6
    rw [typ (t + 2) (by omega), ht t t6]
    omega
theorem Ct.congrD (h : Ct s tl D) (hD : ∀ x, x < 320 → (D x ↔ D' x)) : Ct s tl D' := by
  refine ⟨h.l0, h.lv, h.c0, h.c1, h.c2, ?_, h.tl⟩
  rw [h.c3]
  refine congrArg _ (sumF_congr (fun i hi => ?_)).symm
  exact siF_iff ⟨fun z => ⟨(hD i hi).2 z.1, z.2⟩, fun z => ⟨(hD i hi).1 z.1, z.2⟩⟩ _
/-- What always holds besides: places and counters. -/
structure IX (s : Av) (tl : Nat → List Int) (L : Nat → List Nat) (n : Nat) : Prop where
  gm : Gm s L n
  ct : Ct s tl (Lv s)
/-- New generations. -/
theorem IX.ep {g : Nat} (h : IX s tl L n) (hge : Ge s) (hg : g < 4294967295) : IX (epS s g 320) tl L n := by
  have hs := ep_sam s g 320
  have e := ep_gen s g 320
  have gm : ∀ x, x < 320 → (((epS s g 320).hd x).gen = 4294967295 ↔ (s.hd x).gen = 4294967295) := fun x hx => by
    rw [e]
    by_cases q : (s.hd x).gen ≠ 4294967295
    · rw [if_pos ⟨hx, q⟩]
      exact ⟨fun z => by omega, fun z => absurd z q⟩
    · rw [if_neg (fun z => q z.2)]
  refine ⟨⟨fun p hp => ?_, fun c hc ht => ?_, fun c hc ht hp => ?_, fun i j c d hij hj ei ej => ?_, fun c hc ht => ?_, fun c hc ht hg' => ?_⟩, ⟨h.ct.l0, fun k k1 k7 => ?_, ?_, ?_, ?_, ?_, fun t t6 => ?_⟩⟩
  · have hp0 := (IsReg.sam hs).1 hp
    obtain ⟨a, b⟩ := h.gm.chn p hp0
    obtain ⟨_, _, _, _, _, b6, b7⟩ := hs.hd p
    rw [b6, b7, hs.rg]
    exact ⟨a.congr (fun d _ => ⟨(hs.hd d).2.2.2.2.2.1, (hs.hd d).2.2.2.2.2.2⟩), b⟩
  · obtain ⟨b1, _, _, _, _, b6, b7⟩ := hs.hd c
    rw [b1] at ht
    rw [b6, b7]
    exact h.gm.lim c hc ht
  · obtain ⟨b1, _, b3, _, _, b6, b7⟩ := hs.hd c
    rw [b1] at ht
    rw [b3] at hp
    have := h.gm.ali c hc ht hp
    unfold Ali at this ⊢
    rw [b1, b6, b7]
    exact this
  · rw [hs.rts] at ei ej
    rw [(hs.hd c).2.2.2.2.2.1, (hs.hd c).2.2.2.2.2.2, (hs.hd d).2.2.2.2.2.1]
    exact h.gm.rts i j c d hij hj ei ej
  · obtain ⟨b1, _, b3, _, _, b6, b7⟩ := hs.hd c
    rw [b1] at ht
    rw [b3, b6, b7]
    exact h.gm.fre c hc ht
  · rw [(hs.hd c).1] at ht
    have hlt : (s.hd c).gen < 4294967295 ∨ (s.hd c).gen ≥ 4294967295 := by omega
    rcases hlt with q | q
    · have := h.gm.idl c hc ht q
      unfold Idl at this ⊢
      rw [hs.idl]
      exact this
    · obtain ⟨gg, eg, _, g2, _⟩ := hge.gen c hc
      have em : (s.hd c).gen = 4294967295 := by omega
      have := (gm c hc).2 em
      omega
  · show s.lv k = _
    rw [h.ct.lv k k1 k7]
    exact (sumF_congr (fun i _ => by show one _ = one _; rw [(hs.hd i).1])).symm
  · show s.c0 = _
    rw [h.ct.c0]
    refine (sumF_congr (fun i hi => ?_)).symm
    show one _ = one _
    rw [(hs.hd i).1]
    by_cases q : (s.hd i).typ = 0 ∧ (s.hd i).gen = 4294967295
    · rw [one_pos q, one_pos ⟨q.1, (gm i (by omega)).2 q.2⟩]
    · rw [one_neg q, one_neg (fun z => q ⟨z.1, (gm i (by omega)).1 z.2⟩)]
  · show s.c1 = _
    rw [h.ct.c1]
    refine (sumF_congr (fun i hi => ?_)).symm
    show one _ = one _
    rw [(hs.hd i).1]
    by_cases q : 256 ≤ i ∧ (s.hd i).typ = 0 ∧ (s.hd i).gen = 4294967295
    · rw [one_pos q, one_pos ⟨q.1, q.2.1, (gm i hi).2 q.2.2⟩]
    · rw [one_neg q, one_neg (fun z => q ⟨z.1, z.2.1, (gm i hi).1 z.2.2⟩)]
  · show s.c2 = _
    rw [h.ct.c2]
    exact congrArg _ (sumF_congr (fun i _ => (hs.hd i).2.2.2.2.2.2)).symm
  · show s.c3 = _
    rw [h.ct.c3]
    refine congrArg _ (sumF_congr (fun i _ => ?_)).symm
    rw [(hs.hd i).2.2.1, (hs.hd i).2.2.2.2.2.2]
    unfold Lv
    rw [(hs.hd i).1]
  · have := h.ct.tl t t6
    rw [← this]
    exact congrArg _ (sumF_congr (fun i _ => by show one _ = one _; rw [(hs.hd i).1]))
end
end Go.Proofs.Qxb6500847aGreatDoor.Os
