/-
  Decode: places and counters while the entries are read.
-/
import Derived.Test.Qxb6500847aGreatDoorOxF
import Derived.Test.Qxb6500847aGreatDoorOxG
import Derived.Test.Qxb6500847aGreatDoorOsDn
namespace Go.Proofs.Qxb6500847aGreatDoor.Os
open Go.RowKit FloorA
set_option maxRecDepth 100000
section
variable {s s1 s2 : Av} {tl tl1 : Nat → List Int} {ws ws1 : Nat → Nat → Nat → Int} {L : Nat → List Nat} {n i k fl c : Nat}
/-- Nothing is linked. -/
def Gm0 (s : Av) : Prop := Gm s (fun _ => []) 0
def Ct0 (s : Av) (tl : Nat → List Int) : Prop := Ct s tl (fun _ => False)
theorem Gm0.hdr (h : Gm0 s) (h1 : ∀ x, (s2.hd x).typ = (s.hd x).typ ∧ (s2.hd x).bas = (s.hd x).bas ∧ (s2.hd x).siz = (s.hd x).siz ∧ (s2.hd x).par = (s.hd x).par) (hrg : s2.rg = s.rg) (hi : ∀ c, c < 320 → (s.hd c).typ = 0 → (s2.hd c).gen < 4294967295 → Idl s2 c) : Gm0 s2 := by
  have hreg : ∀ {p}, IsReg s2 p → IsReg s p := fun q => ⟨q.1, q.2.1, by rw [← (h1 _).1]; exact q.2.2⟩
  refine ⟨fun p hp => ?_, fun c hc ht => ?_, fun c hc ht hp => ?_, fun i j _ _ _ hj => absurd hj (Nat.not_lt_zero _), fun c hc ht => ?_, fun c hc ht hg => ?_⟩
  · obtain ⟨a, b⟩ := h.chn p (hreg hp)
    obtain ⟨_, e2, e3, _⟩ := h1 p
    rw [e2, e3, hrg]
    exact ⟨a, b⟩
  · obtain ⟨e1, e2, e3, _⟩ := h1 c
    rw [e1] at ht
    rw [e2, e3]
    exact h.lim c hc ht
  · obtain ⟨e1, e2, e3, e4⟩ := h1 c
    rw [e1] at ht
    rw [e4] at hp
    have := h.ali c hc ht hp
    unfold Ali at this ⊢
    rw [e1, e2, e3]
    exact this
  · obtain ⟨e1, e2, e3, e4⟩ := h1 c
    rw [e1] at ht
    rw [e2, e3, e4]
    exact h.fre c hc ht
  · rw [(h1 c).1] at ht
    exact hi c hc ht hg
theorem sf_same4 (s : Av) (i : Nat) (g : Int) (x : Nat) : ((sfS s i g).hd x).typ = (s.hd x).typ ∧ ((sfS s i g).hd x).bas = (s.hd x).bas ∧ ((sfS s i g).hd x).siz = (s.hd x).siz ∧ ((sfS s i g).hd x).par = (s.hd x).par := by
  rw [sf_hd]
  split
  · next e => subst e; exact ⟨rfl, rfl, rfl, rfl⟩
  · exact ⟨rfl, rfl, rfl, rfl⟩
theorem Gm0.sf (h : Gm0 s) (hi : i < 320) {g : Int} (hid : Idl s i) : Gm0 (sfS s i g) := by
  refine h.hdr (sf_same4 s i g) (sf_same s i g).1 (fun c hc ht hg => ?_)
  rw [sf_idl]
  rw [sf_hd] at hg
  by_cases e : c = i
  · subst e
    rw [if_pos rfl] at hg
    have hg' : g < 4294967295 := hg
    exact ⟨hid, fun q => by omega⟩
  · rw [if_neg e] at hg
    exact ⟨h.idl c hc ht hg, fun _ => e⟩
theorem Gm0.gen (h : Gm0 s) (hid : Idl s i) (g : Int) : Gm0 (genS s i g) := by
  refine h.hdr (fun x => ?_) rfl (fun c hc ht hg => ?_)
  · rw [gen_hd]
    split
    · next e => subst e; exact ⟨rfl, rfl, rfl, rfl⟩
    · exact ⟨rfl, rfl, rfl, rfl⟩
  · rw [gen_hd] at hg
    by_cases e : c = i
    · subst e; exact hid
    · rw [if_neg e] at hg
      exact h.idl c hc ht hg
theorem Gm0.par (h : Gm0 s) (ht : (s.hd i).typ ≠ 0) {p : Int} (ha : p ≠ 65535 → Ali (s.hd i)) : Gm0 (parS s i p) := by
  have e : ∀ x, ((parS s i p).hd x).typ = (s.hd x).typ ∧ ((parS s i p).hd x).bas = (s.hd x).bas ∧ ((parS s i p).hd x).siz = (s.hd x).siz ∧ ((parS s i p).hd x).gen = (s.hd x).gen := fun x => by
    rw [par_hd]
    split
    · next e => subst e; exact ⟨rfl, rfl, rfl, rfl⟩
    · exact ⟨rfl, rfl, rfl, rfl⟩
  refine ⟨fun q hq => ?_, fun c hc ht => ?_, fun c hc ht hp => ?_, fun i j _ _ _ hj => absurd hj (Nat.not_lt_zero _), fun c hc ht' => ?_, fun c hc ht' hg => ?_⟩
  · obtain ⟨a, b⟩ := h.chn q ⟨hq.1, hq.2.1, by rw [← (e q).1]; exact hq.2.2⟩
    rw [(e q).2.1, (e q).2.2.1]
    exact ⟨a, b⟩
  · rw [(e c).1] at ht
    rw [(e c).2.1, (e c).2.2.1]
    exact h.lim c hc ht
  · have key : Ali (s.hd c) := by
      by_cases q : c = i
      · subst q
        rw [par_hd, if_pos rfl] at hp
        exact ha hp
      · rw [(e c).1] at ht
        rw [par_hd, if_neg q] at hp
        exact h.ali c hc ht hp
    unfold Ali at key ⊢
    rw [(e c).1, (e c).2.1, (e c).2.2.1]
    exact key
  · rw [(e c).1] at ht'
    have q : c ≠ i := fun q => ht (by rw [← q]; exact ht')
    rw [par_hd, if_neg q]
    exact h.fre c hc ht'
  · rw [(e c).1] at ht'
    rw [(e c).2.2.2] at hg
    exact h.idl c hc ht' hg
/-- Headers that count alike. -/
theorem Ct0.hdr (h : Ct0 s tl) (h1 : ∀ x, (s2.hd x).typ = (s.hd x).typ ∧ (s2.hd x).siz = (s.hd x).siz) (hg : ∀ x, x < 320 → (s.hd x).typ = 0 → ((s2.hd x).gen = 4294967295 ↔ (s.hd x).gen = 4294967295)) (hc : s2.lv = s.lv ∧ s2.c0 = s.c0 ∧ s2.c1 = s.c1 ∧ s2.c2 = s.c2 ∧ s2.c3 = s.c3) : Ct0 s2 tl := by
  obtain ⟨c1, c2, c3, c4, c5⟩ := hc
  refine ⟨by rw [c1]; exact h.l0, fun k k1 k7 => ?_, ?_, ?_, ?_, ?_, fun t t6 => ?_⟩
  · rw [c1, h.lv k k1 k7]
    exact (sumF_congr (fun i _ => by show one _ = one _; rw [(h1 i).1])).symm
  · rw [c2, h.c0]
    refine (sumF_congr (fun i hi => ?_)).symm
    show one _ = one _
    rw [(h1 i).1]
    by_cases q : (s.hd i).typ = 0 ∧ (s.hd i).gen = 4294967295
    · rw [one_pos q, one_pos ⟨q.1, (hg i (by omega) q.1).2 q.2⟩]
    · rw [one_neg q, one_neg (fun z => q ⟨z.1, (hg i (by omega) z.1).1 z.2⟩)]
  · rw [c3, h.c1]
    refine (sumF_congr (fun i hi => ?_)).symm
    show one _ = one _
    rw [(h1 i).1]
    by_cases q : 256 ≤ i ∧ (s.hd i).typ = 0 ∧ (s.hd i).gen = 4294967295
    · rw [one_pos q, one_pos ⟨q.1, q.2.1, (hg i hi q.2.1).2 q.2.2⟩]
    · rw [one_neg q, one_neg (fun z => q ⟨z.1, z.2.1, (hg i hi z.2.1).1 z.2.2⟩)]
  · rw [c4, h.c2]
    exact congrArg _ (sumF_congr (fun i _ => (h1 i).2)).symm
  · rw [c5, h.c3]
    exact congrArg _ (sumF_congr (fun i _ => by rw [siF_neg (fun q => q.1), siF_neg (fun q => q.1)])).symm
  · have := h.tl t t6
    rw [← this]
    exact congrArg _ (sumF_congr (fun i _ => by show one _ = one _; rw [(h1 i).1]))
theorem Ct0.gen (h : Ct0 s tl) (hi : (s.hd i).gen ≠ 4294967295) {g : Int} (hg : g ≠ 4294967295) : Ct0 (genS s i g) tl := by
  refine h.hdr (fun x => ?_) (fun x _ _ => ?_) ⟨rfl, rfl, rfl, rfl, rfl⟩
  · rw [gen_hd]
    split
    · next e => subst e; exact ⟨rfl, rfl⟩
    · exact ⟨rfl, rfl⟩
  · rw [gen_hd]
    by_cases e : x = i
    · subst e
      rw [if_pos rfl]
      exact ⟨fun q => absurd q hg, fun q => absurd q hi⟩
    · rw [if_neg e]
theorem Ct0.par (h : Ct0 s tl) (i : Nat) (p : Int) : Ct0 (parS s i p) tl := by
  refine h.hdr (fun x => ?_) (fun x _ _ => ?_) ⟨rfl, rfl, rfl, rfl, rfl⟩
  · rw [par_hd]
    split
    · next e => subst e; exact ⟨rfl, rfl⟩
    · exact ⟨rfl, rfl⟩
  · rw [par_hd]
    split
    · next e => subst e; exact Iff.rfl
    · exact Iff.rfl
theorem Ct0.sf (h : Ct0 s tl) (hi : i < 320) (ht : (s.hd i).typ = 0) (hg : (s.hd i).gen ≠ 4294967295) (g : Int) : Ct0 (sfS s i g) tl := by
  by_cases q : g = 4294967295
  · have hh := sf_same4 s i g
    have e0 : ∀ x, x ≠ i → (sfS s i g).hd x = s.hd x := fun x e => by rw [sf_hd, if_neg e]
    have ei : ((sfS s i g).hd i).gen = 4294967295 := by rw [sf_hd, if_pos rfl]; exact q
    have cb0 : 0 ≤ s.c0 ∧ s.c0 ≤ 256 := by rw [h.c0]; exact sumF_one (fun i _ => one_01 _)
    have cb1 : 0 ≤ s.c1 ∧ s.c1 ≤ 320 := by rw [h.c1]; exact sumF_one (fun i _ => one_01 _)
    have ec : (sfS s i g).lv = s.lv ∧ (sfS s i g).c0 = (if 256 ≤ i then s.c0 else wrap64 (s.c0 + 1)) ∧ (sfS s i g).c1 = (if 256 ≤ i then wrap64 (s.c1 + 1) else s.c1) ∧ (sfS s i g).c2 = s.c2 ∧ (sfS s i g).c3 = s.c3 := by
      unfold sfS
      rw [if_pos q]
      by_cases c : 256 ≤ i
      · rw [if_pos c, if_pos c, if_pos c]; exact ⟨rfl, rfl, rfl, rfl, rfl⟩
      · rw [if_neg c, if_neg c, if_neg c]; exact ⟨rfl, rfl, rfl, rfl, rfl⟩
    obtain ⟨c1, c2, c3, c4, c5⟩ := ec
    refine ⟨by rw [c1]; exact h.l0, fun k k1 k7 => ?_, ?_, ?_, ?_, ?_, fun t t6 => ?_⟩
    · rw [c1, h.lv k k1 k7]
      exact (sumF_congr (fun i _ => by show one _ = one _; rw [(hh i).1])).symm
    · rw [c2]
      by_cases c : 256 ≤ i
      · rw [if_pos c, h.c0]
        exact (sumF_congr (fun x hx => by show one _ = one _; rw [e0 x (by omega)])).symm
      · rw [if_neg c, sumF_upd (f := fun i => one ((s.hd i).typ = 0 ∧ (s.hd i).gen = 4294967295)) (c := i) (by omega) (fun x _ hx => by show one _ = one _; rw [e0 x hx]), ← h.c0]
        rw [one_neg (p := (s.hd i).typ = 0 ∧ _) (fun z => hg z.2), one_pos ⟨by rw [(hh i).1]; exact ht, ei⟩]
        unfold wrap64; omega
    · rw [c3]
      rw [sumF_upd (f := fun i => one (256 ≤ i ∧ (s.hd i).typ = 0 ∧ (s.hd i).gen = 4294967295)) (c := i) hi (fun x _ hx => by show one _ = one _; rw [e0 x hx]), ← h.c1, one_neg (p := 256 ≤ i ∧ (s.hd i).typ = 0 ∧ _) (fun z => hg z.2.2)]
      by_cases c : 256 ≤ i
      · rw [if_pos c, one_pos ⟨c, by rw [(hh i).1]; exact ht, ei⟩]
        unfold wrap64; omega
      · rw [if_neg c, one_neg (fun z => c z.1)]
        omega
    · rw [c4, h.c2]
      exact congrArg _ (sumF_congr (fun i _ => (hh i).2.2.1)).symm
    · rw [c5, h.c3]
      exact congrArg _ (sumF_congr (fun i _ => by rw [siF_neg (fun q => q.1), siF_neg (fun q => q.1)])).symm
    · have := h.tl t t6
      rw [← this]
      exact congrArg _ (sumF_congr (fun i _ => by show one _ = one _; rw [(hh i).1]))
  · have e : sfS s i g = genS s i g := by unfold sfS; rw [if_neg q]
    rw [e]
    exact h.gen hg q
/-- The fresh arena. -/
theorem sumF_zero {f : Nat → Int} : ∀ {n : Nat}, (∀ i, i < n → f i = 0) → sumF f n = 0
  | 0, _ => rfl
  | n + 1, h => by
    show sumF f n + f n = 0
    rw [sumF_zero (fun i hi => h i (by omega)), h n (by omega)]
    rfl
theorem Fresh.gm0 {rb sb : Nat → Nat} (h : Fresh s rb sb 320) : Gm0 s := by
  have t0 : ∀ x, x < 320 → (s.hd x).typ = 0 := fun x hx => by rw [h.hd x hx]; rfl
  refine ⟨fun p hp => ?_, fun c hc ht => absurd (t0 c hc) ht, fun c hc ht => absurd (t0 c hc) ht, fun i j _ _ _ hj => absurd hj (Nat.not_lt_zero _), fun c hc _ => by rw [h.hd c hc]; exact ⟨rfl, rfl, rfl⟩, fun c hc _ _ => (h.idl c hc).2 hc⟩
  have := hp.2.2
  rw [t0 p hp.2.1] at this
  exact absurd this (by decide)
theorem Fresh.ct0 {rb sb : Nat → Nat} (h : Fresh s rb sb 320) : Ct0 s tl0 := by
  have t0 : ∀ x, x < 320 → (s.hd x).typ = 0 := fun x hx => by rw [h.hd x hx]; rfl
  have g0 : ∀ x, x < 320 → (s.hd x).gen = 1 := fun x hx => by rw [h.hd x hx]; rfl
  have z0 : ∀ x, x < 320 → (s.hd x).siz = 0 := fun x hx => by rw [h.hd x hx]; rfl
  obtain ⟨n1, n2, n3, n4, n5⟩ := h.cn
  refine ⟨n1 0 (by omega), fun k k1 k7 => ?_, ?_, ?_, ?_, ?_, fun t t6 => ?_⟩
  · rw [n1 k (by omega), sumF_zero (fun i hi => one_neg (by rw [t0 i hi]; omega))]
  · rw [n2, sumF_zero (fun i hi => one_neg (fun q => by have := q.2; rw [g0 i (by omega)] at this; omega))]
  · rw [n3, sumF_zero (fun i hi => one_neg (fun q => by have := q.2.2; rw [g0 i hi] at this; omega))]
  · rw [n4, sumF_zero (fun i hi => z0 i (by omega))]
    rfl
  · rw [n5, sumF_zero (fun i hi => siF_neg (fun q => q.1) _)]
    rfl
  · rw [sumF_zero (fun i hi => one_neg (by rw [t0 i hi]; omega))]
    unfold tl0
    simp
theorem Fresh.ix {rb sb : Nat → Nat} (h : Fresh s rb sb 320) : IX s tl0 (fun _ => []) 0 :=
  ⟨h.gm0, Ct.congrD h.ct0 (fun x hx => ⟨fun q => q.elim, fun q => q (by rw [h.hd x hx]; rfl)⟩)⟩
end
end Go.Proofs.Qxb6500847aGreatDoor.Os
