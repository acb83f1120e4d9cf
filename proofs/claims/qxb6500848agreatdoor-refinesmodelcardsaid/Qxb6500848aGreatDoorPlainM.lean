/-
  The plain side of minterms.
-/
import Derived.Test.Qxb6500848aGreatDoorReps
namespace Go.Proofs.Qxb6500848aGreatDoor.Pl

theorem getD_zip {f : Nat → Nat → Nat} (h0 : f 0 0 = 0) : ∀ (s t : List Nat), s.length = t.length → ∀ i, (List.zipWith f s t).getD i 0 = f (s.getD i 0) (t.getD i 0)
  | [], [], _, i => by simp [h0]
  | a :: s, b :: t, h, 0 => by simp
  | a :: s, b :: t, h, i + 1 => by
    have := getD_zip h0 s t (by simpa using h) i
    simpa using this
  | [], _ :: _, h, _ => by simp at h
  | _ :: _, [], h, _ => by simp at h

theorem hasC_and {p s : List Nat} (h : p.length = s.length) (c : Int) : hasC (andL p s) c = (hasC p c && hasC s c) := by
  unfold hasC andL
  rw [getD_zip (by simp) p s h, Nat.testBit_and]
  cases decide (0 ≤ c) <;> cases decide (c ≤ 196607) <;> simp
theorem hasC_out {p s : List Nat} (h : p.length = s.length) (c : Int) : hasC (outL p s) c = (hasC p c && !hasC s c) := by
  unfold hasC outL
  rw [getD_zip (by simp) p s h, Nat.testBit_xor, Nat.testBit_and]
  cases decide (0 ≤ c) <;> cases decide (c ≤ 196607) <;> cases (p.getD (c.toNat / 64) 0).testBit (c.toNat % 64) <;> cases (s.getD (c.toNat / 64) 0).testBit (c.toNat % 64) <;> rfl

theorem hasC_alph {p : List Nat} {c : Int} (h : hasC p c = true) : 0 ≤ c ∧ c ≤ 196607 := by
  unfold hasC at h
  simp at h
  exact h.1

theorem hasC_at {p : List Nat} {j i : Nat} (hj : j < 3072) (hi : i < 64) : hasC p ((j * 64 + i : Nat) : Int) = (p.getD j 0).testBit i := by
  unfold hasC
  have h1 : (j * 64 + i) / 64 = j := by omega
  have h2 : (j * 64 + i) % 64 = i := by omega
  rw [Int.toNat_natCast, h1, h2]
  have h3 : decide ((0 : Int) ≤ ((j * 64 + i : Nat) : Int)) = true := decide_eq_true (by omega)
  have h4 : decide (((j * 64 + i : Nat) : Int) ≤ 196607) = true := decide_eq_true (by omega)
  rw [h3, h4]; rfl

theorem cl_ext {p q : List Nat} (hp : Cl p) (hq : Cl q) (h : ∀ c, hasC p c = hasC q c) : p = q := by
  apply List.ext_getElem
  · rw [hp.1, hq.1]
  · intro j h1 h2
    have hj : j < 3072 := by rw [← hp.1]; exact h1
    apply Nat.eq_of_testBit_eq
    intro i
    by_cases hi : i < 64
    · have := h ((j * 64 + i : Nat) : Int)
      rw [hasC_at hj hi, hasC_at hj hi, getD_lt h1, getD_lt h2] at this
      exact this
    · have e : ∀ (x : Nat), x < 2 ^ 64 → x.testBit i = false := fun x hx => Nat.testBit_lt_two_pow (Nat.lt_of_lt_of_le hx (Nat.pow_le_pow_right (by decide) (by omega)))
      rw [e _ (hp.2 _ (List.getElem_mem h1)), e _ (hq.2 _ (List.getElem_mem h2))]

theorem popc_ne {a : Nat} : popc a ≠ 0 ↔ ∃ i, i < 64 ∧ a.testBit i = true := by
  unfold popc
  rw [← Nat.pos_iff_ne_zero, List.countP_pos_iff]
  simp [List.mem_range]

theorem cnt_ne : ∀ {l : List Nat}, cnt l ≠ 0 ↔ ∃ j i, j < l.length ∧ i < 64 ∧ (l.getD j 0).testBit i = true
  | [] => by simp [cnt]
  | a :: l => by
    have ih := cnt_ne (l := l)
    have e : cnt (a :: l) = popc a + cnt l := by simp [cnt]
    constructor
    · intro h
      by_cases h1 : popc a = 0
      · obtain ⟨j, i, h2, h3, h4⟩ := ih.1 (by omega)
        exact ⟨j + 1, i, by simp; omega, h3, by simpa using h4⟩
      · obtain ⟨i, h2, h3⟩ := popc_ne.1 h1
        exact ⟨0, i, by simp, h2, by simpa using h3⟩
    · rintro ⟨j, i, h2, h3, h4⟩
      cases j with
      | zero =>
        have := popc_ne.2 ⟨i, h3, by simpa using h4⟩
        omega
      | succ j =>
        have := ih.2 ⟨j, i, by simpa using h2, h3, by simpa using h4⟩
        omega

theorem cnt_has {p : List Nat} (hp : Cl p) : cnt p ≠ 0 ↔ ∃ c, hasC p c = true := by
  rw [cnt_ne]
  constructor
  · rintro ⟨j, i, h1, h2, h3⟩
    exact ⟨_, (hasC_at (by rw [← hp.1]; exact h1) h2).trans h3⟩
  · rintro ⟨c, hc⟩
    have hb := hasC_alph hc
    refine ⟨c.toNat / 64, c.toNat % 64, by rw [hp.1]; omega, Nat.mod_lt _ (by decide), ?_⟩
    unfold hasC at hc
    simp at hc
    simpa using hc.2

/-- What a row of minterms of F keeps. -/
structure MT (F P : List (List Nat)) : Prop where
  good : ∀ p ∈ P, Cl p ∧ ∃ c, hasC p c = true
  cover : ∀ c : Int, 0 ≤ c → c ≤ 196607 → ∃ p ∈ P, hasC p c = true
  same : ∀ p ∈ P, ∀ c c', hasC p c = true → (hasC p c' = true ↔ (0 ≤ c' ∧ c' ≤ 196607) ∧ ∀ s ∈ F, hasC s c' = hasC s c)
  apart : P.Pairwise (fun p q => ∀ c, hasC p c = true → hasC q c = true → False)

theorem mem_spl {s p q : List Nat} (hp : Cl p) (hs : Cl s) : q ∈ spl s p ↔ (q = andL p s ∧ (∃ c, hasC p c = true ∧ hasC s c = true)) ∨ (q = outL p s ∧ ∃ c, hasC p c = true ∧ hasC s c = false) := by
  have hl : p.length = s.length := by rw [hp.1, hs.1]
  have h1 : cnt (andL p s) ≠ 0 ↔ ∃ c, hasC p c = true ∧ hasC s c = true := by
    rw [cnt_has (andL_cl hp hs)]
    simp [hasC_and hl]
  have h2 : cnt (outL p s) ≠ 0 ↔ ∃ c, hasC p c = true ∧ hasC s c = false := by
    rw [cnt_has (outL_cl hp hs)]
    simp [hasC_out hl]
  rw [← h1, ← h2]
  unfold spl
  by_cases a : cnt (andL p s) ≠ 0 <;> by_cases b : cnt (outL p s) ≠ 0 <;> simp [a, b]

theorem hasC_whole {c : Int} (h0 : 0 ≤ c) (h1 : c ≤ 196607) : hasC wholeL c = true := by
  unfold hasC wholeL
  have : c.toNat / 64 < 3072 := by omega
  have h2 : c.toNat % 64 < 64 := Nat.mod_lt _ (by decide)
  rw [getD_lt (by rw [List.length_replicate]; exact this), List.getElem_replicate]
  have e : (18446744073709551615 : Nat) = 2 ^ 64 - 1 := by decide
  rw [e, Nat.testBit_two_pow_sub_one]
  simp [h0, h1, h2]
theorem cl_whole : Cl wholeL := by
  refine ⟨List.length_replicate, fun b hb => ?_⟩
  rw [(List.mem_replicate.1 hb).2]; decide

theorem mt_nil : MT [] [wholeL] := by
  refine ⟨fun p hp => ?_, fun c h0 h1 => ⟨wholeL, by simp, hasC_whole h0 h1⟩, fun p hp c c' hc => ?_, by simp⟩
  · rw [List.mem_singleton.1 hp]
    exact ⟨cl_whole, 0, hasC_whole (by decide) (by decide)⟩
  · rw [List.mem_singleton.1 hp]
    exact ⟨fun h => ⟨hasC_alph h, by simp⟩, fun h => hasC_whole h.1.1 h.1.2⟩

theorem mt_snoc {F P : List (List Nat)} {s : List Nat} (h : MT F P) (hs : Cl s) : MT (F ++ [s]) (spls s P) := by
  have hin : ∀ q, q ∈ spls s P ↔ ∃ p ∈ P, q ∈ spl s p := fun q => by unfold spls; simp [List.mem_flatMap]
  have hl : ∀ p ∈ P, p.length = s.length := fun p hp => by rw [(h.good p hp).1.1, hs.1]
  refine ⟨fun q hq => ?_, fun c h0 h1 => ?_, fun q hq c c' hc => ?_, ?_⟩
  · obtain ⟨p, hp, hq⟩ := (hin q).1 hq
    have hg := (h.good p hp).1
    rcases (mem_spl hg hs).1 hq with ⟨rfl, c, h1, h2⟩ | ⟨rfl, c, h1, h2⟩
    · exact ⟨andL_cl hg hs, c, by rw [hasC_and (hl p hp), h1, h2]; rfl⟩
    · exact ⟨outL_cl hg hs, c, by rw [hasC_out (hl p hp), h1, h2]; rfl⟩
  · obtain ⟨p, hp, hc⟩ := h.cover c h0 h1
    have hg := (h.good p hp).1
    cases hsc : hasC s c
    · exact ⟨outL p s, (hin _).2 ⟨p, hp, (mem_spl hg hs).2 (Or.inr ⟨rfl, c, hc, hsc⟩)⟩, by rw [hasC_out (hl p hp), hc, hsc]; rfl⟩
    · exact ⟨andL p s, (hin _).2 ⟨p, hp, (mem_spl hg hs).2 (Or.inl ⟨rfl, c, hc, hsc⟩)⟩, by rw [hasC_and (hl p hp), hc, hsc]; rfl⟩
  · obtain ⟨p, hp, hq⟩ := (hin q).1 hq
    have hg := (h.good p hp).1
    have hall : (∀ t ∈ F ++ [s], hasC t c' = hasC t c) ↔ (∀ t ∈ F, hasC t c' = hasC t c) ∧ hasC s c' = hasC s c := by
      constructor
      · intro hh; exact ⟨fun t ht => hh t (List.mem_append_left _ ht), hh s (by simp)⟩
      · rintro ⟨h1, h2⟩ t ht
        rcases List.mem_append.1 ht with ht | ht
        · exact h1 t ht
        · rw [List.mem_singleton.1 ht]; exact h2
    rw [hall]
    rcases (mem_spl hg hs).1 hq with ⟨rfl, _, _, _⟩ | ⟨rfl, _, _, _⟩
    · rw [hasC_and (hl p hp)] at hc ⊢
      simp only [Bool.and_eq_true] at hc ⊢
      rw [h.same p hp c c' hc.1, hc.2]
      exact ⟨fun ⟨a, b⟩ => ⟨a.1, a.2, b⟩, fun ⟨a, b, d⟩ => ⟨⟨a, b⟩, d⟩⟩
    · rw [hasC_out (hl p hp)] at hc ⊢
      simp only [Bool.and_eq_true, Bool.not_eq_true'] at hc ⊢
      rw [h.same p hp c c' hc.1, hc.2]
      exact ⟨fun ⟨a, b⟩ => ⟨a.1, a.2, b⟩, fun ⟨a, b, d⟩ => ⟨⟨a, b⟩, d⟩⟩
  · unfold spls
    rw [List.pairwise_flatMap]
    have sub : ∀ p ∈ P, ∀ q ∈ spl s p, ∀ c, hasC q c = true → hasC p c = true := fun p hp q hq c hc => by
      have hg := (h.good p hp).1
      rcases (mem_spl hg hs).1 hq with ⟨rfl, _⟩ | ⟨rfl, _⟩
      · rw [hasC_and (hl p hp)] at hc; simp at hc; exact hc.1
      · rw [hasC_out (hl p hp)] at hc; simp at hc; exact hc.1
    refine ⟨fun p hp => ?_, h.apart.imp_of_mem (fun {p q} hp hq hpq x hx y hy c h1 h2 => hpq c (sub p hp x hx c h1) (sub q hq y hy c h2))⟩
    unfold spl
    by_cases a : cnt (andL p s) ≠ 0 <;> by_cases b : cnt (outL p s) ≠ 0 <;> simp [a, b]
    intro c h1
    rw [hasC_and (hl p hp)] at h1
    rw [hasC_out (hl p hp)]
    simp only [Bool.and_eq_true] at h1
    rw [h1.2]
    simp

theorem mt_all (F : List (List Nat)) (hF : ∀ s ∈ F, Cl s) : MT F (mtF F) := by
  suffices h : ∀ k, k ≤ F.length → MT (F.take k) (mtF (F.take k)) by
    have := h F.length (Nat.le_refl _)
    rwa [List.take_length] at this
  intro k
  induction k with
  | zero => intro _; simpa [mtF] using mt_nil
  | succ k ih =>
    intro hk
    rw [List.take_succ_eq_append_getElem (by omega), mtF_snoc]
    exact mt_snoc (ih (by omega)) (hF _ (List.getElem_mem _))

theorem MT.perm {F P Q : List (List Nat)} (h : MT F P) (hp : Q.Perm P) : MT F Q :=
  ⟨fun q hq => h.good q (hp.mem_iff.1 hq), fun c h0 h1 => by obtain ⟨p, a, b⟩ := h.cover c h0 h1; exact ⟨p, hp.mem_iff.2 a, b⟩, fun q hq => h.same q (hp.mem_iff.1 hq),
    hp.symm.pairwise h.apart (fun {x y} hxy c h1 h2 => hxy c h2 h1)⟩

/-! ### the least member -/
/-- What the table of math/bits has to say. -/
def TabOk (tab : Nat → Int) : Prop := ∀ k : Nat, k < 64 → tab (2 ^ k * 285870213051353865 % 18446744073709551616 / 288230376151711744) = (k : Int)

theorem low_bit (x : Nat) (h0 : x ≠ 0) : ∃ k m, x = 2 ^ k * (2 * m + 1) := by
  induction x using Nat.strongRecOn with
  | ind x ih =>
    by_cases e : x % 2 = 1
    · exact ⟨0, x / 2, by omega⟩
    · obtain ⟨k, m, hm⟩ := ih (x / 2) (by omega) (by omega)
      exact ⟨k + 1, m, by rw [Nat.pow_succ]; have : x = 2 * (x / 2) := by omega
                          rw [this, hm]; rw [Nat.mul_comm (2 ^ k) 2, Nat.mul_assoc]⟩

theorem low_and {x k m : Nat} (hx : x = 2 ^ k * (2 * m + 1)) (h64 : x < 2 ^ 64) : k < 64 ∧ x &&& (2 ^ 64 - x) = 2 ^ k := by
  have hp : 0 < 2 ^ k := Nat.two_pow_pos k
  have hk : k < 64 := by
    refine Nat.lt_of_not_le fun h => ?_
    have h1 : 2 ^ 64 ≤ 2 ^ k := Nat.pow_le_pow_right (by decide) h
    have h2 : 2 ^ k * 1 ≤ 2 ^ k * (2 * m + 1) := Nat.mul_le_mul_left _ (by omega)
    omega
  refine ⟨hk, ?_⟩
  have hx1 : 1 ≤ x := by
    rw [hx]; exact Nat.mul_pos hp (by omega)
  have hx' : x - 1 < 2 ^ 64 := by omega
  have e1 : 2 ^ 64 - x = 2 ^ 64 - ((x - 1) + 1) := by omega
  have hx2 : x - 1 = 2 ^ k * (2 * m) + (2 ^ k - 1) := by
    rw [hx, Nat.mul_add]; omega
  apply Nat.eq_of_testBit_eq
  intro i
  rw [Nat.testBit_and, e1, Nat.testBit_two_pow_sub_succ hx', Nat.testBit_two_pow]
  rw [hx2, Nat.testBit_two_pow_mul_add _ (by omega)]
  rw [hx, Nat.testBit_two_pow_mul]
  by_cases h1 : i < k
  · have : ¬ k ≤ i := by omega
    have h3 : ¬ k = i := by omega
    simp [this, h3]
  · have h2 : k ≤ i := by omega
    simp only [h2, decide_true, Bool.true_and, h1, if_false]
    by_cases e : k = i
    · subst e
      simp [hk]
    · obtain ⟨j, hj⟩ : ∃ j, i - k = j + 1 := ⟨i - k - 1, by omega⟩
      rw [hj]
      simp only [Nat.testBit_succ]
      have h3 : (2 * m + 1) / 2 = m := by omega
      have h4 : 2 * m / 2 = m := by omega
      rw [h3, h4]
      simp [e]
      intro a _
      exact a

theorem and_u64 (x y : Nat) (hx : x < 2 ^ 64) (hy : y < 2 ^ 64) : Go.bits .and .u64 (x : Int) (y : Int) = ((x &&& y : Nat) : Int) := and_nat x y hx hy

theorem tz_ok {tab : Nat → Int} (ht : TabOk tab) {x k m : Nat} (hx : x = 2 ^ k * (2 * m + 1)) (h64 : x < 2 ^ 64) : tzF tab x = (k : Int) := by
  obtain ⟨hk, ha⟩ := low_and hx h64
  have h0 : x ≠ 0 := by
    rw [hx]; exact Nat.ne_of_gt (Nat.mul_pos (Nat.two_pow_pos k) (by omega))
  unfold tzF
  rw [if_neg h0]
  have e1 : IntKind.u64.wrap (-(x : Int)) = ((2 ^ 64 - x : Nat) : Int) := by
    simp [IntKind.wrap, IntKind.bits, IntKind.signed]; omega
  have e2 : tzI x = ((2 ^ k * 285870213051353865 % 18446744073709551616 / 288230376151711744 : Nat) : Int) := by
    unfold tzI
    rw [e1, and_u64 _ _ h64 (by omega), ha]
    generalize 2 ^ k = q
    simp [IntKind.wrap, IntKind.bits, IntKind.signed]
  rw [e2, Int.toNat_natCast]
  exact ht k hk

theorem min_has {tab : Nat → Int} (ht : TabOk tab) {p : List Nat} (hp : Cl p) (hn : ∃ c, hasC p c = true) : hasC p (minF tab p) = true := by
  have hn' := cnt_pos ((cnt_has hp).2 hn)
  have hf := fz_lt hn'
  have h0 := fz_at hf
  have h64 := hp.2 _ (List.getElem_mem hf)
  obtain ⟨k, m, hx⟩ := low_bit _ h0
  obtain ⟨hk, _⟩ := low_and hx h64
  have e : minF tab p = ((fz p * 64 + k : Nat) : Int) := by
    unfold minF
    rw [getD_lt hf, tz_ok ht hx h64]
    omega
  rw [e, hasC_at (by rw [← hp.1]; exact hf) hk, getD_lt hf, hx, Nat.testBit_two_pow_mul]
  simp

/-! ### one row only -/
theorem sorted_eq {α : Type} {f : α → Int} : ∀ (P Q : List α), P.Pairwise (fun a b => f a < f b) → Q.Pairwise (fun a b => f a < f b) → (∀ x, x ∈ P ↔ x ∈ Q) → P = Q
  | [], [], _, _, _ => rfl
  | [], q :: Q, _, _, h => absurd ((h q).2 (by simp)) (by simp)
  | p :: P, [], _, _, h => absurd ((h p).1 (by simp)) (by simp)
  | p :: P, q :: Q, hP, hQ, h => by
    rw [List.pairwise_cons] at hP hQ
    have e : p = q := by
      rcases List.mem_cons.1 ((h p).1 (by simp)) with e | e
      · exact e
      · rcases List.mem_cons.1 ((h q).2 (by simp)) with e' | e'
        · exact e'.symm
        · have h1 := hQ.1 p e
          have h2 := hP.1 q e'
          omega
    subst e
    rw [sorted_eq P Q hP.2 hQ.2 (fun x => ?_)]
    constructor
    · intro hx
      rcases List.mem_cons.1 ((h x).1 (List.mem_cons_of_mem _ hx)) with e | e
      · subst e; have := hP.1 x hx; omega
      · exact e
    · intro hx
      rcases List.mem_cons.1 ((h x).2 (List.mem_cons_of_mem _ hx)) with e | e
      · subst e; have := hQ.1 x hx; omega
      · exact e

theorem mt_mem {F G P Q : List (List Nat)} (h : MT F P) (k : MT G Q) (e : ∀ s, s ∈ F ↔ s ∈ G) {p : List Nat} (hp : p ∈ P) : p ∈ Q := by
  obtain ⟨hg, c, hc⟩ := h.good p hp
  have hb := hasC_alph hc
  obtain ⟨q, hq, hqc⟩ := k.cover c hb.1 hb.2
  have : p = q := by
    refine cl_ext hg (k.good q hq).1 fun c' => Bool.eq_iff_iff.2 ?_
    rw [h.same p hp c c' hc, k.same q hq c c' hqc]
    simp only [e]
  rw [this]; exact hq

/-- A row of minterms, sorted. -/
structure Cutd (tab : Nat → Int) (F P : List (List Nat)) : Prop where
  mt : MT F P
  up : P.Pairwise (fun p q => minF tab p < minF tab q)

theorem cutd_of {tab : Nat → Int} (ht : TabOk tab) {F P : List (List Nat)} (hF : ∀ s ∈ F, Cl s) (hp : P.Perm (mtF F)) (hs : P.Pairwise (fun p q => minF tab p ≤ minF tab q)) : Cutd tab F P := by
  have hm := (mt_all F hF).perm hp
  refine ⟨hm, (hs.and hm.apart).imp_of_mem (fun {p q} hp hq h => ?_)⟩
  refine Classical.byContradiction fun e0 => ?_
  have e : minF tab p = minF tab q := by have := h.1; omega
  have h1 := min_has ht (hm.good p hp).1 (hm.good p hp).2
  have h2 := min_has ht (hm.good q hq).1 (hm.good q hq).2
  rw [← e] at h2
  exact h.2 _ h1 h2

theorem Cutd.uniq {tab : Nat → Int} {F G P Q : List (List Nat)} (h : Cutd tab F P) (k : Cutd tab G Q) (e : ∀ s, s ∈ F ↔ s ∈ G) : P = Q :=
  sorted_eq P Q h.up k.up fun _ => ⟨mt_mem h.mt k.mt e, mt_mem k.mt h.mt (fun s => (e s).symm)⟩

/-- P is the cut of x. -/
def IsCut (tab : Nat → Int) (A : List Nd) (x : Int) (P : List (List Nat)) : Prop := ∃ F, (∀ s ∈ F, Cl s) ∧ IsCls A x F ∧ Cutd tab F P

theorem isCut_of {tab : Nat → Int} (ht : TabOk tab) {A : List Nd} {x : Int} {P : List (List Nat)} (h : Mts tab A x P) : IsCut tab A x P := by
  obtain ⟨_, F, h1, h2, h3, h4⟩ := h
  exact ⟨F, h1, h2, cutd_of ht h1 h3 h4⟩
theorem IsCut.uniq {tab : Nat → Int} {A : List Nd} {x : Int} {P Q : List (List Nat)} (h : IsCut tab A x P) (k : IsCut tab A x Q) : P = Q := by
  obtain ⟨F, h1, h2, h3⟩ := h
  obtain ⟨G, k1, k2, k3⟩ := k
  exact h3.uniq k3 fun s => (h2 s).trans (k2 s).symm

theorem Rch.le {A B : List Nd} (hA : Wf A) (hAB : Le A B) {x : Int} (hx : Valid A x) {y : Int} : (Rch A x y ↔ Rch B x y) ∧ (Rch A x y → Valid A y) := by
  have h1 : Rch A x y → Valid A y := fun h => by
    induction h with
    | refl => exact hx
    | step h hk ih => exact (hA.kidValid ih hk).1
  refine ⟨⟨fun h => ?_, fun h => ?_⟩, h1⟩
  · clear h1
    have : Valid A y ∧ Rch B x y := by
      induction h with
      | refl => exact ⟨hx, .refl⟩
      | step h hk ih => exact ⟨(hA.kidValid ih.1 hk).1, .step ih.2 (by rw [hAB.node ih.1]; exact hk)⟩
    exact this.2
  · clear h1
    have : Valid A y ∧ Rch A x y := by
      induction h with
      | refl => exact ⟨hx, .refl⟩
      | step h hk ih =>
        rw [hAB.node ih.1] at hk
        exact ⟨(hA.kidValid ih.1 hk).1, .step ih.2 hk⟩
    exact this.2

theorem IsCls.le {A B : List Nd} (hA : Wf A) (hAB : Le A B) {x : Int} (hx : Valid A x) {F : List (List Nat)} (h : IsCls A x F) : IsCls B x F := fun l => by
  rw [h l]
  constructor
  · rintro ⟨y, h1, h2, h3⟩
    have := Rch.le hA hAB hx (y := y)
    exact ⟨y, this.1.1 h1, by rw [hAB.node (this.2 h1)]; exact h2, by rw [hAB.node (this.2 h1)]; exact h3⟩
  · rintro ⟨y, h1, h2, h3⟩
    have := Rch.le hA hAB hx (y := y)
    have hr := this.1.2 h1
    rw [hAB.node (this.2 hr)] at h2 h3
    exact ⟨y, hr, h2, h3⟩
theorem IsCut.le {tab : Nat → Int} {A B : List Nd} (hA : Wf A) (hAB : Le A B) {x : Int} (hx : Valid A x) {P : List (List Nat)} (h : IsCut tab A x P) : IsCut tab B x P := by
  obtain ⟨F, h1, h2, h3⟩ := h
  exact ⟨F, h1, h2.le hA hAB hx, h3⟩

/-! ### derivatives see the classes only -/
/-- No class that is met from x tells c from c'. -/
def Agree (A : List Nd) (c c' : Int) (x : Int) : Prop := ∀ y, Rch A x y → (nodeAt A y).kind = 3 → hasC (nodeAt A y).bits c = hasC (nodeAt A y).bits c'

theorem Rch.head {A : List Nd} {x k y : Int} (hk : k ∈ (nodeAt A x).kids) (h : Rch A k y) : Rch A x y := by
  induction h with
  | refl => exact .step .refl hk
  | step h hk ih => exact .step ih hk
theorem Agree.kid {A : List Nd} {c c' x : Int} (h : Agree A c c' x) {i : Nat} (hi : i < (nodeAt A x).kids.length) : Agree A c c' (kid (nodeAt A x) i) := fun y hy => h y (hy.head (getD_mem hi))

theorem IsCut.agree {tab : Nat → Int} {A : List Nd} {x : Int} {P : List (List Nat)} (h : IsCut tab A x P) {p : List Nat} (hp : p ∈ P) {c c' : Int} (h1 : hasC p c = true) (h2 : hasC p c' = true) : Agree A c c' x := by
  obtain ⟨F, _, hF, hC⟩ := h
  intro y hy h3
  exact (((hC.mt.same p hp c c' h1).1 h2).2 _ ((hF _).2 ⟨y, hy, h3, rfl⟩)).symm

theorem Der.agree {A : List Nd} (hA : Wf A) {c c' x z : Int} (h : Der A c x z) : Valid A x → Agree A c c' x → Der A c' x z := by
  induction h with
  | none h => intro _ _; exact .none h
  | all h => intro _ _; exact .all h
  | cls h hz => intro _ ha; exact .cls h (by rw [← ha _ .refl h]; exact hz)
  | cat1 h hd hn hv ih =>
    intro hx ha
    have hl := len2 hA hx h
    exact .cat1 h (ih (kid_valid hA hx (by omega)).1 (ha.kid (by omega))) hn hv
  | cat2 h hd hn hf he hv ih ih2 =>
    intro hx ha
    have hl := len2 hA hx h
    exact .cat2 h (ih (kid_valid hA hx (by omega)).1 (ha.kid (by omega))) hn hf (ih2 (kid_valid hA hx (by omega)).1 (ha.kid (by omega))) hv
  | uni h ds hl hd hv ih =>
    intro hx ha
    exact .uni h ds hl (fun i hi => ih i hi (kid_valid hA hx (by omega)).1 (ha.kid (by omega))) hv
  | int h ds hl hd hv ih =>
    intro hx ha
    exact .int h ds hl (fun i hi => ih i hi (kid_valid hA hx (by omega)).1 (ha.kid (by omega))) hv
  | comp h hd hv ih =>
    intro hx ha
    have hl := len1 hA hx (Or.inl h)
    exact .comp h (ih (kid_valid hA hx (by omega)).1 (ha.kid (by omega))) hv
  | dead h hd ih =>
    intro hx ha
    have hl := len1 hA hx (Or.inr h)
    exact .dead h (ih (kid_valid hA hx (by omega)).1 (ha.kid (by omega)))
  | star h hd h0 hv ih =>
    intro hx ha
    have hl := len1 hA hx (Or.inr (Or.inl h))
    exact .star h (ih (kid_valid hA hx (by omega)).1 (ha.kid (by omega))) h0 hv
  | loop h hd h0 hr hv ih =>
    intro hx ha
    have hl := len1 hA hx (Or.inr (Or.inr h))
    exact .loop h (ih (kid_valid hA hx (by omega)).1 (ha.kid (by omega))) h0 hr hv

/-! ### one derivative only -/
theorem Val.uniq {A : List Nd} (hA : Wf A) {nf : Nf} {z z' : Int} (h : Val A nf z) (h' : Val A nf z') : z = z' := by
  cases nf with
  | id x => exact h.1.symm.trans h'.1
  | nd n =>
    have e : A[z.toNat]'h.1.2 = A[z'.toNat]'h'.1.2 := by
      have h1 := h.2
      have h2 := h'.2
      unfold nodeAt at h1 h2
      rw [getD_lt h.1.2] at h1
      rw [getD_lt h'.1.2] at h2
      rw [h1, h2]
    have := hA.uniq _ _ h.1.2 h'.1.2 e
    have a := h.1.1
    have b := h'.1.1
    omega

theorem Der.uniq {A : List Nd} (hA : Wf A) {c x z : Int} (h : Der A c x z) : ∀ {z'}, Der A c x z' → z = z' := by
  induction h with
  | none h =>
    intro z' k
    cases k with
    | none k1 => rfl
    | _ => omega
  | all h =>
    intro z' k
    cases k with
    | all k1 => rfl
    | _ => omega
  | cls h hz =>
    intro z' k
    cases k with
    | cls k1 k2 => rw [hz, k2]
    | _ => omega
  | cat1 h hd hn hv ih =>
    intro z' k
    cases k with
    | cat1 k1 k2 k3 k4 => obtain rfl := ih k2; exact hv.uniq hA k4
    | cat2 k1 k2 k3 k4 k5 k6 => exact absurd k3 hn
    | _ => omega
  | cat2 h hd hn hf he hv ih ih2 =>
    intro z' k
    cases k with
    | cat1 k1 k2 k3 k4 => exact absurd hn k3
    | cat2 k1 k2 k3 k4 k5 k6 =>
      obtain rfl := ih k2
      obtain rfl := ih2 k5
      obtain rfl := hf.uniq hA k4
      exact hv.uniq hA k6
    | _ => omega
  | uni h ds hl hd hv ih =>
    intro z' k
    cases k with
    | uni k1 ds' k2 k3 k4 =>
      have : ds = ds' := by
        apply List.ext_getElem
        · omega
        · intro i h1 h2
          have := ih i h1 (k3 i h2)
          rwa [getD_lt h1, getD_lt h2] at this
      subst this
      exact hv.uniq hA k4
    | _ => omega
  | int h ds hl hd hv ih =>
    intro z' k
    cases k with
    | int k1 ds' k2 k3 k4 =>
      have : ds = ds' := by
        apply List.ext_getElem
        · omega
        · intro i h1 h2
          have := ih i h1 (k3 i h2)
          rwa [getD_lt h1, getD_lt h2] at this
      subst this
      exact hv.uniq hA k4
    | _ => omega
  | comp h hd hv ih =>
    intro z' k
    cases k with
    | comp k1 k2 k3 => obtain rfl := ih k2; exact hv.uniq hA k3
    | _ => omega
  | dead h hd ih =>
    intro z' k
    cases k with
    | dead k1 k2 => rfl
    | star k1 k2 k3 k4 => exact absurd (ih k2).symm k3
    | loop k1 k2 k3 k4 k5 => exact absurd (ih k2).symm k3
    | _ => omega
  | star h hd h0 hv ih =>
    intro z' k
    cases k with
    | dead k1 k2 => exact absurd (ih k2) h0
    | star k1 k2 k3 k4 => obtain rfl := ih k2; exact hv.uniq hA k4
    | _ => omega
  | loop h hd h0 hr hv ih =>
    intro z' k
    cases k with
    | dead k1 k2 => exact absurd (ih k2) h0
    | loop k1 k2 k3 k4 k5 =>
      obtain rfl := ih k2
      obtain rfl := hr.uniq hA k4
      exact hv.uniq hA k5
    | _ => omega
end Go.Proofs.Qxb6500848aGreatDoor.Pl
