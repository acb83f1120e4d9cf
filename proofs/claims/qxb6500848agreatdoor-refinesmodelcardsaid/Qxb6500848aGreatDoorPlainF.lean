/-
  The plain side: what Antimirov's derivatives can be, and how many.
-/
import Derived.Test.Qxb6500848aGreatDoorPlainD
namespace Go.Proofs.Qxb6500848aGreatDoor.Pl

theorem Thens.uniq {A : List Nd} (hA : Wf A) {l : List Int} {t : Int} {qs qs' : List Int} (h : Thens A l t qs) (k : Thens A l t qs') : qs = qs' := by
  apply List.ext_getElem
  · rw [h.1, k.1]
  · intro i h1 h2
    exact (h.2 i (by have := h.1; omega) h1).uniq hA (k.2 i (by have := h.1; omega) h2)

theorem Par.uniq {A : List Nd} (hA : Wf A) {c x : Int} {z : List Int} (h : Par A c x z) : ∀ {z'}, Par A c x z' → z = z' := by
  induction h with
  | none h =>
    intro z' k
    cases k with
    | none k1 => rfl
    | _ => omega
  | all h =>
    intro z' k
    cases k with
    | all k1 => rfl
    | _ => omega
  | cls h hz =>
    intro z' k
    cases k with
    | cls k1 k2 => rw [hz, k2]
    | _ => omega
  | cat1 h hd hn hv hz ih =>
    intro z' k
    cases k with
    | cat1 k1 k2 k3 k4 k5 => obtain rfl := ih k2; rw [hz, k5, hv.uniq hA k4]
    | cat2 k1 k2 k3 k4 k5 k6 => exact absurd k3 hn
    | _ => omega
  | cat2 h hd hn hf he hz ih ih2 =>
    intro z' k
    cases k with
    | cat1 k1 k2 k3 k4 => exact absurd hn k3
    | cat2 k1 k2 k3 k4 k5 k6 =>
      obtain rfl := ih k2
      obtain rfl := ih2 k5
      rw [hz, k6, hf.uniq hA k4]
    | _ => omega
  | uni h ls hl hd hz ih =>
    intro z' k
    cases k with
    | uni k1 ls' k2 k3 k4 =>
      have : ls = ls' := by
        apply List.ext_getElem
        · omega
        · intro i h1 h2
          have := ih i h1 (k3 i h2)
          rwa [getD_lt h1, getD_lt h2] at this
      subst this
      rw [hz, k4]
    | _ => omega
  | dead h hd ih =>
    intro z' k
    cases k with
    | dead k1 k2 => rfl
    | star k1 k2 k3 k4 => exact absurd (ih k2).symm k3
    | loop k1 k2 k3 k4 k5 => exact absurd (ih k2).symm k3
    | _ => omega
  | star h hd h0 hv hz ih =>
    intro z' k
    cases k with
    | dead k1 k2 => exact absurd (ih k2) h0
    | star k1 k2 k3 k4 k5 => obtain rfl := ih k2; rw [hz, k5, hv.uniq hA k4]
    | _ => omega
  | loop h hd h0 hr hv hz ih =>
    intro z' k
    cases k with
    | dead k1 k2 => exact absurd (ih k2) h0
    | loop k1 k2 k3 k4 k5 k6 =>
      obtain rfl := ih k2
      obtain rfl := hr.uniq hA k4
      rw [hz, k6, hv.uniq hA k5]
    | _ => omega

/-! ### candidates -/
def loR (lo : Int) (j : Nat) : Int := max (lo - j) 0
def hiR (hi : Int) (j : Nat) : Int := if hi = -1 then -1 else hi - j
def rnd (nd : Nd) : Int := if nd.hi = -1 then nd.lo else nd.hi

inductive Cd (A : List Nd) : Int → Int → Prop
  | all {x : Int} (h : (nodeAt A x).kind = 2) : Cd A x 2
  | cls {x : Int} (h : (nodeAt A x).kind = 3) : Cd A x 1
  | cat1 {x p q : Int} (h : (nodeAt A x).kind = 4) (hp : Cd A (kid (nodeAt A x) 0) p) (hq : Val A (concatN p (kid (nodeAt A x) 1)) q) : Cd A x q
  | cat2 {x q : Int} (h : (nodeAt A x).kind = 4) (hq : Cd A (kid (nodeAt A x) 1) q) : Cd A x q
  | uni {x q : Int} (h : (nodeAt A x).kind = 5) (i : Nat) (hi : i < (nodeAt A x).kids.length) (hq : Cd A (kid (nodeAt A x) i) q) : Cd A x q
  | star {x p q : Int} (h : (nodeAt A x).kind = 8) (hp : Cd A (kid (nodeAt A x) 0) p) (hq : Val A (concatN p x) q) : Cd A x q
  | loop {x p q r : Int} (h : (nodeAt A x).kind = 9) (hp : Cd A (kid (nodeAt A x) 0) p) (j : Nat) (h1 : 1 ≤ j) (h2 : (j : Int) ≤ rnd (nodeAt A x))
      (hr : Val A (loopN A (kid (nodeAt A x) 0) (loR (nodeAt A x).lo j) (hiR (nodeAt A x).hi j)) r) (hq : Val A (concatN p r) q) : Cd A x q

theorem Thens.mem {A : List Nd} {l : List Int} {t : Int} {qs : List Int} (h : Thens A l t qs) {q : Int} (hq : q ∈ qs) : ∃ p ∈ l, Val A (concatN p t) q := by
  obtain ⟨i, hi, rfl⟩ := List.getElem_of_mem hq
  have hi' : i < l.length := by have := h.1; omega
  exact ⟨_, List.getElem_mem hi', h.2 i hi' hi⟩

theorem Par.cd {A : List Nd} (hA : Wf A) {c x : Int} {z : List Int} (h : Par A c x z) : Valid A x → ∀ q ∈ z, Cd A x q := by
  induction h with
  | none h => intro _ q hq; cases hq
  | all h => intro _ q hq; rw [List.mem_singleton.1 hq]; exact .all h
  | cls h hz =>
    intro _ q hq
    subst hz
    split at hq
    · rw [List.mem_singleton.1 hq]; exact .cls h
    · cases hq
  | cat1 h hd hn ht hz ih =>
    intro hx q hq
    subst hz
    have hl := len2 hA hx h
    obtain ⟨p, hp, hv⟩ := ht.mem (mem_setOf.1 hq)
    exact .cat1 h (ih (kid_valid hA hx (by omega)).1 p hp) hv
  | cat2 h hd hn ht he hz ih ih2 =>
    intro hx q hq
    subst hz
    have hl := len2 hA hx h
    rcases List.mem_append.1 (mem_setOf.1 hq) with hq | hq
    · obtain ⟨p, hp, hv⟩ := ht.mem hq
      exact .cat1 h (ih (kid_valid hA hx (by omega)).1 p hp) hv
    · exact .cat2 h (ih2 (kid_valid hA hx (by omega)).1 q hq)
  | uni h ls hl hd hz ih =>
    intro hx q hq
    subst hz
    obtain ⟨l, hl', hq⟩ := List.mem_flatten.1 (mem_setOf.1 hq)
    obtain ⟨i, hi, rfl⟩ := List.getElem_of_mem hl'
    have := ih i hi (kid_valid hA hx (by omega)).1
    rw [getD_lt hi] at this
    exact .uni h i (by omega) (this q hq)
  | dead h hd ih => intro _ q hq; cases hq
  | star h hd h0 ht hz ih =>
    intro hx q hq
    subst hz
    have hl := len1 hA hx (Or.inr (Or.inl h))
    obtain ⟨p, hp, hv⟩ := ht.mem (mem_setOf.1 hq)
    exact .star h (ih (kid_valid hA hx (by omega)).1 p hp) hv
  | @loop x l r qs z h hd h0 hr ht hz ih =>
    intro hx q hq
    subst hz
    have hl := len1 hA hx (Or.inr (Or.inr h))
    obtain ⟨p, hp, hv⟩ := ht.mem (mem_setOf.1 hq)
    have hlp := (hA.at hx).loop h
    refine .loop h (ih (kid_valid hA hx (by omega)).1 p hp) 1 (Nat.le_refl _) ?_ (r := r) ?_ hv
    · unfold rnd; split <;> omega
    · have e1 : loR (nodeAt A x).lo 1 = max ((nodeAt A x).lo - 1) 0 := by unfold loR; simp
      have e2 : hiR (nodeAt A x).hi 1 = if (nodeAt A x).hi = -1 then -1 else (nodeAt A x).hi - 1 := by unfold hiR; simp
      rw [e1, e2]; exact hr

theorem concatN_one {A : List Nd} {z : Int} (hz : Valid A z) : Val A (concatN z 1) z := by
  unfold concatN
  split
  · rename_i h; rcases h with rfl | h
    · exact ⟨rfl, hz⟩
    · cases h
  · split
    · rename_i h; exact ⟨h.symm, hz⟩
    · rw [if_pos rfl]; exact ⟨rfl, hz⟩

theorem par_low {A : List Nd} {c x : Int} {l : List Int} (h : Par A c x l) (hk : (nodeAt A x).kind ≤ 1) : l = [] := by
  cases h with
  | none h => rfl
  | dead h hd => rfl
  | _ => omega

/-- The derivatives of a concatenation. -/
theorem par_concat {A : List Nd} (hA : Wf A) {p t q c : Int} {l : List Int} (hv : Val A (concatN p t) q) (h : Par A c q l) {z : Int} (hz : z ∈ l) :
    (∃ l1, Par A c p l1 ∧ ∃ p' ∈ l1, Val A (concatN p' t) z) ∨ (∃ l2, Par A c t l2 ∧ z ∈ l2) := by
  have hvz : Valid A z := h.valid hA hv.valid z hz
  unfold concatN at hv
  split at hv
  · have : q = 0 := hv.1.symm
    subst this
    rw [par_low h (by rw [hA.at0]; decide)] at hz
    cases hz
  · split at hv
    · have : q = t := hv.1.symm
      subst this
      exact Or.inr ⟨l, h, hz⟩
    · split at hv
      · rename_i ht
        have : q = p := hv.1.symm
        subst this
        rw [ht]
        exact Or.inl ⟨l, h, z, hz, concatN_one hvz⟩
      · have e := hv.2
        cases h with
        | cat1 h hd hn ht hzz =>
          rw [e] at hd ht
          rw [hzz] at hz
          obtain ⟨p', hp', hv'⟩ := ht.mem (mem_setOf.1 hz)
          exact Or.inl ⟨_, hd, p', hp', hv'⟩
        | cat2 h hd hn ht he hzz =>
          rw [e] at hd ht he
          rw [hzz] at hz
          rcases List.mem_append.1 (mem_setOf.1 hz) with hz | hz
          · obtain ⟨p', hp', hv'⟩ := ht.mem hz
            exact Or.inl ⟨_, hd, p', hp', hv'⟩
          · exact Or.inr ⟨_, he, hz⟩
        | none h => rw [e] at h; simp at h
        | all h => rw [e] at h; simp at h
        | cls h => rw [e] at h; simp at h
        | uni h => rw [e] at h; simp at h
        | dead h => rw [e] at h; simp at h
        | star h => rw [e] at h; simp at h
        | loop h => rw [e] at h; simp at h

/-- What is left of a loop. -/
theorem rest_par {A : List Nd} (hA : Wf A) {x : Int} (hx : Valid A x) (h9 : (nodeAt A x).kind = 9) {j : Nat} (h1 : 1 ≤ j) (h2 : (j : Int) ≤ rnd (nodeAt A x)) {r c : Int}
    (hr : Val A (loopN A (kid (nodeAt A x) 0) (loR (nodeAt A x).lo j) (hiR (nodeAt A x).hi j)) r) {l : List Int} (h : Par A c r l) {z : Int} (hz : z ∈ l) : Cd A x z := by
  have hvz : Valid A z := h.valid hA hr.valid z hz
  have hlp := (hA.at hx).loop h9
  have hl := len1 hA hx (Or.inr (Or.inr h9))
  have hkv := (kid_valid hA hx (i := 0) (by omega)).1
  have hnm := ((hA.at hx).nrm.lop h9).1 (kid (nodeAt A x) 0) (getD_mem (by omega))
  have hr0 := hr
  obtain ⟨k, ek⟩ : ∃ k, kid (nodeAt A x) 0 = k := ⟨_, rfl⟩
  rw [ek] at hr hkv hnm
  obtain ⟨lo, elo⟩ : ∃ lo, (nodeAt A x).lo = lo := ⟨_, rfl⟩
  obtain ⟨hi, ehi⟩ : ∃ hi, (nodeAt A x).hi = hi := ⟨_, rfl⟩
  have h2' : (j : Int) ≤ if hi = -1 then lo else hi := by unfold rnd at h2; rw [elo, ehi] at h2; exact h2
  rw [elo, ehi] at hlp hr
  unfold loopN at hr
  split at hr
  · have : r = 0 := hr.1.symm
    subst this
    rw [par_low h (by rw [hA.at0]; decide)] at hz
    cases hz
  · rename_i q1
    split at hr
    · have : r = 1 := hr.1.symm
      subst this
      rw [par_low h (by rw [hA.at1]; decide)] at hz
      cases hz
    · rename_i q2
      rw [if_neg (fun e => hnm.1 e.1), if_neg hnm.1, if_neg (fun e => e.elim hnm.2.2.1 hnm.2.2.2)] at hr
      split at hr
      · rename_i q6
        have : r = k := hr.1.symm
        subst this
        have hcd := h.cd hA hkv z hz
        have hne : hi ≠ -1 := fun e => by unfold hiR at q6; rw [if_pos e] at q6; omega
        have q62 := q6.2
        have q61 := q6.1
        unfold hiR at q62
        rw [if_neg hne] at q62
        unfold loR at q61
        rw [if_neg hne] at h2'
        refine .loop h9 (p := z) (r := 1) (by rw [ek]; exact hcd) (j + 1) (by omega) ?_ ?_ (concatN_one hvz)
        · unfold rnd; rw [ehi, if_neg hne]; omega
        · have e1 : loR (nodeAt A x).lo (j + 1) = 0 := by unfold loR; rw [elo]; omega
          have e2 : hiR (nodeAt A x).hi (j + 1) = 0 := by unfold hiR; rw [ehi, if_neg hne]; omega
          rw [e1, e2]
          unfold loopN
          rw [if_neg (by omega), if_pos (Or.inl rfl)]
          exact ⟨rfl, hA.v1⟩
      · rename_i q6
        split at hr
        · rename_i q7
          unfold starN at hr
          rw [if_neg (fun e => e.elim hnm.1 hnm.2.1), if_neg (fun e => e.elim hnm.2.2.1 hnm.2.2.2)] at hr
          split at hr
          · rename_i q8
            have : r = 2 := hr.1.symm
            subst this
            have e2 : z = 2 := by
              cases h with
              | all h => exact List.mem_singleton.1 hz
              | none h => cases hz
              | dead h => cases hz
              | cls h => rw [hA.at2] at h; simp at h
              | cat1 h => rw [hA.at2] at h; simp at h
              | cat2 h => rw [hA.at2] at h; simp at h
              | uni h => rw [hA.at2] at h; simp at h
              | star h => rw [hA.at2] at h; simp at h
              | loop h => rw [hA.at2] at h; simp at h
            subst e2
            refine .loop h9 (p := 1) (by rw [ek]; exact .cls q8.1) j h1 h2 hr0 ?_
            unfold concatN
            rw [if_neg (by simp), if_pos rfl]
            exact ⟨rfl, hA.v2⟩
          · have e := hr.2
            cases h with
            | star h hd h0 ht hzz =>
              rw [e] at hd
              rw [hzz] at hz
              obtain ⟨p', hp', hv'⟩ := ht.mem (mem_setOf.1 hz)
              exact .loop h9 (by rw [ek]; exact hd.cd hA hkv p' hp') j h1 h2 hr0 hv'
            | none h => cases hz
            | dead h => cases hz
            | all h => rw [e] at h; simp at h
            | cls h => rw [e] at h; simp at h
            | cat1 h => rw [e] at h; simp at h
            | cat2 h => rw [e] at h; simp at h
            | uni h => rw [e] at h; simp at h
            | loop h => rw [e] at h; simp at h
        · rename_i q7
          have e := hr.2
          cases h with
          | @loop _ l1 r1 qs _ h hd h0 hr1 ht hzz =>
            rw [e] at hd hr1
            rw [hzz] at hz
            obtain ⟨p', hp', hv'⟩ := ht.mem (mem_setOf.1 hz)
            have e1 : loR (nodeAt A x).lo (j + 1) = max (loR lo j - 1) 0 := by unfold loR; rw [elo]; omega
            have e2 : hiR (nodeAt A x).hi (j + 1) = if hiR hi j = -1 then -1 else hiR hi j - 1 := by
              unfold hiR
              rw [ehi]
              by_cases hne : hi = -1
              · rw [if_pos hne, if_pos hne, if_pos rfl]
              · rw [if_neg hne, if_neg hne]
                rw [if_neg hne] at h2'
                rw [if_neg (by omega)]
                omega
            refine .loop h9 (by rw [ek]; exact hd.cd hA hkv p' hp') (j + 1) (by omega) ?_ (r := r1) ?_ hv'
            · unfold rnd
              rw [ehi, elo]
              simp only [loR, hiR] at q1 q2 q7
              by_cases hne : hi = -1
              · rw [if_pos hne] at h2' q7 ⊢
                omega
              · rw [if_neg hne] at h2' q2 ⊢
                omega
            · rw [ek, e1, e2]; exact hr1
          | none h => cases hz
          | dead h => cases hz
          | all h => rw [e] at h; simp at h
          | cls h => rw [e] at h; simp at h
          | cat1 h => rw [e] at h; simp at h
          | cat2 h => rw [e] at h; simp at h
          | uni h => rw [e] at h; simp at h
          | star h => rw [e] at h; simp at h

/-- The candidates are closed. -/
theorem Cd.par {A : List Nd} (hA : Wf A) {c : Int} : ∀ {x q : Int}, Cd A x q → Valid A x → ∀ {l}, Par A c q l → ∀ z ∈ l, Cd A x z := by
  intro x q h
  induction h with
  | all h =>
    intro hx l hp z hz
    cases hp with
    | all h' => rw [List.mem_singleton.1 hz]; exact .all h
    | none h => cases hz
    | dead h => cases hz
    | cls h => rw [hA.at2] at h; simp at h
    | cat1 h => rw [hA.at2] at h; simp at h
    | cat2 h => rw [hA.at2] at h; simp at h
    | uni h => rw [hA.at2] at h; simp at h
    | star h => rw [hA.at2] at h; simp at h
    | loop h => rw [hA.at2] at h; simp at h
  | cls h =>
    intro hx l hp z hz
    rw [par_low hp (by rw [hA.at1]; decide)] at hz
    cases hz
  | cat1 h hp hq ih =>
    intro hx l hl z hz
    have h2 := len2 hA hx h
    rcases par_concat hA hq hl hz with ⟨l1, k1, p', k2, k3⟩ | ⟨l2, k1, k2⟩
    · exact .cat1 h (ih (kid_valid hA hx (by omega)).1 k1 p' k2) k3
    · exact .cat2 h (k1.cd hA (kid_valid hA hx (by omega)).1 z k2)
  | cat2 h hq ih =>
    intro hx l hl z hz
    have h2 := len2 hA hx h
    exact .cat2 h (ih (kid_valid hA hx (by omega)).1 hl z hz)
  | uni h i hi hq ih =>
    intro hx l hl z hz
    exact .uni h i hi (ih (kid_valid hA hx hi).1 hl z hz)
  | star h hp hq ih =>
    intro hx l hl z hz
    have h2 := len1 hA hx (Or.inr (Or.inl h))
    rcases par_concat hA hq hl hz with ⟨l1, k1, p', k2, k3⟩ | ⟨l2, k1, k2⟩
    · exact .star h (ih (kid_valid hA hx (by omega)).1 k1 p' k2) k3
    · exact k1.cd hA hx z k2
  | loop h hp j h1 h2 hr hq ih =>
    intro hx l hl z hz
    have h3 := len1 hA hx (Or.inr (Or.inr h))
    rcases par_concat hA hq hl hz with ⟨l1, k1, p', k2, k3⟩ | ⟨l2, k1, k2⟩
    · exact .loop h (ih (kid_valid hA hx (by omega)).1 k1 p' k2) j h1 h2 hr k3
    · exact rest_par hA hx h h1 h2 hr k1 k2
end Go.Proofs.Qxb6500848aGreatDoor.Pl
