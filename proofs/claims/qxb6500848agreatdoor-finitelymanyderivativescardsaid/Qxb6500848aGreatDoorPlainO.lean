/-
  The plain side: stars and loops; the bounds.
-/
import Derived.Test.Qxb6500848aGreatDoorPlainL
namespace Go.Proofs.Qxb6500848aGreatDoor.Pl

theorem cov_rep {A : List Nd} (hA : Wf A) {x b : Int} {rs : List Int} (hx : Valid A x) (R : Rests A x b rs) {L : List Int} (hL : Cov A b L) :
    ∃ B L', Le A B ∧ Wf B ∧ Cov B x L' ∧ L'.length + 1 ≤ 2 ^ (L.length * rs.length) := by
  have hpv : ∀ p ∈ (L.flatMap fun a => rs.map fun r => (a, r)), Valid A p.1 ∧ Valid A p.2 := fun p hp => ⟨hL.val _ (mem_pairs.1 hp).1, R.val _ (mem_pairs.1 hp).2⟩
  obtain ⟨B1, hB1, w1, hone⟩ := Val.exs (fun p : Int × Int => concatN p.1 p.2) (L.flatMap fun a => rs.map fun r => (a, r)) hA (fun p hp => concatN_ok hA (hpv p hp).1 (hpv p hp).2)
  have hF : ∀ p ∈ (L.flatMap fun a => rs.map fun r => (a, r)), Val B1 (concatN p.1 p.2) (theOne B1 (concatN p.1 p.2)) := fun p hp => by
    obtain ⟨z, hz⟩ := hone p hp
    rw [theOne_eq w1 hz]; exact hz
  have hvf : ∀ T ∈ subs (L.flatMap fun a => rs.map fun r => (a, r)), ∀ q ∈ T.map (fun p => theOne B1 (concatN p.1 p.2)), Valid B1 q := fun T hT q hq => by
    obtain ⟨p, hp, rfl⟩ := List.mem_map.1 hq
    exact (hF p (subs_sub hT p hp)).valid
  obtain ⟨B, L', q1, q2, q3, _, q5⟩ := cov_of (x := x) w1 (subs (L.flatMap fun a => rs.map fun r => (a, r))) (fun T => norN B1 5 0 2 (T.map fun p => theOne B1 (concatN p.1 p.2))) (fun T hT => unionN_ok w1 (hvf T hT)) (fun C hC wC z hz hz0 => by
    obtain ⟨D, hD, wD, S, hS, hv⟩ := rep_rd hx R (hB1.trans hC) wC hz
    have hAD := (hB1.trans hC).trans hD
    have hBD := hC.trans hD
    refine ⟨_, filter_subs (fun p => decide (p ∈ S)) _, D, hD, wD, ?_⟩
    have e2 : norN D 5 0 2 (S.map fun p => theOne D (concatN p.1 p.2)) = norN D 5 0 2 (((L.flatMap fun a => rs.map fun r => (a, r)).filter (fun p => decide (p ∈ S))).map fun p => theOne B1 (concatN p.1 p.2)) := nor_set (fun a ha => by
      rw [List.mem_map, List.mem_map]
      constructor
      · rintro ⟨p, hp, rfl⟩
        have h0 : p.1 ≠ 0 := fun e => by
          apply ha
          rw [e]
          exact theOne_eq wD (by unfold concatN; rw [if_pos (Or.inl rfl)]; exact ⟨rfl, wD.v0⟩)
        have hpm : p ∈ (L.flatMap fun a => rs.map fun r => (a, r)) := mem_pairs.2 ⟨hL.all D hAD wD _ (hS p hp).1 h0, (hS p hp).2.1⟩
        exact ⟨p, List.mem_filter.2 ⟨hpm, by simpa using hp⟩, (theOne_eq wD ((hF p hpm).le hBD)).symm⟩
      · rintro ⟨p, hp, rfl⟩
        obtain ⟨h1, h2⟩ := List.mem_filter.1 hp
        exact ⟨p, by simpa using h2, theOne_eq wD ((hF p h1).le hBD)⟩) (kuo5 wD)
    rw [e2, nor_le hBD (hvf _ (filter_subs _ _))] at hv
    exact hv)
  refine ⟨B, L', hB1.trans q1, q2, q3, ?_⟩
  have := q5 ⟨[], nil_subs _, by
    have e : norN B1 5 0 2 ([] : List Int) = norN B1 5 0 2 [0] := nor_set (fun z hz => by simp [hz]) (kuo5 w1)
    rw [List.map_nil, e]
    exact nor_self w1 (kuo5 w1) w1.v0⟩
  rw [subs_len, pairs_len] at this
  exact this

theorem rests_star {A : List Nd} (hA : Wf A) {x : Int} (hx : Valid A x) (h8 : (nodeAt A x).kind = 8) : Rests A x (kid (nodeAt A x) 0) [x] := by
  have hl := len1 hA hx (Or.inr (Or.inl h8))
  refine ⟨(kid_valid hA hx (i := 0) (by omega)).1, fun r hr => by rw [List.mem_singleton.1 hr]; exact hx, fun C hC wC c d hc hb y hy e he => ?_⟩
  have ey : y = x := by simpa using hy
  subst ey
  have en := hC.node hx
  cases he with
  | dead h hd => exact Or.inl rfl
  | star h hd h0 hv =>
    rw [en] at hd
    rw [hd.uniq wC hb] at hv
    exact Or.inr ⟨y, by simp, hv⟩
  | none h => rw [en] at h; omega
  | all h => rw [en] at h; omega
  | cls h => rw [en] at h; omega
  | cat1 h => rw [en] at h; omega
  | cat2 h => rw [en] at h; omega
  | uni h => rw [en] at h; omega
  | int h => rw [en] at h; omega
  | comp h => rw [en] at h; omega
  | loop h => rw [en] at h; omega

/-- The derivative of what is left of a loop. -/
theorem rest_der {A : List Nd} (hA : Wf A) {x : Int} (hx : Valid A x) (h9 : (nodeAt A x).kind = 9) {j : Nat} (h1 : 1 ≤ j) (h2 : (j : Int) ≤ rnd (nodeAt A x)) {r c d e : Int} (hc : 0 ≤ c ∧ c ≤ 196607)
    (hr : Val A (loopN A (kid (nodeAt A x) 0) (loR (nodeAt A x).lo j) (hiR (nodeAt A x).hi j)) r) (hb : Der A c (kid (nodeAt A x) 0) d) (h : Der A c r e) :
    e = 0 ∨ ∃ j' : Nat, 1 ≤ j' ∧ (j' : Int) ≤ rnd (nodeAt A x) ∧ ∀ r', Val A (loopN A (kid (nodeAt A x) 0) (loR (nodeAt A x).lo j') (hiR (nodeAt A x).hi j')) r' → Val A (concatN d r') e := by
  have hev : Valid A e := h.valid hA hr.valid
  have hlp := (hA.at hx).loop h9
  have hl := len1 hA hx (Or.inr (Or.inr h9))
  have hkv := (kid_valid hA hx (i := 0) (by omega)).1
  have hnm := ((hA.at hx).nrm.lop h9).1 (kid (nodeAt A x) 0) (getD_mem (by omega))
  have hr0 := hr
  obtain ⟨k, ek⟩ : ∃ k, kid (nodeAt A x) 0 = k := ⟨_, rfl⟩
  rw [ek] at hr hkv hnm hb
  obtain ⟨lo, elo⟩ : ∃ lo, (nodeAt A x).lo = lo := ⟨_, rfl⟩
  obtain ⟨hi, ehi⟩ : ∃ hi, (nodeAt A x).hi = hi := ⟨_, rfl⟩
  have h2' : (j : Int) ≤ if hi = -1 then lo else hi := by unfold rnd at h2; rw [elo, ehi] at h2; exact h2
  rw [elo, ehi] at hlp hr
  unfold loopN at hr
  split at hr
  · have : r = 0 := hr.1.symm
    subst this
    exact Or.inl (der0 hA h)
  · rename_i q1
    split at hr
    · have : r = 1 := hr.1.symm
      subst this
      exact Or.inl (der1 hA h)
    · rename_i q2
      rw [if_neg (fun e => hnm.1 e.1), if_neg hnm.1, if_neg (fun e => e.elim hnm.2.2.1 hnm.2.2.2)] at hr
      split at hr
      · rename_i q6
        have : r = k := hr.1.symm
        subst this
        obtain rfl := h.uniq hA hb
        have hne : hi ≠ -1 := fun e => by unfold hiR at q6; rw [if_pos e] at q6; omega
        have q62 := q6.2
        have q61 := q6.1
        unfold hiR at q62
        rw [if_neg hne] at q62
        unfold loR at q61
        rw [if_neg hne] at h2'
        refine Or.inr ⟨j + 1, by omega, by unfold rnd; rw [ehi, if_neg hne]; omega, fun r' hr' => ?_⟩
        have e1 : loR (nodeAt A x).lo (j + 1) = 0 := by unfold loR; rw [elo]; omega
        have e2 : hiR (nodeAt A x).hi (j + 1) = 0 := by unfold hiR; rw [ehi, if_neg hne]; omega
        rw [e1, e2] at hr'
        unfold loopN at hr'
        rw [if_neg (by omega), if_pos (Or.inl rfl)] at hr'
        obtain rfl : r' = 1 := hr'.1.symm
        exact concatN_one hev
      · rename_i q6
        split at hr
        · rename_i q7
          unfold starN at hr
          rw [if_neg (fun e => e.elim hnm.1 hnm.2.1), if_neg (fun e => e.elim hnm.2.2.1 hnm.2.2.2)] at hr
          refine Or.imp id (fun hh => ⟨j, h1, h2, fun r' hr' => by obtain rfl := hr'.uniq hA hr0; exact hh⟩) (?_ : e = 0 ∨ Val A (concatN d r) e)
          split at hr
          · rename_i q8
            have : r = 2 := hr.1.symm
            subst this
            have e2 := der2 hA h
            subst e2
            have hd1 : d = 1 := by
              cases hb with
              | cls hk hz =>
                have := (hA.at hkv).cls hk
                rw [hz, if_pos (hasC_full this.1 q8.2 hc.1 hc.2)]
              | none h => rw [q8.1] at h; rcases h with h | h <;> cases h
              | dead h => rw [q8.1] at h; rcases h with h | h <;> cases h
              | all h => rw [q8.1] at h; cases h
              | cat1 h => rw [q8.1] at h; cases h
              | cat2 h => rw [q8.1] at h; cases h
              | uni h => rw [q8.1] at h; cases h
              | int h => rw [q8.1] at h; cases h
              | comp h => rw [q8.1] at h; cases h
              | star h => rw [q8.1] at h; cases h
              | loop h => rw [q8.1] at h; cases h
            refine Or.inr ?_
            rw [hd1]
            unfold concatN
            rw [if_neg (by simp), if_pos rfl]
            exact ⟨rfl, hA.v2⟩
          · have en := hr.2
            have k0 : kid (nodeAt A r) 0 = k := by rw [en]; rfl
            cases h with
            | star h hd h0 hv =>
              rw [k0] at hd
              obtain rfl := hd.uniq hA hb
              exact Or.inr hv
            | dead h hd => exact Or.inl rfl
            | none h => rw [en] at h; rcases h with h | h <;> cases h
            | all h => rw [en] at h; cases h
            | cls h => rw [en] at h; cases h
            | cat1 h => rw [en] at h; cases h
            | cat2 h => rw [en] at h; cases h
            | uni h => rw [en] at h; cases h
            | int h => rw [en] at h; cases h
            | comp h => rw [en] at h; cases h
            | loop h => rw [en] at h; cases h
        · rename_i q7
          have en := hr.2
          have k0 : kid (nodeAt A r) 0 = k := by rw [en]; rfl
          cases h with
          | loop h hd h0 hr1 hv =>
            rw [k0] at hd
            obtain rfl := hd.uniq hA hb
            have e1 : loR (nodeAt A x).lo (j + 1) = max (loR lo j - 1) 0 := by unfold loR; rw [elo]; omega
            have e2 : hiR (nodeAt A x).hi (j + 1) = if hiR hi j = -1 then -1 else hiR hi j - 1 := by
              unfold hiR
              rw [ehi]
              by_cases hne : hi = -1
              · rw [if_pos hne, if_pos hne, if_pos rfl]
              · rw [if_neg hne, if_neg hne]
                rw [if_neg hne] at h2'
                rw [if_neg (by omega)]
                omega
            refine Or.inr ⟨j + 1, by omega, ?_, fun r' hr' => ?_⟩
            · unfold rnd
              rw [ehi, elo]
              simp only [loR, hiR] at q1 q2 q7
              by_cases hne : hi = -1
              · rw [if_pos hne] at h2' q7 ⊢
                omega
              · rw [if_neg hne] at h2' q2 ⊢
                omega
            · rw [k0, en] at hr1
              rw [ek, e1, e2] at hr'
              obtain rfl := hr'.uniq hA hr1
              exact hv
          | dead h hd => exact Or.inl rfl
          | none h => rw [en] at h; rcases h with h | h <;> cases h
          | all h => rw [en] at h; cases h
          | cls h => rw [en] at h; cases h
          | cat1 h => rw [en] at h; cases h
          | cat2 h => rw [en] at h; cases h
          | uni h => rw [en] at h; cases h
          | int h => rw [en] at h; cases h
          | comp h => rw [en] at h; cases h
          | star h => rw [en] at h; cases h

theorem rests_loop {A : List Nd} (hA : Wf A) {x : Int} (hx : Valid A x) (h9 : (nodeAt A x).kind = 9) : ∃ B, Le A B ∧ Wf B ∧ ∃ rs : List Int, (rs.length : Int) = rnd (nodeAt A x) ∧ Rests B x (kid (nodeAt A x) 0) rs := by
  have hl := len1 hA hx (Or.inr (Or.inr h9))
  have hkv := (kid_valid hA hx (i := 0) (by omega)).1
  have hlp := (hA.at hx).loop h9
  have hr1 : 1 ≤ rnd (nodeAt A x) := by unfold rnd; split <;> omega
  obtain ⟨m, hm⟩ : ∃ m : Nat, rnd (nodeAt A x) = m := ⟨_, (Int.toNat_of_nonneg (by omega)).symm⟩
  have hm' : (m : Int) = if (nodeAt A x).hi = -1 then (nodeAt A x).lo else (nodeAt A x).hi := by rw [← hm]; rfl
  obtain ⟨B, hB, wB, hone⟩ := Val.exs (fun j : Nat => loopN A (kid (nodeAt A x) 0) (loR (nodeAt A x).lo (j + 1)) (hiR (nodeAt A x).hi (j + 1))) (List.range m) hA (fun j hj => by
    have hj' := List.mem_range.1 hj
    refine loopN_ok hA hkv (by unfold loR; omega) (by unfold loR; omega) ?_ ?_
    · unfold hiR
      split
      · omega
      · rename_i hne
        rw [if_neg hne] at hm'
        omega
    · unfold hiR
      split <;> omega)
  have hF : ∀ j, j < m → Val B (loopN A (kid (nodeAt A x) 0) (loR (nodeAt A x).lo (j + 1)) (hiR (nodeAt A x).hi (j + 1))) (theOne B (loopN A (kid (nodeAt A x) 0) (loR (nodeAt A x).lo (j + 1)) (hiR (nodeAt A x).hi (j + 1)))) := fun j hj => by
    obtain ⟨z, hz⟩ := hone j (List.mem_range.2 hj)
    rw [theOne_eq wB hz]; exact hz
  refine ⟨B, hB, wB, (List.range m).map (fun j => theOne B (loopN A (kid (nodeAt A x) 0) (loR (nodeAt A x).lo (j + 1)) (hiR (nodeAt A x).hi (j + 1)))), by simp [hm], hB.valid hkv, fun r hr => ?_, fun C hC wC c d hc hb y hy e he => ?_⟩
  · obtain ⟨j, hj, rfl⟩ := List.mem_map.1 hr
    exact (hF j (List.mem_range.1 hj)).valid
  · have hAC := hB.trans hC
    have en := hAC.node hx
    have mem : ∀ j : Nat, 1 ≤ j → j ≤ m → ∀ r', Val C (loopN C (kid (nodeAt A x) 0) (loR (nodeAt A x).lo j) (hiR (nodeAt A x).hi j)) r' → r' ∈ (List.range m).map (fun j => theOne B (loopN A (kid (nodeAt A x) 0) (loR (nodeAt A x).lo (j + 1)) (hiR (nodeAt A x).hi (j + 1)))) := fun j h1 h2 r' hr' => by
      have h3 := hF (j - 1) (by omega)
      rw [show j - 1 + 1 = j by omega] at h3
      rw [loopN_le hAC hkv] at hr'
      refine List.mem_map.2 ⟨j - 1, List.mem_range.2 (by omega), ?_⟩
      rw [show j - 1 + 1 = j by omega]
      exact ((h3.le hC).uniq wC hr')
    rcases List.mem_cons.1 hy with rfl | hy
    · cases he with
      | dead h hd => exact Or.inl rfl
      | loop h hd h0 hr hv =>
        rw [en] at hd hr
        obtain rfl := hd.uniq wC hb
        refine Or.inr ⟨_, mem 1 (by omega) (by omega) _ ?_, hv⟩
        have e1 : loR (nodeAt A y).lo 1 = max ((nodeAt A y).lo - 1) 0 := by unfold loR; simp
        have e2 : hiR (nodeAt A y).hi 1 = if (nodeAt A y).hi = -1 then -1 else (nodeAt A y).hi - 1 := by unfold hiR; simp
        rw [e1, e2]
        exact hr
      | none h => rw [en] at h; omega
      | all h => rw [en] at h; omega
      | cls h => rw [en] at h; omega
      | cat1 h => rw [en] at h; omega
      | cat2 h => rw [en] at h; omega
      | uni h => rw [en] at h; omega
      | int h => rw [en] at h; omega
      | comp h => rw [en] at h; omega
      | star h => rw [en] at h; omega
    · obtain ⟨j, hj, rfl⟩ := List.mem_map.1 hy
      have hj' := List.mem_range.1 hj
      have hv := (hF j hj').le hC
      have hd := rest_der wC (hAC.valid hx) (by rw [en]; exact h9) (j := j + 1) (by omega) (by rw [en, hm]; omega) hc (by rw [en, loopN_le hAC hkv]; exact hv) (by rw [en]; exact hb) he
      rw [en] at hd
      rcases hd with h | ⟨j', h1, h2, h3⟩
      · exact Or.inl h
      · rw [hm] at h2
        have h4 := hF (j' - 1) (by omega)
        rw [show j' - 1 + 1 = j' by omega] at h4
        have h5 := h4.le hC
        rw [← loopN_le hAC hkv] at h5
        exact Or.inr ⟨_, mem j' h1 (by omega) _ h5, h3 _ h5⟩
end Go.Proofs.Qxb6500848aGreatDoor.Pl
