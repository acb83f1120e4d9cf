/-
  The plain side: what covers the derivatives of concatenations, stars and loops.
-/
import Derived.Test.Qxb6500848aGreatDoorPlainK
namespace Go.Proofs.Qxb6500848aGreatDoor.Pl

theorem rd_list {D : List Nd} (wD : Wf D) {t : Int} (ht : Valid D t) {S : List Int} (hS : ∀ s ∈ S, Rd D t s) : ∀ s ∈ S, Valid D s := fun s hs => (hS s hs).valid wD ht

theorem flatMap_one {α β : Type} (f : α → β) : ∀ l : List α, (l.flatMap fun a => [f a]) = l.map f
  | [] => rfl
  | a :: l => by rw [List.flatMap_cons, flatMap_one f l]; rfl

/-! ### concatenation -/
theorem cat_rd {C : List Nd} (hC : Wf C) {x z : Int} (hx : Valid C x) (h4 : (nodeAt C x).kind = 4) (hr : Rd C x z) :
    ∃ D, Le C D ∧ Wf D ∧ ∃ (y f : Int) (S : List Int), Rd D (kid (nodeAt C x) 0) y ∧ Val D (concatN y (kid (nodeAt C x) 1)) f ∧ (∀ s ∈ S, Rd D (kid (nodeAt C x) 1) s) ∧ Val D (norN D 5 0 2 (f :: S)) z := by
  have hl := len2 hC hx h4
  have hk0 := (kid_valid hC hx (i := 0) (by omega)).1
  have hk1 := (kid_valid hC hx (i := 1) (by omega)).1
  induction hr with
  | one hc hd =>
    cases hd with
    | cat1 h hd hn hv => exact ⟨C, Le.refl _, hC, _, _, [], .one hc hd, hv, (fun s hs => by cases hs), nor_self hC (kuo5 hC) hv.valid⟩
    | cat2 h hd hn hf he hv => exact ⟨C, Le.refl _, hC, _, _, [_], .one hc hd, hf, (fun s hs => by rw [List.mem_singleton.1 hs]; exact .one hc he), hv⟩
    | _ => omega
  | @step q c z hr hc hd ih =>
    obtain ⟨D, hD, wD, y, f, S, hy, hf, hS, hv⟩ := ih
    generalize kid (nodeAt C x) 0 = h at *
    generalize kid (nodeAt C x) 1 = t at *
    have hyv := hy.valid wD (hD.valid hk0)
    have hSv := rd_list wD (hD.valid hk1) hS
    have hall : ∀ a ∈ y :: t :: f :: S, Valid D a := fun a ha => by
      rcases List.mem_cons.1 ha with rfl | ha
      · exact hyv
      · rcases List.mem_cons.1 ha with rfl | ha
        · exact hD.valid hk1
        · rcases List.mem_cons.1 ha with rfl | ha
          · exact hf.valid
          · exact hSv a ha
    obtain ⟨D1, h1, w1, hd1⟩ := Der.exs c _ wD hall
    obtain ⟨D2, h2, w2, f', hf'⟩ := Val.ex w1 (concatN_ok w1 ((hd1 y (by simp)).valid w1 (h1.valid hyv)) (h1.valid (hD.valid hk1)))
    have h12 := h1.trans h2
    have hd2 : ∀ a ∈ y :: t :: f :: S, Der D2 c a (dv D2 c a) := fun a ha => dv_der w2 ((hd1 a ha).le w1 w2 h2 (h1.valid (hall a ha)))
    have edv : dv D2 c y = dv D1 c y := dv_eq w2 ((hd1 y (by simp)).le w1 w2 h2 (h1.valid hyv))
    rw [← edv] at hf'
    have hfS : ∀ a ∈ f :: S, Valid D a := fun a ha => hall a (List.mem_cons_of_mem _ (List.mem_cons_of_mem _ ha))
    have hq := nor_der w2 (kuo5 w2) (kd5 w2 c) (fun a ha => h12.valid (hfS a ha)) (fun a ha => hd2 a (List.mem_cons_of_mem _ (List.mem_cons_of_mem _ ha))) (by rw [nor_le h12 hfS]; exact hv.le h12) (hd.le hC w2 (hD.trans h12) (hr.valid hC hx))
    have hc4 := cat_der w2 (h12.valid hyv) (hf.le h12) (hd2 y (by simp)) (hd2 t (by simp)) hf' (hd2 f (by simp))
    have hSd : ∀ s ∈ S.map (dv D2 c), Rd D2 t s := fun s hs => by
      obtain ⟨a, ha, rfl⟩ := List.mem_map.1 hs
      exact .step ((hS a ha).le wD w2 h12 (hD.valid hk1)) hc (hd2 a (by simp [ha]))
    have hyr : Rd D2 h (dv D2 c y) := .step (hy.le wD w2 h12 (hD.valid hk0)) hc (hd2 y (by simp))
    have vSd := rd_list w2 (h12.valid (hD.valid hk1)) hSd
    have key : ∀ g : List Int, (∀ a ∈ g, Valid D2 a) → Val D2 (norN D2 5 0 2 g) (dv D2 c f) → norN D2 5 0 2 ((f :: S).map (dv D2 c)) = norN D2 5 0 2 (g ++ S.map (dv D2 c)) := fun g hg hgv => by
      have e := nor_flat (α := Option Int) (kuo5 w2) (xs := none :: S.map some) (g := fun p => match p with | none => g | some s => [dv D2 c s]) (h := fun p => match p with | none => dv D2 c f | some s => dv D2 c s)
        (fun p hp a ha => by
          rcases List.mem_cons.1 hp with rfl | hp
          · exact hg a ha
          · obtain ⟨s, hs, rfl⟩ := List.mem_map.1 hp
            rw [List.mem_singleton.1 ha]
            exact vSd _ (List.mem_map.2 ⟨s, hs, rfl⟩))
        (fun p hp => by
          rcases List.mem_cons.1 hp with rfl | hp
          · exact hgv
          · obtain ⟨s, hs, rfl⟩ := List.mem_map.1 hp
            exact nor_self w2 (kuo5 w2) (vSd _ (List.mem_map.2 ⟨s, hs, rfl⟩)))
      have e1 : (none :: S.map some).map (fun p : Option Int => match p with | none => dv D2 c f | some s => dv D2 c s) = (f :: S).map (dv D2 c) := by simp [List.map_map, Function.comp_def]
      have e2 : (none :: S.map some).flatMap (fun p : Option Int => match p with | none => g | some s => [dv D2 c s]) = g ++ S.map (dv D2 c) := by
        rw [List.flatMap_cons, List.flatMap_map]
        congr 1
        exact flatMap_one _ S
      rw [e1, e2] at e
      exact e
    rcases hc4 with ⟨_, hu⟩ | ⟨_, hu⟩
    · rw [key _ (fun a ha => by
        simp at ha
        rcases ha with rfl | rfl
        · exact hf'.valid
        · exact (hd2 t (by simp)).valid w2 (h12.valid (hD.valid hk1))) hu] at hq
      exact ⟨D2, hD.trans h12, w2, _, f', dv D2 c t :: S.map (dv D2 c), hyr, hf', (fun s hs => by
        rcases List.mem_cons.1 hs with rfl | hs
        · exact .one hc (hd2 t (by simp))
        · exact hSd s hs), hq⟩
    · rw [key _ (fun a ha => by rw [List.mem_singleton.1 ha]; exact hf'.valid) hu] at hq
      exact ⟨D2, hD.trans h12, w2, _, f', S.map (dv D2 c), hyr, hf', hSd, hq⟩

theorem pairs_len {α β : Type} (l : List α) (m : List β) : (l.flatMap fun a => m.map fun b => (a, b)).length = l.length * m.length := by
  induction l with
  | nil => simp
  | cons a l ih => rw [List.flatMap_cons, List.length_append, ih, List.length_map, List.length_cons, Nat.add_mul]; omega
theorem mem_pairs {α β : Type} {l : List α} {m : List β} {p : α × β} : p ∈ (l.flatMap fun a => m.map fun b => (a, b)) ↔ p.1 ∈ l ∧ p.2 ∈ m := by
  rw [List.mem_flatMap]
  constructor
  · rintro ⟨a, ha, hp⟩
    obtain ⟨b, hb, rfl⟩ := List.mem_map.1 hp
    exact ⟨ha, hb⟩
  · rintro ⟨h1, h2⟩
    exact ⟨p.1, h1, List.mem_map.2 ⟨p.2, h2, rfl⟩⟩

theorem cov_cat {A : List Nd} (hA : Wf A) {x : Int} (hx : Valid A x) (h4 : (nodeAt A x).kind = 4) {L0 L1 : List Int} (hL0 : Cov A (kid (nodeAt A x) 0) L0) (hL1 : Cov A (kid (nodeAt A x) 1) L1) :
    ∃ B L, Le A B ∧ Wf B ∧ Cov B x L ∧ L.length + 1 ≤ (L0.length + 1) * 2 ^ L1.length := by
  have hl := len2 hA hx h4
  have hk1 := (kid_valid hA hx (i := 1) (by omega)).1
  have hva : ∀ a ∈ 0 :: L0, Valid A a := fun a ha => by
    rcases List.mem_cons.1 ha with rfl | ha
    · exact hA.v0
    · exact hL0.val a ha
  obtain ⟨B1, hB1, w1, hone⟩ := Val.exs (fun y => concatN y (kid (nodeAt A x) 1)) (0 :: L0) hA (fun a ha => concatN_ok hA (hva a ha) hk1)
  have hF : ∀ y ∈ 0 :: L0, Val B1 (concatN y (kid (nodeAt A x) 1)) (theOne B1 (concatN y (kid (nodeAt A x) 1))) := fun y hy => by
    obtain ⟨z, hz⟩ := hone y hy
    rw [theOne_eq w1 hz]; exact hz
  have hvf : ∀ p ∈ ((0 :: L0).flatMap fun a => (subs L1).map fun b => (a, b)), ∀ q ∈ theOne B1 (concatN p.1 (kid (nodeAt A x) 1)) :: p.2, Valid B1 q := fun p hp q hq => by
    obtain ⟨h1, h2⟩ := mem_pairs.1 hp
    rcases List.mem_cons.1 hq with rfl | hq
    · exact (hF _ h1).valid
    · exact hB1.valid (hL1.val q (subs_sub h2 q hq))
  obtain ⟨B, L, q1, q2, q3, _, q5⟩ := cov_of (x := x) w1 ((0 :: L0).flatMap fun a => (subs L1).map fun b => (a, b)) (fun p => norN B1 5 0 2 (theOne B1 (concatN p.1 (kid (nodeAt A x) 1)) :: p.2)) (fun p hp => unionN_ok w1 (hvf p hp)) (fun C hC wC z hz hz0 => by
    have hAC := hB1.trans hC
    obtain ⟨D, hD, wD, y, f, S, hy, hf, hS, hv⟩ := cat_rd wC (hAC.valid hx) (by rw [hAC.node hx]; exact h4) hz
    rw [hAC.node hx] at hy hf hS
    have hAD := hAC.trans hD
    have hym : y ∈ 0 :: L0 := by
      by_cases e : y = 0
      · rw [e]; simp
      · exact List.mem_cons_of_mem _ (hL0.all D hAD wD y hy e)
    have ef : f = theOne B1 (concatN y (kid (nodeAt A x) 1)) := hf.uniq wD ((hF y hym).le (hC.trans hD))
    have hp : (y, L1.filter (fun s => decide (s ∈ S))) ∈ ((0 :: L0).flatMap fun a => (subs L1).map fun b => (a, b)) := mem_pairs.2 ⟨hym, filter_subs _ _⟩
    refine ⟨_, hp, D, hD, wD, ?_⟩
    have e2 : norN D 5 0 2 (f :: S) = norN D 5 0 2 (f :: L1.filter (fun s => decide (s ∈ S))) := nor_set (fun q hq => by
      rw [List.mem_cons, List.mem_cons, List.mem_filter]
      constructor
      · rintro (h | h)
        · exact Or.inl h
        · exact Or.inr ⟨hL1.all D hAD wD q (hS q h) hq, by simpa using h⟩
      · rintro (h | h)
        · exact Or.inl h
        · exact Or.inr (by simpa using h.2)) (kuo5 wD)
    rw [e2, ef, nor_le (hC.trans hD) (hvf _ hp)] at hv
    exact hv)
  refine ⟨B, L, hB1.trans q1, q2, q3, ?_⟩
  have := q5 ⟨(0, []), mem_pairs.2 ⟨by simp, nil_subs _⟩, by
    have e0 : theOne B1 (concatN 0 (kid (nodeAt A x) 1)) = 0 := theOne_eq w1 (by unfold concatN; rw [if_pos (Or.inl rfl)]; exact ⟨rfl, w1.v0⟩)
    simp only [e0]
    exact nor_self w1 (kuo5 w1) w1.v0⟩
  rw [pairs_len, subs_len, List.length_cons] at this
  exact this

/-! ### stars and loops -/
/-- The rests that a star or a loop can leave. -/
structure Rests (A : List Nd) (x b : Int) (rs : List Int) : Prop where
  vb : Valid A b
  val : ∀ r ∈ rs, Valid A r
  st : ∀ C, Le A C → Wf C → ∀ c d, 0 ≤ c ∧ c ≤ 196607 → Der C c b d → ∀ y ∈ x :: rs, ∀ e, Der C c y e → e = 0 ∨ ∃ r ∈ rs, Val C (concatN d r) e

theorem rep_rd {A : List Nd} {x b : Int} {rs : List Int} (hx : Valid A x) (R : Rests A x b rs) {C : List Nd} (hAC : Le A C) (hC : Wf C) {z : Int} (hr : Rd C x z) :
    ∃ D, Le C D ∧ Wf D ∧ ∃ S : List (Int × Int), (∀ p ∈ S, Rd D b p.1 ∧ p.2 ∈ rs ∧ Val D (concatN p.1 p.2) (theOne D (concatN p.1 p.2))) ∧ Val D (norN D 5 0 2 (S.map fun p => theOne D (concatN p.1 p.2))) z := by
  induction hr with
  | @one c z hc hd =>
    obtain ⟨D, h1, w1, hds⟩ := Der.exs c [b] hC (fun y hy => by rw [List.mem_singleton.1 hy]; exact hAC.valid R.vb)
    have hb := hds b (by simp)
    have hdz := hd.le hC w1 h1 (hAC.valid hx)
    rcases R.st D (hAC.trans h1) w1 c _ hc hb x (by simp) z hdz with rfl | ⟨r, hr, hv⟩
    · refine ⟨D, h1, w1, [], (fun p hp => by cases hp), ?_⟩
      have e : norN D 5 0 2 ([] : List Int) = norN D 5 0 2 [0] := nor_set (fun z hz => by simp [hz]) (kuo5 w1)
      rw [List.map_nil, e]
      exact nor_self w1 (kuo5 w1) w1.v0
    · have e := theOne_eq w1 hv
      refine ⟨D, h1, w1, [(dv D c b, r)], (fun p hp => by rw [List.mem_singleton.1 hp]; exact ⟨.one hc hb, hr, by rw [e]; exact hv⟩), ?_⟩
      simp only [List.map_cons, List.map_nil, e]
      exact nor_self w1 (kuo5 w1) hv.valid
  | @step q c z hr hc hd ih =>
    obtain ⟨D, hD, wD, S, hS, hv⟩ := ih
    have hbD := hD.valid (hAC.valid R.vb)
    have hS1 : ∀ p ∈ S, Valid D p.1 ∧ Valid D p.2 := fun p hp => ⟨(hS p hp).1.valid wD hbD, hD.valid (hAC.valid (R.val _ (hS p hp).2.1))⟩
    have hall : ∀ a ∈ b :: (S.map Prod.fst ++ S.map Prod.snd ++ S.map fun p => theOne D (concatN p.1 p.2)), Valid D a := fun a ha => by
      rcases List.mem_cons.1 ha with rfl | ha
      · exact hbD
      · rcases List.mem_append.1 ha with ha | ha
        · rcases List.mem_append.1 ha with ha | ha
          · obtain ⟨p, hp, rfl⟩ := List.mem_map.1 ha
            exact (hS1 p hp).1
          · obtain ⟨p, hp, rfl⟩ := List.mem_map.1 ha
            exact (hS1 p hp).2
        · obtain ⟨p, hp, rfl⟩ := List.mem_map.1 ha
          exact (hS p hp).2.2.valid
    obtain ⟨D1, h1, w1, hd1⟩ := Der.exs c _ wD hall
    have m1 : ∀ p ∈ S, p.1 ∈ b :: (S.map Prod.fst ++ S.map Prod.snd ++ S.map fun p => theOne D (concatN p.1 p.2)) := fun p hp => List.mem_cons_of_mem _ (List.mem_append_left _ (List.mem_append_left _ (List.mem_map.2 ⟨p, hp, rfl⟩)))
    have m2 : ∀ p ∈ S, p.2 ∈ b :: (S.map Prod.fst ++ S.map Prod.snd ++ S.map fun p => theOne D (concatN p.1 p.2)) := fun p hp => List.mem_cons_of_mem _ (List.mem_append_left _ (List.mem_append_right _ (List.mem_map.2 ⟨p, hp, rfl⟩)))
    have m3 : ∀ p ∈ S, theOne D (concatN p.1 p.2) ∈ b :: (S.map Prod.fst ++ S.map Prod.snd ++ S.map fun p => theOne D (concatN p.1 p.2)) := fun p hp => List.mem_cons_of_mem _ (List.mem_append_right _ (List.mem_map.2 ⟨p, hp, rfl⟩))
    obtain ⟨D2, h2, w2, hvs⟩ := Val.exs (fun p : Int × Int => concatN (dv D1 c p.1) p.2) S w1 (fun p hp => concatN_ok w1 ((hd1 _ (m1 p hp)).valid w1 (h1.valid (hS1 p hp).1)) (h1.valid (hS1 p hp).2))
    have h12 := h1.trans h2
    have hd2 : ∀ a ∈ b :: (S.map Prod.fst ++ S.map Prod.snd ++ S.map fun p => theOne D (concatN p.1 p.2)), Der D2 c a (dv D2 c a) := fun a ha => dv_der w2 ((hd1 a ha).le w1 w2 h2 (h1.valid (hall a ha)))
    have hf2 : ∀ p ∈ S, Val D2 (concatN (dv D2 c p.1) p.2) (theOne D2 (concatN (dv D2 c p.1) p.2)) := fun p hp => by
      have e : dv D2 c p.1 = dv D1 c p.1 := dv_eq w2 ((hd1 _ (m1 p hp)).le w1 w2 h2 (h1.valid (hS1 p hp).1))
      obtain ⟨v, hv⟩ := hvs p hp
      rw [← e] at hv
      rw [theOne_eq w2 hv]; exact hv
    have ecv : ∀ p ∈ S, theOne D2 (concatN p.1 p.2) = theOne D (concatN p.1 p.2) := fun p hp => theOne_eq w2 ((hS p hp).2.2.le h12)
    have hcvv : ∀ a ∈ S.map (fun p => theOne D (concatN p.1 p.2)), Valid D a := fun a ha => by
      obtain ⟨p, hp, rfl⟩ := List.mem_map.1 ha
      exact (hS p hp).2.2.valid
    have hq := nor_der w2 (kuo5 w2) (kd5 w2 c) (fun a ha => h12.valid (hcvv a ha)) (fun a ha => by
      obtain ⟨p, hp, rfl⟩ := List.mem_map.1 ha
      exact hd2 _ (m3 p hp)) (by rw [nor_le h12 hcvv]; exact hv.le h12) (hd.le hC w2 (hD.trans h12) (hr.valid hC (hAC.valid hx)))
    -- what each of them becomes
    have hg : ∀ p ∈ S, ∃ g : List Int, (∀ a ∈ g, Valid D2 a) ∧ Val D2 (norN D2 5 0 2 g) (dv D2 c (theOne D (concatN p.1 p.2))) ∧
        ∃ T : List (Int × Int), (∀ t ∈ T, Rd D2 b t.1 ∧ t.2 ∈ rs ∧ Val D2 (concatN t.1 t.2) (theOne D2 (concatN t.1 t.2))) ∧ ∀ a, a ≠ 0 → (a ∈ g ↔ a ∈ T.map fun t => theOne D2 (concatN t.1 t.2)) := fun p hp => by
      have hfst : Rd D2 b (dv D2 c p.1) := .step ((hS p hp).1.le wD w2 h12 hbD) hc (hd2 _ (m1 p hp))
      have hbr : Rd D2 b (dv D2 c b) := .one hc (hd2 b (by simp))
      have hev := (hd2 _ (m2 p hp)).valid w2 (h12.valid (hS1 p hp).2)
      rcases cat_der w2 (h12.valid (hS1 p hp).1) ((hS p hp).2.2.le h12) (hd2 _ (m1 p hp)) (hd2 _ (m2 p hp)) (hf2 p hp) (hd2 _ (m3 p hp)) with ⟨_, hu⟩ | ⟨_, hu⟩
      · refine ⟨_, (fun a ha => by
          simp at ha
          rcases ha with rfl | rfl
          · exact (hf2 p hp).valid
          · exact hev), hu, ?_⟩
        rcases R.st D2 ((hAC.trans hD).trans h12) w2 c _ hc (hd2 b (by simp)) p.2 (List.mem_cons_of_mem _ (hS p hp).2.1) _ (hd2 _ (m2 p hp)) with e0 | ⟨r, hr, hv2⟩
        · refine ⟨[(dv D2 c p.1, p.2)], (fun t ht => by rw [List.mem_singleton.1 ht]; exact ⟨hfst, (hS p hp).2.1, hf2 p hp⟩), fun a ha => ?_⟩
          rw [e0]
          simp [ha]
        · have e := theOne_eq w2 hv2
          refine ⟨[(dv D2 c p.1, p.2), (dv D2 c b, r)], (fun t ht => by
            simp at ht
            rcases ht with rfl | rfl
            · exact ⟨hfst, (hS p hp).2.1, hf2 p hp⟩
            · exact ⟨hbr, hr, by simp only [e]; exact hv2⟩), fun a _ => ?_⟩
          simp [e]
      · refine ⟨_, (fun a ha => by rw [List.mem_singleton.1 ha]; exact (hf2 p hp).valid), hu, [(dv D2 c p.1, p.2)], (fun t ht => by rw [List.mem_singleton.1 ht]; exact ⟨hfst, (hS p hp).2.1, hf2 p hp⟩), fun a _ => by simp⟩
    -- all of them together
    have hch : ∃ g : Int × Int → List Int, ∀ p ∈ S, (∀ a ∈ g p, Valid D2 a) ∧ Val D2 (norN D2 5 0 2 (g p)) (dv D2 c (theOne D (concatN p.1 p.2))) ∧
        ∃ T : List (Int × Int), (∀ t ∈ T, Rd D2 b t.1 ∧ t.2 ∈ rs ∧ Val D2 (concatN t.1 t.2) (theOne D2 (concatN t.1 t.2))) ∧ ∀ a, a ≠ 0 → (a ∈ g p ↔ a ∈ T.map fun t => theOne D2 (concatN t.1 t.2)) := by
      classical
      refine ⟨fun p => if h : p ∈ S then Classical.choose (hg p h) else [], fun p hp => ?_⟩
      simp only [dif_pos hp]
      exact Classical.choose_spec (hg p hp)
    obtain ⟨g, hg'⟩ := hch
    have hcomb : ∀ S' : List (Int × Int), (∀ p ∈ S', p ∈ S) → ∃ T : List (Int × Int), (∀ t ∈ T, Rd D2 b t.1 ∧ t.2 ∈ rs ∧ Val D2 (concatN t.1 t.2) (theOne D2 (concatN t.1 t.2))) ∧ ∀ a, a ≠ 0 → (a ∈ S'.flatMap g ↔ a ∈ T.map fun t => theOne D2 (concatN t.1 t.2)) := by
      intro S'
      induction S' with
      | nil => exact fun _ => ⟨[], (fun t ht => by cases ht), fun a _ => by simp⟩
      | cons p l ihl =>
        intro hsub
        obtain ⟨T1, u1, u2⟩ := (hg' p (hsub p (List.mem_cons_self ..))).2.2
        obtain ⟨T2, v1, v2⟩ := ihl (fun q hq => hsub q (List.mem_cons_of_mem _ hq))
        refine ⟨T1 ++ T2, (fun t ht => (List.mem_append.1 ht).elim (u1 t) (v1 t)), fun a ha => ?_⟩
        rw [List.flatMap_cons, List.mem_append, List.map_append, List.mem_append, u2 a ha, v2 a ha]
    obtain ⟨T, t1, t2⟩ := hcomb S (fun _ h => h)
    have t0 := fun p hp => (⟨(hg' p hp).1, (hg' p hp).2.1⟩ : (∀ a ∈ g p, Valid D2 a) ∧ Val D2 (norN D2 5 0 2 (g p)) (dv D2 c (theOne D (concatN p.1 p.2))))
    refine ⟨D2, hD.trans h12, w2, T, t1, ?_⟩
    have e := nor_flat (kuo5 w2) (xs := S) (g := g) (h := fun p => dv D2 c (theOne D (concatN p.1 p.2))) (fun p hp => (t0 p hp).1) (fun p hp => (t0 p hp).2)
    have e2 : (S.map fun p => theOne D (concatN p.1 p.2)).map (dv D2 c) = S.map fun p => dv D2 c (theOne D (concatN p.1 p.2)) := by simp [List.map_map, Function.comp_def]
    rw [e2, e, nor_set (fun a ha => t2 a ha) (kuo5 w2)] at hq
    exact hq
end Go.Proofs.Qxb6500848aGreatDoor.Pl
