/-
  The plain side: derivatives as a relation of an arena, and why they are quotients.
-/
import Derived.Test.Qxb6500848aGreatDoorPlain
namespace Go.Proofs.Qxb6500848aGreatDoor.Pl

/-- 'In the arena A the derivative of x by c is z': every node that it takes lies in A. -/
inductive Der (A : List Nd) (c : Int) : Int → Int → Prop
  | none {x : Int} (h : (nodeAt A x).kind = 0 ∨ (nodeAt A x).kind = 1) : Der A c x 0
  | all {x : Int} (h : (nodeAt A x).kind = 2) : Der A c x 2
  | cls {x z : Int} (h : (nodeAt A x).kind = 3) (hz : z = if hasC (nodeAt A x).bits c then 1 else 0) : Der A c x z
  | cat1 {x d z : Int} (h : (nodeAt A x).kind = 4) (hd : Der A c (kid (nodeAt A x) 0) d) (hn : ¬ lang A (kid (nodeAt A x) 0) []) (hv : Val A (concatN d (kid (nodeAt A x) 1)) z) : Der A c x z
  | cat2 {x d f e z : Int} (h : (nodeAt A x).kind = 4) (hd : Der A c (kid (nodeAt A x) 0) d) (hn : lang A (kid (nodeAt A x) 0) []) (hf : Val A (concatN d (kid (nodeAt A x) 1)) f)
      (he : Der A c (kid (nodeAt A x) 1) e) (hv : Val A (unionN A [f, e]) z) : Der A c x z
  | uni {x z : Int} (h : (nodeAt A x).kind = 5) (ds : List Int) (hl : ds.length = (nodeAt A x).kids.length) (hd : ∀ i, i < ds.length → Der A c (kid (nodeAt A x) i) (ds.getD i 0)) (hv : Val A (unionN A ds) z) : Der A c x z
  | int {x z : Int} (h : (nodeAt A x).kind = 6) (ds : List Int) (hl : ds.length = (nodeAt A x).kids.length) (hd : ∀ i, i < ds.length → Der A c (kid (nodeAt A x) i) (ds.getD i 0)) (hv : Val A (interN A ds) z) : Der A c x z
  | comp {x d z : Int} (h : (nodeAt A x).kind = 7) (hd : Der A c (kid (nodeAt A x) 0) d) (hv : Val A (compN A d) z) : Der A c x z
  | dead {x : Int} (h : (nodeAt A x).kind = 8 ∨ (nodeAt A x).kind = 9) (hd : Der A c (kid (nodeAt A x) 0) 0) : Der A c x 0
  | star {x d z : Int} (h : (nodeAt A x).kind = 8) (hd : Der A c (kid (nodeAt A x) 0) d) (h0 : d ≠ 0) (hv : Val A (concatN d x) z) : Der A c x z
  | loop {x d r z : Int} (h : (nodeAt A x).kind = 9) (hd : Der A c (kid (nodeAt A x) 0) d) (h0 : d ≠ 0)
      (hr : Val A (loopN A (kid (nodeAt A x) 0) (max ((nodeAt A x).lo - 1) 0) (if (nodeAt A x).hi = -1 then -1 else (nodeAt A x).hi - 1)) r) (hv : Val A (concatN d r) z) : Der A c x z

/-- z is the quotient of x by c. -/
def Quot (A : List Nd) (c x z : Int) : Prop := Valid A z ∧ ∀ w, Alph w → (lang A z w ↔ lang A x (c :: w))

theorem getD_mem {l : List Int} {i : Nat} (h : i < l.length) : l.getD i 0 ∈ l := by
  rw [getD_lt h]; exact List.getElem_mem h

theorem lang4 {A : List Nd} (hA : Wf A) {x : Int} (hx : Valid A x) (h : (nodeAt A x).kind = 4) (w : Word) : lang A x w ↔ cat (lang A (kid (nodeAt A x) 0)) (lang A (kid (nodeAt A x) 1)) w := by
  rw [lang_unfold hA hx]; simp [sem, h]
theorem lang5 {A : List Nd} (hA : Wf A) {x : Int} (hx : Valid A x) (h : (nodeAt A x).kind = 5) (w : Word) : lang A x w ↔ ∃ k ∈ (nodeAt A x).kids, lang A k w := by
  rw [lang_unfold hA hx]; simp [sem, h]
theorem lang6 {A : List Nd} (hA : Wf A) {x : Int} (hx : Valid A x) (h : (nodeAt A x).kind = 6) (w : Word) : lang A x w ↔ ∀ k ∈ (nodeAt A x).kids, lang A k w := by
  rw [lang_unfold hA hx]; simp [sem, h]
theorem lang7 {A : List Nd} (hA : Wf A) {x : Int} (hx : Valid A x) (h : (nodeAt A x).kind = 7) (w : Word) : lang A x w ↔ ¬ lang A (kid (nodeAt A x) 0) w := by
  rw [lang_unfold hA hx]; simp [sem, h]
theorem lang8 {A : List Nd} (hA : Wf A) {x : Int} (hx : Valid A x) (h : (nodeAt A x).kind = 8) (w : Word) : lang A x w ↔ ∃ n, pow (lang A (kid (nodeAt A x) 0)) n w := by
  rw [lang_unfold hA hx]; simp [sem, h]
theorem lang9 {A : List Nd} (hA : Wf A) {x : Int} (hx : Valid A x) (h : (nodeAt A x).kind = 9) (w : Word) : lang A x w ↔ loopL (lang A (kid (nodeAt A x) 0)) (nodeAt A x).lo (nodeAt A x).hi w := by
  rw [lang_unfold hA hx]; simp [sem, h, loopL]

theorem kid_valid {A : List Nd} (hA : Wf A) {x : Int} (hx : Valid A x) {i : Nat} (hi : i < (nodeAt A x).kids.length) : Valid A (kid (nodeAt A x) i) ∧ (kid (nodeAt A x) i).toNat < x.toNat :=
  hA.kidValid hx (getD_mem hi)
theorem len2 {A : List Nd} (hA : Wf A) {x : Int} (hx : Valid A x) (h : (nodeAt A x).kind = 4) : (nodeAt A x).kids.length = 2 := by
  obtain ⟨a, b, e⟩ := (hA.at hx).two h; rw [e]; rfl
theorem len1 {A : List Nd} (hA : Wf A) {x : Int} (hx : Valid A x) (h : (nodeAt A x).kind = 7 ∨ (nodeAt A x).kind = 8 ∨ (nodeAt A x).kind = 9) : (nodeAt A x).kids.length = 1 := by
  obtain ⟨a, e⟩ := (hA.at hx).one h; rw [e]; rfl

theorem cat_alph {f f' g : Lang} (h : ∀ w, Alph w → (f w ↔ f' w)) {w : Word} (hw : Alph w) : cat f g w ↔ cat f' g w :=
  cat_congr (fun u v e => h u (by subst e; exact hw.left)) (fun _ _ _ => Iff.rfl)
theorem cat_alph2 {f g g' : Lang} (h : ∀ w, Alph w → (g w ↔ g' w)) {w : Word} (hw : Alph w) : cat f g w ↔ cat f g' w :=
  cat_congr (fun _ _ _ => Iff.rfl) (fun u v e => h v (by subst e; exact hw.right))

theorem cat_cons {f g : Lang} {c : Int} {w : Word} : cat f g (c :: w) ↔ (f [] ∧ g (c :: w)) ∨ cat (fun u => f (c :: u)) g w := by
  constructor
  · rintro ⟨u, v, e, h1, h2⟩
    cases u with
    | nil => left; exact ⟨h1, by rw [show c :: w = v by simpa using e]; exact h2⟩
    | cons a u =>
      simp only [List.cons_append, List.cons.injEq] at e
      obtain ⟨rfl, rfl⟩ := e
      right; exact ⟨u, v, rfl, h1, h2⟩
  · rintro (⟨h1, h2⟩ | ⟨u, v, rfl, h1, h2⟩)
    · exact ⟨[], c :: w, rfl, h1, h2⟩
    · exact ⟨c :: u, v, by simp, h1, h2⟩

/-- The derivative of 'from lo to hi times'. -/
theorem loop_cons {f : Lang} {lo hi : Int} (hok : hi = -1 ∧ 1 ≤ lo ∨ lo ≤ hi ∧ 1 ≤ hi) (c : Int) (w : Word) :
    loopL f lo hi (c :: w) ↔ cat (fun u => f (c :: u)) (loopL f (max (lo - 1) 0) (if hi = -1 then -1 else hi - 1)) w := by
  constructor
  · rintro ⟨n, h1, h2, h3⟩
    cases n with
    | zero => cases (show c :: w = [] from h3)
    | succ n =>
      obtain ⟨m, hm, ⟨u, v, rfl, h4, h5⟩, h6⟩ := pow_cons n w h3
      refine ⟨u, v, rfl, h4, ?_⟩
      rcases h6 with rfl | h6
      · exact ⟨m, by omega, by split <;> omega, h5⟩
      · by_cases hl : max (lo - 1) 0 ≤ (m : Int)
        · exact ⟨m, hl, by split <;> omega, h5⟩
        · exact ⟨(max (lo - 1) 0).toNat, by omega, by split <;> omega, pow_up h6 (by omega) h5⟩
  · rintro ⟨u, v, rfl, h4, n, h1, h2, h5⟩
    refine ⟨n + 1, by omega, ?_, pow_cons_back ⟨u, v, rfl, h4, h5⟩⟩
    split at h2 <;> omega

theorem star_cons {f : Lang} (c : Int) (w : Word) : (∃ n, pow f n (c :: w)) ↔ cat (fun u => f (c :: u)) (fun v => ∃ n, pow f n v) w := by
  constructor
  · rintro ⟨n, h3⟩
    cases n with
    | zero => cases (show c :: w = [] from h3)
    | succ n =>
      obtain ⟨m, hm, ⟨u, v, rfl, h4, h5⟩, h6⟩ := pow_cons n w h3
      exact ⟨u, v, rfl, h4, m, h5⟩
  · rintro ⟨u, v, rfl, h4, n, h5⟩
    exact ⟨n + 1, pow_cons_back ⟨u, v, rfl, h4, h5⟩⟩

theorem Der.quot {A : List Nd} (hA : Wf A) {c : Int} {x z : Int} (h : Der A c x z) : Valid A x → Quot A c x z := by
  induction h with
  | none h =>
    intro hx
    refine ⟨hA.v0, fun w hw => ?_⟩
    rw [lang0 hA, lang_unfold hA hx]
    rcases h with h | h <;> simp [sem, h]
  | all h =>
    intro hx
    refine ⟨hA.v2, fun w hw => ?_⟩
    rw [lang2 hA, lang_unfold hA hx]
    simp [sem, h]
  | cls h hz =>
    intro hx
    subst hz
    rename_i x
    have e : ∀ w, lang A x (c :: w) ↔ w = [] ∧ hasC (nodeAt A x).bits c = true := by
      intro w
      rw [lang_unfold hA hx]
      simp only [sem, h]
      simp
      constructor
      · rintro ⟨d, ⟨rfl, rfl⟩, hd⟩; exact ⟨rfl, hd⟩
      · rintro ⟨rfl, hd⟩; exact ⟨c, ⟨rfl, rfl⟩, hd⟩
    refine ⟨?_, fun w hw => ?_⟩
    · split
      · exact hA.v1
      · exact hA.v0
    · rw [e]
      split
      · rename_i hb; rw [lang1 hA]; simp [hb]
      · rename_i hb; rw [lang0 hA]; simp [hb]
  | cat1 h hd hn hv ih =>
    intro hx
    have hl := len2 hA hx h
    have q := ih (kid_valid hA hx (by omega)).1
    refine ⟨hv.valid, fun w hw => ?_⟩
    rw [hv.lang hA, concatN_lang hA, lang4 hA hx h, cat_cons, cat_alph q.2 hw]
    exact ⟨Or.inr, fun h => h.elim (fun h => absurd h.1 hn) id⟩
  | cat2 h hd hn hf he hv ih ih2 =>
    intro hx
    have hl := len2 hA hx h
    have q := ih (kid_valid hA hx (by omega)).1
    have q2 := ih2 (kid_valid hA hx (by omega)).1
    refine ⟨hv.valid, fun w hw => ?_⟩
    rw [hv.lang hA, unionN_lang hA (by intro k hk; simp at hk; exact hk.elim (fun e => e ▸ hf.valid) (fun e => e ▸ q2.1)), lang4 hA hx h, cat_cons, ← cat_alph q.2 hw]
    simp only [List.mem_cons, List.not_mem_nil, or_false, exists_eq_or_imp, exists_eq_left]
    rw [hf.lang hA, concatN_lang hA, q2.2 w hw]
    exact ⟨fun h => h.elim Or.inr (fun h => Or.inl ⟨hn, h⟩), fun h => h.elim (fun h => Or.inr h.2) Or.inl⟩
  | uni h ds hl hd hv ih =>
    intro hx
    have q := fun i (hi : i < ds.length) => ih i hi (kid_valid hA hx (by omega)).1
    have hds : ∀ d ∈ ds, Valid A d := by
      intro d hd'
      obtain ⟨i, hi, rfl⟩ := List.getElem_of_mem hd'
      have := (q i hi).1
      rwa [getD_lt hi] at this
    refine ⟨hv.valid, fun w hw => ?_⟩
    rw [hv.lang hA, unionN_lang hA hds, lang5 hA hx h]
    constructor
    · rintro ⟨d, hd', hw'⟩
      obtain ⟨i, hi, rfl⟩ := List.getElem_of_mem hd'
      refine ⟨_, getD_mem (i := i) (by omega), ?_⟩
      have := (q i hi).2 w hw
      rw [getD_lt hi] at this
      exact this.1 hw'
    · rintro ⟨k, hk, hw'⟩
      obtain ⟨i, hi, rfl⟩ := List.getElem_of_mem hk
      have hi' : i < ds.length := by omega
      refine ⟨_, getD_mem hi', ((q i hi').2 w hw).2 ?_⟩
      show lang A (kid _ i) (c :: w)
      unfold kid
      rw [getD_lt hi]; exact hw'
  | int h ds hl hd hv ih =>
    intro hx
    have q := fun i (hi : i < ds.length) => ih i hi (kid_valid hA hx (by omega)).1
    have hds : ∀ d ∈ ds, Valid A d := by
      intro d hd'
      obtain ⟨i, hi, rfl⟩ := List.getElem_of_mem hd'
      have := (q i hi).1
      rwa [getD_lt hi] at this
    refine ⟨hv.valid, fun w hw => ?_⟩
    rw [hv.lang hA, interN_lang hA hds, lang6 hA hx h]
    constructor
    · intro hh k hk
      obtain ⟨i, hi, rfl⟩ := List.getElem_of_mem hk
      have hi' : i < ds.length := by omega
      have := ((q i hi').2 w hw).1 (hh _ (getD_mem hi'))
      unfold kid at this
      rwa [getD_lt hi] at this
    · intro hh d hd'
      obtain ⟨i, hi, rfl⟩ := List.getElem_of_mem hd'
      have := ((q i hi).2 w hw).2 (hh _ (getD_mem (i := i) (by omega)))
      rwa [getD_lt hi] at this
  | comp h hd hv ih =>
    intro hx
    have hl := len1 hA hx (Or.inl h)
    have q := ih (kid_valid hA hx (by omega)).1
    refine ⟨hv.valid, fun w hw => ?_⟩
    rw [hv.lang hA, compN_lang hA q.1, lang7 hA hx h, q.2 w hw]
  | dead h hd ih =>
    intro hx
    rename_i x
    have hl := len1 hA hx (Or.inr h)
    have q := ih (kid_valid hA hx (by omega)).1
    refine ⟨hA.v0, fun w hw => ?_⟩
    have none : ∀ {g : Lang}, ¬ cat (fun u => lang A (kid (nodeAt A x) 0) (c :: u)) g w := by
      rintro g ⟨u, v, rfl, h2, _⟩
      have := (q.2 u hw.left).2 h2
      rw [lang0 hA] at this
      exact this
    rw [lang0 hA]
    refine ⟨False.elim, fun hh => ?_⟩
    rcases h with h | h
    · rw [lang8 hA hx h, star_cons] at hh; exact none hh
    · rw [lang9 hA hx h, loop_cons ((hA.at hx).loop h).2.2.2] at hh; exact none hh
  | star h hd h0 hv ih =>
    intro hx
    rename_i x d z
    have hl := len1 hA hx (Or.inr (Or.inl h))
    have q := ih (kid_valid hA hx (by omega)).1
    refine ⟨hv.valid, fun w hw => ?_⟩
    rw [hv.lang hA, concatN_lang hA, lang8 hA hx h, star_cons, cat_alph q.2 hw]
    have e : lang A x = fun v => ∃ n, pow (lang A (kid (nodeAt A x) 0)) n v := funext fun v => propext (lang8 hA hx h v)
    rw [← e]
  | loop h hd h0 hr hv ih =>
    intro hx
    rename_i x d r z
    have hl := len1 hA hx (Or.inr (Or.inr h))
    have hk := kid_valid hA hx (i := 0) (by omega)
    have q := ih hk.1
    have ho := (hA.at hx).loop h
    refine ⟨hv.valid, fun w hw => ?_⟩
    rw [hv.lang hA, concatN_lang hA, lang9 hA hx h, loop_cons ho.2.2.2, cat_alph q.2 hw]
    refine cat_alph2 (fun v hv' => ?_) hw
    rw [hr.lang hA, loopN_lang hA hk.1 (by omega) (by split <;> omega) hv']

theorem Der.valid {A : List Nd} (hA : Wf A) {c : Int} {x z : Int} (h : Der A c x z) : Valid A x → Valid A z := by
  intro hx
  induction h with
  | none h => exact hA.v0
  | all h => exact hA.v2
  | cls h hz =>
    subst hz
    split
    · exact hA.v1
    · exact hA.v0
  | cat1 h hd hn hv ih => exact hv.valid
  | cat2 h hd hn hf he hv ih ih2 => exact hv.valid
  | uni h ds hl hd hv ih => exact hv.valid
  | int h ds hl hd hv ih => exact hv.valid
  | comp h hd hv ih => exact hv.valid
  | dead h hd ih => exact hA.v0
  | star h hd h0 hv ih => exact hv.valid
  | loop h hd h0 hr hv ih => exact hv.valid

/-! ### the arena grows -/
theorem parts_le {A B : List Nd} (hAB : Le A B) {kind unit : Int} {xs : List Int} (hx : ∀ x ∈ xs, Valid A x) : parts B kind unit xs = parts A kind unit xs := by
  unfold parts
  rw [List.flatMap_def, List.flatMap_def]
  congr 1
  refine List.map_congr_left fun x hxm => ?_
  rw [hAB.node (hx x hxm)]
theorem flat_le {A B : List Nd} (hAB : Le A B) {kind unit : Int} {xs : List Int} (hx : ∀ x ∈ xs, Valid A x) : flat B kind unit xs = flat A kind unit xs := by
  unfold flat; rw [parts_le hAB hx]
theorem unionN_le {A B : List Nd} (hAB : Le A B) {xs : List Int} (hx : ∀ x ∈ xs, Valid A x) : unionN B xs = unionN A xs := by
  unfold unionN; rw [flat_le hAB hx]
theorem interN_le {A B : List Nd} (hAB : Le A B) {xs : List Int} (hx : ∀ x ∈ xs, Valid A x) : interN B xs = interN A xs := by
  unfold interN; rw [flat_le hAB hx]
theorem compN_le {A B : List Nd} (hAB : Le A B) {x : Int} (hx : Valid A x) : compN B x = compN A x := by
  unfold compN; rw [hAB.node hx]
theorem starN_le {A B : List Nd} (hAB : Le A B) {x : Int} (hx : Valid A x) : starN B x = starN A x := by
  unfold starN; rw [hAB.node hx]
theorem loopN_le {A B : List Nd} (hAB : Le A B) {x lo hi : Int} (hx : Valid A x) : loopN B x lo hi = loopN A x lo hi := by
  unfold loopN; rw [hAB.node hx, starN_le hAB hx]

theorem Der.le {A B : List Nd} (hA : Wf A) (hB : Wf B) (hAB : Le A B) {c x z : Int} (h : Der A c x z) : Valid A x → Der B c x z := by
  induction h with
  | none h => intro hx; exact .none (by rw [hAB.node hx]; exact h)
  | all h => intro hx; exact .all (by rw [hAB.node hx]; exact h)
  | cls h hz => intro hx; exact .cls (by rw [hAB.node hx]; exact h) (by rw [hAB.node hx]; exact hz)
  | cat1 h hd hn hv ih =>
    intro hx
    have hl := len2 hA hx h
    have k0 := (kid_valid hA hx (i := 0) (by omega)).1
    exact .cat1 (by rw [hAB.node hx]; exact h) (by rw [hAB.node hx]; exact ih k0) (by rw [hAB.node hx, hAB.lang hA hB k0]; exact hn) (by rw [hAB.node hx]; exact hv.le hAB)
  | cat2 h hd hn hf he hv ih ih2 =>
    intro hx
    have hl := len2 hA hx h
    have k0 := (kid_valid hA hx (i := 0) (by omega)).1
    have k1 := (kid_valid hA hx (i := 1) (by omega)).1
    exact .cat2 (by rw [hAB.node hx]; exact h) (by rw [hAB.node hx]; exact ih k0) (by rw [hAB.node hx, hAB.lang hA hB k0]; exact hn) (by rw [hAB.node hx]; exact hf.le hAB) (by rw [hAB.node hx]; exact ih2 k1)
      (by rw [unionN_le hAB (by intro k hk; simp at hk; exact hk.elim (fun e => e ▸ hf.valid) (fun e => e ▸ he.valid hA k1))]; exact hv.le hAB)
  | uni h ds hl hd hv ih =>
    intro hx
    have hk := fun i (hi : i < ds.length) => (kid_valid hA hx (i := i) (by omega)).1
    refine .uni (by rw [hAB.node hx]; exact h) ds (by rw [hAB.node hx]; exact hl) (fun i hi => by rw [hAB.node hx]; exact ih i hi (hk i hi)) ?_
    rw [unionN_le hAB ?_]
    · exact hv.le hAB
    · intro d hd'
      obtain ⟨i, hi, rfl⟩ := List.getElem_of_mem hd'
      have := (hd i hi).valid hA (hk i hi)
      rwa [getD_lt hi] at this
  | int h ds hl hd hv ih =>
    intro hx
    have hk := fun i (hi : i < ds.length) => (kid_valid hA hx (i := i) (by omega)).1
    refine .int (by rw [hAB.node hx]; exact h) ds (by rw [hAB.node hx]; exact hl) (fun i hi => by rw [hAB.node hx]; exact ih i hi (hk i hi)) ?_
    rw [interN_le hAB ?_]
    · exact hv.le hAB
    · intro d hd'
      obtain ⟨i, hi, rfl⟩ := List.getElem_of_mem hd'
      have := (hd i hi).valid hA (hk i hi)
      rwa [getD_lt hi] at this
  | comp h hd hv ih =>
    intro hx
    have hl := len1 hA hx (Or.inl h)
    have k0 := (kid_valid hA hx (i := 0) (by omega)).1
    exact .comp (by rw [hAB.node hx]; exact h) (by rw [hAB.node hx]; exact ih k0) (by rw [compN_le hAB (hd.valid hA k0)]; exact hv.le hAB)
  | dead h hd ih =>
    intro hx
    have hl := len1 hA hx (Or.inr h)
    have k0 := (kid_valid hA hx (i := 0) (by omega)).1
    exact .dead (by rw [hAB.node hx]; exact h) (by rw [hAB.node hx]; exact ih k0)
  | star h hd h0 hv ih =>
    intro hx
    have hl := len1 hA hx (Or.inr (Or.inl h))
    have k0 := (kid_valid hA hx (i := 0) (by omega)).1
    exact .star (by rw [hAB.node hx]; exact h) (by rw [hAB.node hx]; exact ih k0) h0 (hv.le hAB)
  | loop h hd h0 hr hv ih =>
    intro hx
    have hl := len1 hA hx (Or.inr (Or.inr h))
    have k0 := (kid_valid hA hx (i := 0) (by omega)).1
    exact .loop (by rw [hAB.node hx]; exact h) (by rw [hAB.node hx]; exact ih k0) h0 (by rw [hAB.node hx, loopN_le hAB k0]; exact hr.le hAB) (hv.le hAB)
end Go.Proofs.Qxb6500848aGreatDoor.Pl
