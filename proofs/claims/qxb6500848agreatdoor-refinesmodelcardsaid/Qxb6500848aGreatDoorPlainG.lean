/-
  The plain side: how many candidates there are; what is reached.
-/
import Derived.Test.Qxb6500848aGreatDoorPlainF
namespace Go.Proofs.Qxb6500848aGreatDoor.Pl

def TM : Int := 4611686018427387904

/-- n bounds the number of candidates of x. -/
def Bd (A : List Nd) (x n : Int) : Prop := 0 ≤ n ∧ n ≤ TM ∧ (n < TM → ∃ L : List Int, (L.length : Int) ≤ n ∧ ∀ q, Cd A x q → q ∈ L)
/-- n bounds those of the first i kids together. -/
def Bs (A : List Nd) (nd : Nd) (i : Nat) (n : Int) : Prop := 0 ≤ n ∧ n ≤ TM ∧ (n < TM → ∃ Ls : List (List Int), Ls.length = i ∧ (Ls.flatten.length : Int) ≤ n ∧ ∀ j, j < i → ∀ q, Cd A (kid nd j) q → q ∈ Ls.getD j [])

def plusZ (a b : Int) : Int := if a ≥ TM - b then TM else a + b
def timesZ (a b : Int) : Int := if a ≠ 0 ∧ b ≥ (TM + a - 1) / a then TM else a * b

theorem Bs.zero (A : List Nd) (nd : Nd) {n : Int} (h : 0 ≤ n) (h1 : n ≤ TM) : Bs A nd 0 n := ⟨h, h1, fun _ => ⟨[], rfl, by simpa using h, fun j hj => by omega⟩⟩
theorem Bs.next {A : List Nd} {nd : Nd} {i : Nat} {n m : Int} (h : Bs A nd i n) (hm : Bd A (kid nd i) m) : Bs A nd (i + 1) (plusZ n m) := by
  obtain ⟨h0, h1, h2⟩ := h
  obtain ⟨m0, m1, m2⟩ := hm
  unfold plusZ
  split
  · exact ⟨by unfold TM; omega, Int.le_refl _, fun h => absurd h (by omega)⟩
  · rename_i hlt
    refine ⟨by omega, by omega, fun h => ?_⟩
    obtain ⟨Ls, e1, e2, e3⟩ := h2 (by omega)
    obtain ⟨L, f1, f2⟩ := m2 (by omega)
    have e7 : (Ls ++ [L]).flatten.length = Ls.flatten.length + L.length := by rw [List.flatten_append, List.length_append]; simp
    refine ⟨Ls ++ [L], by simp [e1], by rw [e7]; omega, fun j hj q hq => ?_⟩
    by_cases e : j < i
    · have e4 : (Ls ++ [L]).getD j [] = Ls.getD j [] := by
        simp only [List.getD]
        rw [List.getElem?_append_left (by omega)]
      rw [e4]
      exact e3 j e q hq
    · have e5 : j = Ls.length := by omega
      have e6 : j = i := by omega
      have e4 : (Ls ++ [L]).getD Ls.length [] = L := by simp [List.getD]
      rw [e5, e4]
      rw [e6] at hq
      exact f2 q hq

open Classical in
/-- The one value of a normal form. -/
noncomputable def theOne (A : List Nd) (nf : Nf) : Int := if h : ∃ q, Val A nf q then Classical.choose h else 0
theorem theOne_eq {A : List Nd} (hA : Wf A) {nf : Nf} {q : Int} (h : Val A nf q) : theOne A nf = q := by
  have hx : ∃ q, Val A nf q := ⟨q, h⟩
  unfold theOne
  rw [dif_pos hx]
  exact (Classical.choose_spec hx).uniq hA h

theorem Bs.done {A : List Nd} (hA : Wf A) {x : Int} (hx : Valid A x) {n : Int} (h : Bs A (nodeAt A x) (nodeAt A x).kids.length n) (h1 : (nodeAt A x).kind = 2 ∨ (nodeAt A x).kind = 3 → 1 ≤ n) (h9 : (nodeAt A x).kind ≠ 9) : Bd A x n := by
  obtain ⟨e0, e1, e2⟩ := h
  refine ⟨e0, e1, fun hlt => ?_⟩
  obtain ⟨Ls, l1, l2, l3⟩ := e2 hlt
  have hk := (hA.at hx).kind
  have hcs : (nodeAt A x).kind = 0 ∨ (nodeAt A x).kind = 1 ∨ (nodeAt A x).kind = 2 ∨ (nodeAt A x).kind = 3 ∨ (nodeAt A x).kind = 4 ∨ (nodeAt A x).kind = 5 ∨ (nodeAt A x).kind = 6 ∨ (nodeAt A x).kind = 7 ∨ (nodeAt A x).kind = 8 := by omega
  rcases hcs with k | k | k | k | k | k | k | k | k
  · exact ⟨[], by simpa using e0, fun q hq => by cases hq <;> omega⟩
  · exact ⟨[], by simpa using e0, fun q hq => by cases hq <;> omega⟩
  · refine ⟨[2], by have := h1 (Or.inl k); simpa using this, fun q hq => ?_⟩
    cases hq with
    | all h => simp
    | _ => omega
  · refine ⟨[1], by have := h1 (Or.inr k); simpa using this, fun q hq => ?_⟩
    cases hq with
    | cls h => simp
    | _ => omega
  · have hl := len2 hA hx k
    obtain ⟨L0, L1, rfl⟩ : ∃ L0 L1, Ls = [L0, L1] := by
      rw [hl] at l1
      match Ls, l1 with
      | [a, b], _ => exact ⟨a, b, rfl⟩
    refine ⟨L0.map (fun p => theOne A (concatN p (kid (nodeAt A x) 1))) ++ L1, by simp at l2 ⊢; omega, fun q hq => ?_⟩
    cases hq with
    | cat1 h hp hv =>
      have := l3 0 (by omega) _ hp
      exact List.mem_append_left _ (List.mem_map.2 ⟨_, by simpa using this, theOne_eq hA hv⟩)
    | cat2 h hq =>
      have := l3 1 (by omega) _ hq
      exact List.mem_append_right _ (by simpa using this)
    | _ => omega
  · refine ⟨Ls.flatten, l2, fun q hq => ?_⟩
    cases hq with
    | uni h i hi hq =>
      have := l3 i hi _ hq
      rw [getD_lt (by omega : i < Ls.length)] at this
      exact List.mem_flatten.2 ⟨_, List.getElem_mem (by omega), this⟩
    | _ => omega
  · exact ⟨[], by simpa using e0, fun q hq => by cases hq <;> omega⟩
  · exact ⟨[], by simpa using e0, fun q hq => by cases hq <;> omega⟩
  · have hl := len1 hA hx (Or.inr (Or.inl k))
    obtain ⟨L0, rfl⟩ : ∃ L0, Ls = [L0] := by
      rw [hl] at l1
      exact List.length_eq_one_iff.1 l1
    refine ⟨L0.map (fun p => theOne A (concatN p x)), by simp at l2 ⊢; omega, fun q hq => ?_⟩
    cases hq with
    | star h hp hv =>
      have := l3 0 (by omega) _ hp
      exact List.mem_map.2 ⟨_, by simpa using this, theOne_eq hA hv⟩
    | _ => omega

theorem Bs.loop {A : List Nd} (hA : Wf A) {x : Int} (hx : Valid A x) {n : Int} (h : Bs A (nodeAt A x) (nodeAt A x).kids.length n) (h9 : (nodeAt A x).kind = 9) : Bd A x (timesZ n (rnd (nodeAt A x))) := by
  obtain ⟨e0, e1, e2⟩ := h
  have hlp := (hA.at hx).loop h9
  have hr1 : 0 ≤ rnd (nodeAt A x) := by unfold rnd; split <;> omega
  have hl := len1 hA hx (Or.inr (Or.inr h9))
  obtain ⟨m, hm⟩ : ∃ m : Nat, rnd (nodeAt A x) = m := ⟨_, (Int.toNat_of_nonneg hr1).symm⟩
  unfold timesZ
  split
  · exact ⟨by unfold TM; omega, Int.le_refl _, fun h => absurd h (by omega)⟩
  · rename_i hc
    have hnr : 0 ≤ n * rnd (nodeAt A x) := Int.mul_nonneg e0 hr1
    have hlt : n * rnd (nodeAt A x) ≤ TM := by
      by_cases h0 : n = 0
      · rw [h0]; unfold TM; omega
      · have h3 : rnd (nodeAt A x) < (TM + n - 1) / n := by
          by_cases h4 : rnd (nodeAt A x) < (TM + n - 1) / n
          · exact h4
          · exact absurd ⟨h0, by omega⟩ hc
        have h5 : (TM + n - 1) / n * n ≤ TM + n - 1 := Int.ediv_mul_le _ h0
        have h6 : (rnd (nodeAt A x) + 1) * n ≤ (TM + n - 1) / n * n := Int.mul_le_mul_of_nonneg_right (by omega) e0
        rw [Int.add_mul, Int.mul_comm (rnd _) n] at h6
        omega
    refine ⟨hnr, hlt, fun hlt' => ?_⟩
    by_cases hm0 : m = 0
    · exact ⟨[], by simpa using hnr, fun q hq => by
        cases hq with
        | loop h hp j h1 h2 hr hv => omega
        | _ => omega⟩
    have hn : n < TM := by
      have : n * 1 ≤ n * rnd (nodeAt A x) := Int.mul_le_mul_of_nonneg_left (by omega) e0
      omega
    obtain ⟨Ls, l1, l2, l3⟩ := e2 hn
    obtain ⟨L0, rfl⟩ : ∃ L0, Ls = [L0] := by
      rw [hl] at l1
      exact List.length_eq_one_iff.1 l1
    refine ⟨((List.range m).map (fun j => L0.map (fun p => theOne A (concatN p (theOne A (loopN A (kid (nodeAt A x) 0) (loR (nodeAt A x).lo (j + 1)) (hiR (nodeAt A x).hi (j + 1)))))))).flatten, ?_, fun q hq => ?_⟩
    · have e : ∀ (k : Nat), (((List.range k).map (fun j => L0.map (fun p => theOne A (concatN p (theOne A (loopN A (kid (nodeAt A x) 0) (loR (nodeAt A x).lo (j + 1)) (hiR (nodeAt A x).hi (j + 1)))))))).flatten).length = L0.length * k := by
        intro k
        induction k with
        | zero => simp
        | succ k ih => rw [List.range_succ, List.map_append, List.flatten_append, List.length_append, ih]; simp [Nat.mul_succ]
      rw [e, hm]
      have : (L0.length : Int) ≤ n := by simpa using l2
      rw [Int.natCast_mul]
      exact Int.mul_le_mul_of_nonneg_right this (by omega)
    · cases hq with
      | @loop _ p _ r h hp j h1 h2 hr hv =>
        have hin := l3 0 (by omega) _ hp
        refine List.mem_flatten.2 ⟨_, List.mem_map.2 ⟨j - 1, List.mem_range.2 (by omega), rfl⟩, List.mem_map.2 ⟨p, by simpa using hin, ?_⟩⟩
        rw [show j - 1 + 1 = j by omega, theOne_eq hA hr, theOne_eq hA hv]
      | _ => omega

/-! ### what is reached -/
structure Stp (S : List Nd → Int → Int → List Int → Prop) : Prop where
  valid : ∀ {A c x l}, Wf A → Valid A x → S A c x l → ∀ q ∈ l, Valid A q
  le : ∀ {A B c x l}, Wf A → Wf B → Le A B → Valid A x → S A c x l → S B c x l
  uniq : ∀ {A c x l l'}, Wf A → S A c x l → S A c x l' → l = l'

theorem stpPar : Stp Par := ⟨fun hA hx h => h.valid hA hx, fun hA hB hAB hx h => h.le hA hB hAB hx, fun hA h k => h.uniq hA k⟩

inductive Rc (S : List Nd → Int → Int → List Int → Prop) (A : List Nd) (cs : List Int) (r : Int) : Int → Prop
  | refl : Rc S A cs r r
  | step {q c d : Int} {l : List Int} (h : Rc S A cs r q) (hc : c ∈ cs) (hs : S A c q l) (hd : d ∈ l) : Rc S A cs r d

variable {S : List Nd → Int → Int → List Int → Prop}
theorem Rc.valid (hS : Stp S) {A : List Nd} (hA : Wf A) {cs : List Int} {r q : Int} (hr : Valid A r) (h : Rc S A cs r q) : Valid A q := by
  induction h with
  | refl => exact hr
  | step h hc hs hd ih => exact hS.valid hA ih hs _ hd
theorem Rc.le (hS : Stp S) {A B : List Nd} (hA : Wf A) (hB : Wf B) (hAB : Le A B) {cs : List Int} {r q : Int} (hr : Valid A r) (h : Rc S A cs r q) : Rc S B cs r q := by
  induction h with
  | refl => exact .refl
  | step h hc hs hd ih => exact .step ih hc (hS.le hA hB hAB (h.valid hS hA hr) hs) hd

/-- K is closed. -/
def Shut (S : List Nd → Int → Int → List Int → Prop) (A : List Nd) (cs : List Int) (K : List Int) : Prop := ∀ x ∈ K, ∀ c ∈ cs, ∃ l, S A c x l ∧ ∀ d ∈ l, d ∈ K
theorem Shut.all (hS : Stp S) {A : List Nd} (hA : Wf A) {cs K : List Int} (h : Shut S A cs K) {r q : Int} (hr : r ∈ K) (k : Rc S A cs r q) : q ∈ K := by
  induction k with
  | refl => exact hr
  | step k hc hs hd ih =>
    obtain ⟨l, h1, h2⟩ := h _ ih _ hc
    rw [hS.uniq hA hs h1] at hd
    exact h2 _ hd
theorem Shut.le (hS : Stp S) {A B : List Nd} (hA : Wf A) (hB : Wf B) (hAB : Le A B) {cs K : List Int} (hv : ∀ x ∈ K, Valid A x) (h : Shut S A cs K) : Shut S B cs K := fun x hx c hc => by
  obtain ⟨l, h1, h2⟩ := h x hx c hc
  exact ⟨l, hS.le hA hB hAB (hv x hx) h1, h2⟩

theorem nodup_sub : ∀ {l m : List Int}, l.Nodup → (∀ x ∈ l, x ∈ m) → l.length ≤ m.length
  | [], m, _, _ => Nat.zero_le _
  | a :: l, m, hn, hs => by
    have ha := hs a (List.mem_cons_self ..)
    have hn' := List.nodup_cons.1 hn
    have := nodup_sub (l := l) (m := m.erase a) hn'.2 (fun x hx => by
      have hne : x ≠ a := fun e => hn'.1 (e ▸ hx)
      exact (List.mem_erase_of_ne hne).2 (hs x (List.mem_cons_of_mem _ hx)))
    rw [List.length_erase_of_mem ha] at this
    have := List.length_pos_of_mem ha
    simp only [List.length_cons]
    omega

/-- What agrees asks for. -/
theorem agree_fact (hS : Stp S) {A1 A2 : List Nd} (h1 : Wf A1) (h2 : Wf A2) (h12 : Le A1 A2) {cs : List Int} {r : Int} (hr : Valid A1 r) {K L : List Int} {kw wh : Bool} {limit : Int}
    (hKn : K.Nodup) (hKr : r ∈ K) (hKc : ∀ x ∈ K, Rc S A1 cs r x) (hKw : kw = true → Shut S A1 cs K) (hK2 : kw = false → 120 < K.length)
    (hLn : L.Nodup) (hLr : r ∈ L) (hLc : ∀ x ∈ L, Rc S A2 cs r x) (hLw : wh = true → Shut S A2 cs L ∧ (L.length : Int) ≤ limit) (hL2 : wh = false → (L.length : Int) = max limit 0 + 1) (hlim : limit ≤ 120) :
    wh = (kw && decide ((K.length : Int) ≤ limit)) ∧ (wh = true → L.length = K.length) ∧ (kw = true → ∀ s ∈ L, s ∈ K) := by
  have hKv : ∀ x ∈ K, Valid A1 x := fun x hx => (hKc x hx).valid hS h1 hr
  have hKL : wh = true → K.length ≤ L.length := fun h => nodup_sub hKn (fun x hx => (hLw h).1.all hS h2 hLr ((hKc x hx).le hS h1 h2 h12 hr))
  have hLK : kw = true → ∀ s ∈ L, s ∈ K := fun h s hs => ((hKw h).le hS h1 h2 h12 hKv).all hS h2 hKr (hLc s hs)
  have hLK2 : kw = true → L.length ≤ K.length := fun h => nodup_sub hLn (hLK h)
  have hK0 := List.length_pos_of_mem hKr
  cases wh with
  | true =>
    have hw := hLw rfl
    have h3 := hKL rfl
    cases kw with
    | true =>
      have h4 := hLK2 rfl
      refine ⟨?_, fun _ => by omega, fun _ => hLK rfl⟩
      simp
      have := hw.2
      omega
    | false =>
      have := hK2 rfl
      have := hw.2
      omega
  | false =>
    have hl := hL2 rfl
    cases kw with
    | true =>
      have h4 := hLK2 rfl
      refine ⟨?_, (fun h => by cases h), fun _ => hLK rfl⟩
      simp
      omega
    | false => exact ⟨by simp, (fun h => by cases h), (fun h => by cases h)⟩

/-- What is reached by Antimirov's derivatives are candidates. -/
theorem Rc.cd {A : List Nd} (hA : Wf A) {cs : List Int} {r q : Int} (hr : Valid A r) (h : Rc Par A cs r q) : q = r ∨ Cd A r q := by
  induction h with
  | refl => exact Or.inl rfl
  | step h hc hs hd ih =>
    rcases ih with rfl | ih
    · exact Or.inr (hs.cd hA hr _ hd)
    · exact Or.inr (ih.par hA hr hs _ hd)
theorem reached_few {A : List Nd} (hA : Wf A) {cs : List Int} {r n : Int} (hr : Valid A r) (hb : Bd A r n) {K : List Int} (hn : K.Nodup) (hK : ∀ x ∈ K, Rc Par A cs r x) (hl : K.length ≤ 1000000) : (K.length : Int) ≤ plusZ n 1 := by
  unfold plusZ
  split
  · unfold TM; omega
  · rename_i h
    obtain ⟨L, h1, h2⟩ := hb.2.2 (by omega)
    have := nodup_sub (m := r :: L) hn (fun x hx => by
      rcases (hK x hx).cd hA hr with rfl | h
      · exact List.mem_cons_self ..
      · exact List.mem_cons_of_mem _ (h2 x h))
    simp at this
    omega
end Go.Proofs.Qxb6500848aGreatDoor.Pl
