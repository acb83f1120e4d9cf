/-
  The plain side: larger arenas, in which all derivatives are; what covers them.
-/
import Derived.Test.Qxb6500848aGreatDoorPlainI
namespace Go.Proofs.Qxb6500848aGreatDoor.Pl

theorem Val.ex {A : List Nd} {nf : Nf} (hA : Wf A) (h : NfOk A nf) : ∃ B, Le A B ∧ Wf B ∧ ∃ z, Val B nf z := by
  cases nf with
  | id x => exact ⟨A, Le.refl _, hA, x, rfl, h⟩
  | nd n =>
    by_cases he : ∃ j, ∃ h : j < A.length, A[j] = n
    · obtain ⟨j, hj, e⟩ := he
      exact ⟨A, Le.refl _, hA, (j : Int), ⟨by omega, by simpa using hj⟩, by unfold nodeAt; rw [Int.toNat_natCast, getD_lt hj]; exact e⟩
    · exact ⟨A ++ [n], ⟨[n], rfl⟩, wf_snoc hA h (fun j hj e => he ⟨j, hj, e⟩), (A.length : Int), ⟨by omega, by simp⟩, by unfold nodeAt; simp⟩
theorem NfOk.le {A B : List Nd} (hAB : Le A B) {nf : Nf} (h : NfOk A nf) : NfOk B nf := by
  cases nf with
  | id x => exact hAB.valid h
  | nd n =>
    obtain ⟨C, rfl⟩ := hAB
    exact (NdOk.append h (Nat.le_refl _) C).mono (by simp)

theorem Der.exs0 {c : Int} {m : Nat} (ih : ∀ k, k < m → ∀ (A : List Nd) (x : Int), Wf A → Valid A x → x.toNat = k → ∃ B, Le A B ∧ Wf B ∧ ∃ z, Der B c x z) :
    ∀ (l : List Int) (A : List Nd), Wf A → (∀ q ∈ l, Valid A q ∧ q.toNat < m) → ∃ B, Le A B ∧ Wf B ∧ ∀ q ∈ l, Der B c q (dv B c q)
  | [], A, hA, _ => ⟨A, Le.refl _, hA, fun q hq => by cases hq⟩
  | a :: l, A, hA, h => by
    obtain ⟨B1, h1, w1, z, hz⟩ := ih _ (h a (List.mem_cons_self ..)).2 A a hA (h a (List.mem_cons_self ..)).1 rfl
    obtain ⟨B2, h2, w2, hl⟩ := Der.exs0 ih l B1 w1 (fun q hq => ⟨h1.valid (h q (List.mem_cons_of_mem _ hq)).1, (h q (List.mem_cons_of_mem _ hq)).2⟩)
    refine ⟨B2, h1.trans h2, w2, fun q hq => ?_⟩
    rcases List.mem_cons.1 hq with rfl | hq
    · exact dv_der w2 (hz.le w1 w2 h2 (h1.valid (h q (List.mem_cons_self ..)).1))
    · exact hl q hq

theorem Der.ex {c : Int} : ∀ (m : Nat) (A : List Nd) (x : Int), Wf A → Valid A x → x.toNat = m → ∃ B, Le A B ∧ Wf B ∧ ∃ z, Der B c x z := by
  intro m
  induction m using Nat.strongRecOn with
  | ind m ih =>
  intro A x hA hx hm
  subst hm
  have hk := (hA.at hx).kind
  obtain ⟨B, hAB, hB, hd⟩ := Der.exs0 ih (nodeAt A x).kids A hA (fun q hq => hA.kidValid hx hq)
  have en := hAB.node hx
  have hxB := hAB.valid hx
  rw [← en] at hd
  have hkv : ∀ q ∈ (nodeAt B x).kids, Valid B q := fun q hq => (hB.kidValid hxB hq).1
  have hdv : ∀ q ∈ (nodeAt B x).kids, Valid B (dv B c q) := fun q hq => (hd q hq).valid hB (hkv q hq)
  rw [← en] at hk
  have hcs : (nodeAt B x).kind = 0 ∨ (nodeAt B x).kind = 1 ∨ (nodeAt B x).kind = 2 ∨ (nodeAt B x).kind = 3 ∨ (nodeAt B x).kind = 4 ∨ (nodeAt B x).kind = 5 ∨ (nodeAt B x).kind = 6 ∨ (nodeAt B x).kind = 7 ∨ (nodeAt B x).kind = 8 ∨ (nodeAt B x).kind = 9 := by omega
  have many : ∀ (D : List Nd), Le B D → Wf D → (((nodeAt B x).kids.map (dv B c)).length = (nodeAt D x).kids.length ∧ ∀ i, i < ((nodeAt B x).kids.map (dv B c)).length → Der D c (kid (nodeAt D x) i) (((nodeAt B x).kids.map (dv B c)).getD i 0)) := fun D hBD hD => by
    rw [hBD.node hxB]
    refine ⟨by simp, fun i hi => ?_⟩
    have hi' : i < (nodeAt B x).kids.length := by simpa using hi
    rw [getD_lt hi, List.getElem_map]
    have e : kid (nodeAt B x) i = (nodeAt B x).kids[i] := getD_lt hi' _
    rw [e]
    exact (hd _ (List.getElem_mem hi')).le hB hD hBD (hkv _ (List.getElem_mem hi'))
  rcases hcs with k | k | k | k | k | k | k | k | k | k
  · exact ⟨B, hAB, hB, 0, .none (Or.inl k)⟩
  · exact ⟨B, hAB, hB, 0, .none (Or.inr k)⟩
  · exact ⟨B, hAB, hB, 2, .all k⟩
  · exact ⟨B, hAB, hB, _, .cls k rfl⟩
  · have hl := len2 hB hxB k
    have m0 : kid (nodeAt B x) 0 ∈ (nodeAt B x).kids := getD_mem (by omega)
    have m1 : kid (nodeAt B x) 1 ∈ (nodeAt B x).kids := getD_mem (by omega)
    obtain ⟨B2, h2, w2, f, hf⟩ := Val.ex hB (concatN_ok hB (hdv _ m0) (hkv _ m1))
    by_cases hn : lang B (kid (nodeAt B x) 0) []
    · obtain ⟨B3, h3, w3, z, hz⟩ := Val.ex w2 (unionN_ok (xs := [f, dv B c (kid (nodeAt B x) 1)]) w2 (fun q hq => by
        simp at hq
        rcases hq with rfl | rfl
        · exact hf.valid
        · exact h2.valid (hdv _ m1)))
      have h23 := h2.trans h3
      have e3 := h23.node hxB
      refine ⟨B3, hAB.trans h23, w3, z, .cat2 (by rw [e3]; exact k) (d := dv B c (kid (nodeAt B x) 0)) (by rw [e3]; exact (hd _ m0).le hB w3 h23 (hkv _ m0)) (by rw [e3, h23.lang hB w3 (hkv _ m0)]; exact hn) (by rw [e3]; exact hf.le h3) (by rw [e3]; exact (hd _ m1).le hB w3 h23 (hkv _ m1)) ?_⟩
      rw [unionN_le h3 (fun q hq => by
        simp at hq
        rcases hq with rfl | rfl
        · exact hf.valid
        · exact h2.valid (hdv _ m1))]
      exact hz
    · have e3 := h2.node hxB
      exact ⟨B2, hAB.trans h2, w2, f, .cat1 (by rw [e3]; exact k) (d := dv B c (kid (nodeAt B x) 0)) (by rw [e3]; exact (hd _ m0).le hB w2 h2 (hkv _ m0)) (by rw [e3, h2.lang hB w2 (hkv _ m0)]; exact hn) (by rw [e3]; exact hf)⟩
  · have hvl : ∀ q ∈ (nodeAt B x).kids.map (dv B c), Valid B q := fun q hq => by
      obtain ⟨a, ha, rfl⟩ := List.mem_map.1 hq
      exact hdv a ha
    obtain ⟨B2, h2, w2, z, hz⟩ := Val.ex hB (unionN_ok hB hvl)
    obtain ⟨q1, q2⟩ := many B2 h2 w2
    exact ⟨B2, hAB.trans h2, w2, z, .uni (by rw [h2.node hxB]; exact k) _ q1 q2 (by rw [unionN_le h2 hvl]; exact hz)⟩
  · have hvl : ∀ q ∈ (nodeAt B x).kids.map (dv B c), Valid B q := fun q hq => by
      obtain ⟨a, ha, rfl⟩ := List.mem_map.1 hq
      exact hdv a ha
    obtain ⟨B2, h2, w2, z, hz⟩ := Val.ex hB (interN_ok hB hvl)
    obtain ⟨q1, q2⟩ := many B2 h2 w2
    exact ⟨B2, hAB.trans h2, w2, z, .int (by rw [h2.node hxB]; exact k) _ q1 q2 (by rw [interN_le h2 hvl]; exact hz)⟩
  · have hl := len1 hB hxB (Or.inl k)
    have m0 : kid (nodeAt B x) 0 ∈ (nodeAt B x).kids := getD_mem (by omega)
    obtain ⟨B2, h2, w2, z, hz⟩ := Val.ex hB (compN_ok hB (hdv _ m0))
    have e3 := h2.node hxB
    exact ⟨B2, hAB.trans h2, w2, z, .comp (by rw [e3]; exact k) (d := dv B c (kid (nodeAt B x) 0)) (by rw [e3]; exact (hd _ m0).le hB w2 h2 (hkv _ m0)) (by rw [compN_le h2 (hdv _ m0)]; exact hz)⟩
  · have hl := len1 hB hxB (Or.inr (Or.inl k))
    have m0 : kid (nodeAt B x) 0 ∈ (nodeAt B x).kids := getD_mem (by omega)
    by_cases h0 : dv B c (kid (nodeAt B x) 0) = 0
    · exact ⟨B, hAB, hB, 0, .dead (Or.inl k) (by have := hd _ m0; rwa [h0] at this)⟩
    · obtain ⟨B2, h2, w2, z, hz⟩ := Val.ex hB (concatN_ok hB (hdv _ m0) hxB)
      have e3 := h2.node hxB
      exact ⟨B2, hAB.trans h2, w2, z, .star (by rw [e3]; exact k) (by rw [e3]; exact (hd _ m0).le hB w2 h2 (hkv _ m0)) h0 hz⟩
  · have hl := len1 hB hxB (Or.inr (Or.inr k))
    have m0 : kid (nodeAt B x) 0 ∈ (nodeAt B x).kids := getD_mem (by omega)
    by_cases h0 : dv B c (kid (nodeAt B x) 0) = 0
    · exact ⟨B, hAB, hB, 0, .dead (Or.inr k) (by have := hd _ m0; rwa [h0] at this)⟩
    · have hlp := (hB.at hxB).loop k
      obtain ⟨B2, h2, w2, r, hr⟩ := Val.ex hB (loopN_ok (lo := max ((nodeAt B x).lo - 1) 0) (hi := if (nodeAt B x).hi = -1 then -1 else (nodeAt B x).hi - 1) hB (hkv _ m0) (by omega) (by omega) (by split <;> omega) (by split <;> omega))
      obtain ⟨B3, h3, w3, z, hz⟩ := Val.ex w2 (concatN_ok w2 (h2.valid (hdv _ m0)) hr.valid)
      have h23 := h2.trans h3
      have e3 := h23.node hxB
      exact ⟨B3, hAB.trans h23, w3, z, .loop (by rw [e3]; exact k) (by rw [e3]; exact (hd _ m0).le hB w3 h23 (hkv _ m0)) h0 (by rw [e3, loopN_le h23 (hkv _ m0)]; exact hr.le h3) hz⟩

/-- All of a list have derivatives in a larger arena. -/
theorem Der.exs (c : Int) (xs : List Int) {A : List Nd} (hA : Wf A) (hx : ∀ x ∈ xs, Valid A x) : ∃ B, Le A B ∧ Wf B ∧ ∀ x ∈ xs, Der B c x (dv B c x) := by
  have hm : ∃ m, ∀ x ∈ xs, x.toNat < m := ⟨A.length, fun x h => (hx x h).2⟩
  obtain ⟨m, hm⟩ := hm
  exact Der.exs0 (m := m) (fun k _ A x hA hx e => Der.ex k A x hA hx e) xs A hA (fun q hq => ⟨hx q hq, hm q hq⟩)
/-- All of a list of forms have values in a larger arena. -/
theorem Val.exs {α : Type} (nf : α → Nf) : ∀ (l : List α) {A : List Nd}, Wf A → (∀ a ∈ l, NfOk A (nf a)) → ∃ B, Le A B ∧ Wf B ∧ ∀ a ∈ l, ∃ z, Val B (nf a) z
  | [], A, hA, _ => ⟨A, Le.refl _, hA, fun a ha => by cases ha⟩
  | a :: l, A, hA, h => by
    obtain ⟨B1, h1, w1, z, hz⟩ := Val.ex hA (h a (List.mem_cons_self ..))
    obtain ⟨B2, h2, w2, hl⟩ := Val.exs nf l w1 (fun q hq => (h q (List.mem_cons_of_mem _ hq)).le h1)
    refine ⟨B2, h1.trans h2, w2, fun q hq => ?_⟩
    rcases List.mem_cons.1 hq with rfl | hq
    · exact ⟨z, hz.le h2⟩
    · exact hl q hq

/-- What is reached by one character or more. -/
inductive Rd (A : List Nd) (x : Int) : Int → Prop
  | one {c z : Int} (hc : 0 ≤ c ∧ c ≤ 196607) (h : Der A c x z) : Rd A x z
  | step {q c z : Int} (h : Rd A x q) (hc : 0 ≤ c ∧ c ≤ 196607) (hd : Der A c q z) : Rd A x z
theorem Rd.valid {A : List Nd} (hA : Wf A) {x z : Int} (hx : Valid A x) (h : Rd A x z) : Valid A z := by
  induction h with
  | one hc h => exact h.valid hA hx
  | step h hc hd ih => exact hd.valid hA ih
theorem Rd.le {A B : List Nd} (hA : Wf A) (hB : Wf B) (hAB : Le A B) {x z : Int} (hx : Valid A x) (h : Rd A x z) : Rd B x z := by
  induction h with
  | one hc h => exact .one hc (h.le hA hB hAB hx)
  | step h hc hd ih => exact .step ih hc (hd.le hA hB hAB (h.valid hA hx))

/-- L holds all that is ever reached from x, but for 0. -/
structure Cov (A : List Nd) (x : Int) (L : List Int) : Prop where
  val : ∀ z ∈ L, Valid A z
  all : ∀ C, Le A C → Wf C → ∀ z, Rd C x z → z ≠ 0 → z ∈ L
theorem Cov.le {A B : List Nd} {x : Int} {L : List Int} (h : Cov A x L) (hAB : Le A B) : Cov B x L :=
  ⟨fun z hz => hAB.valid (h.val z hz), fun C hC wC => h.all C (hAB.trans hC) wC⟩

/-- Counting by forms. -/
theorem cov_of {α : Type} {B : List Nd} {x : Int} (hB : Wf B) (Fs : List α) (nf : α → Nf) (hok : ∀ a ∈ Fs, NfOk B (nf a))
    (h : ∀ C, Le B C → Wf C → ∀ z, Rd C x z → z ≠ 0 → ∃ a ∈ Fs, ∃ D, Le C D ∧ Wf D ∧ Val D (nf a) z) :
    ∃ B' L, Le B B' ∧ Wf B' ∧ Cov B' x L ∧ L.length ≤ Fs.length ∧ ((∃ a ∈ Fs, Val B (nf a) 0) → L.length + 1 ≤ Fs.length) := by
  obtain ⟨B', h1, w1, hv⟩ := Val.exs nf Fs hB hok
  have hone : ∀ a ∈ Fs, Val B' (nf a) (theOne B' (nf a)) := fun a ha => by
    obtain ⟨z, hz⟩ := hv a ha
    rw [theOne_eq w1 hz]; exact hz
  refine ⟨B', (Fs.map (fun a => theOne B' (nf a))).filter (fun z => decide (z ≠ 0)), h1, w1, ⟨fun z hz => ?_, fun C hC wC z hz hz0 => ?_⟩, ?_, fun ⟨a, ha, h0⟩ => ?_⟩
  · obtain ⟨a, ha, rfl⟩ := List.mem_map.1 (List.mem_filter.1 hz).1
    exact (hone a ha).valid
  · obtain ⟨a, ha, D, hD, wD, hval⟩ := h C (h1.trans hC) wC z hz hz0
    have e : z = theOne B' (nf a) := hval.uniq wD ((hone a ha).le (hC.trans hD))
    exact List.mem_filter.2 ⟨List.mem_map.2 ⟨a, ha, e.symm⟩, by simpa using hz0⟩
  · have := List.length_filter_le (fun z => decide (z ≠ 0)) (Fs.map (fun a => theOne B' (nf a)))
    simpa using this
  · have e : theOne B' (nf a) = 0 := theOne_eq w1 (h0.le h1)
    have := (List.length_filter_lt_length_iff_exists (p := fun z => decide (z ≠ 0)) (l := Fs.map (fun a => theOne B' (nf a)))).2 ⟨0, List.mem_map.2 ⟨a, ha, e⟩, by simp⟩
    rw [List.length_map] at this
    omega

/-! ### tuples and subsets -/
def prodL : List (List Int) → List (List Int)
  | [] => [[]]
  | l :: ls => l.flatMap fun a => (prodL ls).map (a :: ·)
theorem prodL_len : ∀ (l : List Int) (ls : List (List Int)), (prodL (l :: ls)).length = l.length * (prodL ls).length
  | [], ls => by simp [prodL]
  | a :: l, ls => by
    have ih := prodL_len l ls
    simp only [prodL, List.flatMap_cons, List.length_append, List.length_map, List.length_cons] at ih ⊢
    rw [ih, Nat.add_mul]
    omega
theorem mem_prodL : ∀ {ls : List (List Int)} {t : List Int}, t ∈ prodL ls ↔ t.length = ls.length ∧ ∀ i, i < t.length → t.getD i 0 ∈ ls.getD i []
  | [], t => by
    simp only [prodL, List.mem_singleton]
    constructor
    · rintro rfl; exact ⟨rfl, fun i hi => by simp at hi⟩
    · rintro ⟨h, _⟩; exact List.length_eq_zero_iff.1 h
  | l :: ls, t => by
    simp only [prodL, List.mem_flatMap, List.mem_map]
    constructor
    · rintro ⟨a, ha, t', ht', rfl⟩
      obtain ⟨h1, h2⟩ := mem_prodL.1 ht'
      refine ⟨by simp [h1], fun i hi => ?_⟩
      cases i with
      | zero => simpa using ha
      | succ i => simpa using h2 i (by simpa using hi)
    · rintro ⟨h1, h2⟩
      cases t with
      | nil => simp at h1
      | cons a t =>
        refine ⟨a, by simpa using h2 0 (by simp), t, mem_prodL.2 ⟨by simpa using h1, fun i hi => ?_⟩, rfl⟩
        simpa using h2 (i + 1) (by simpa using hi)
def subs {α : Type} : List α → List (List α)
  | [] => [[]]
  | a :: l => subs l ++ (subs l).map (a :: ·)
theorem subs_len {α : Type} : ∀ (l : List α), (subs l).length = 2 ^ l.length
  | [] => rfl
  | a :: l => by
    simp only [subs, List.length_append, List.length_map, List.length_cons, subs_len l]
    rw [Nat.pow_succ]
    omega
theorem filter_subs {α : Type} (p : α → Bool) : ∀ (l : List α), l.filter p ∈ subs l
  | [] => by simp [subs]
  | a :: l => by
    have ih := filter_subs p l
    simp only [subs, List.mem_append, List.mem_map, List.filter_cons]
    split
    · exact Or.inr ⟨_, ih, rfl⟩
    · exact Or.inl ih
theorem nil_subs {α : Type} : ∀ (l : List α), [] ∈ subs l
  | [] => by simp [subs]
  | a :: l => List.mem_append_left _ (nil_subs l)
theorem subs_sub {α : Type} : ∀ {l s : List α}, s ∈ subs l → ∀ x ∈ s, x ∈ l
  | [], s, h, x, hx => by simp [subs] at h; rw [h] at hx; cases hx
  | a :: l, s, h, x, hx => by
    simp only [subs, List.mem_append, List.mem_map] at h
    rcases h with h | ⟨t, h, rfl⟩
    · exact List.mem_cons_of_mem _ (subs_sub h x hx)
    · rcases List.mem_cons.1 hx with rfl | hx
      · exact List.mem_cons_self ..
      · exact List.mem_cons_of_mem _ (subs_sub h x hx)
end Go.Proofs.Qxb6500848aGreatDoor.Pl
