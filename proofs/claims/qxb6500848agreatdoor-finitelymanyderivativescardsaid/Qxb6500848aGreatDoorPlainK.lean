/-
  The plain side: what covers the derivatives, kind by kind.
-/
import Derived.Test.Qxb6500848aGreatDoorPlainJ
namespace Go.Proofs.Qxb6500848aGreatDoor.Pl

theorem nor_le {A B : List Nd} (hAB : Le A B) {k u o : Int} {xs : List Int} (hx : ∀ x ∈ xs, Valid A x) : norN B k u o xs = norN A k u o xs := by
  have e : parts B k u xs = parts A k u xs := by
    unfold parts
    induction xs with
    | nil => rfl
    | cons a l ih =>
      rw [List.flatMap_cons, List.flatMap_cons, hAB.node (hx a (List.mem_cons_self ..)), ih (fun x h => hx x (List.mem_cons_of_mem _ h))]
  unfold norN flat
  rw [e]

theorem Rd.low {C : List Nd} (hC : Wf C) {x z : Int} (h : (nodeAt C x).kind = 0 ∨ (nodeAt C x).kind = 1) (hr : Rd C x z) : z = 0 := by
  induction hr with
  | one hc hd =>
    cases hd with
    | none h => rfl
    | dead h => rfl
    | _ => omega
  | step hr hc hd ih => rw [ih] at hd; exact der0 hC hd
theorem Rd.all {C : List Nd} (hC : Wf C) {x z : Int} (h : (nodeAt C x).kind = 2) (hr : Rd C x z) : z = 2 := by
  induction hr with
  | one hc hd =>
    cases hd with
    | all h => rfl
    | _ => omega
  | step hr hc hd ih => rw [ih] at hd; exact der2 hC hd
theorem Rd.cls {C : List Nd} (hC : Wf C) {x z : Int} (h : (nodeAt C x).kind = 3) (hr : Rd C x z) : z = 0 ∨ z = 1 := by
  induction hr with
  | one hc hd =>
    cases hd with
    | cls h hz => rw [hz]; split; exact Or.inr rfl; exact Or.inl rfl
    | _ => omega
  | step hr hc hd ih =>
    rcases ih with e | e
    · rw [e] at hd; exact Or.inl (der0 hC hd)
    · rw [e] at hd; exact Or.inl (der1 hC hd)
theorem cov_low {A : List Nd} {x : Int} (hx : Valid A x) (h : (nodeAt A x).kind = 0 ∨ (nodeAt A x).kind = 1) : Cov A x [] :=
  ⟨(fun z hz => by cases hz), fun C hC wC z hz h0 => absurd (hz.low wC (by rw [hC.node hx]; exact h)) h0⟩
theorem cov_all {A : List Nd} (hA : Wf A) {x : Int} (hx : Valid A x) (h : (nodeAt A x).kind = 2) : Cov A x [2] :=
  ⟨fun z hz => by rw [List.mem_singleton.1 hz]; exact hA.v2, fun C hC wC z hz _ => by rw [hz.all wC (by rw [hC.node hx]; exact h)]; simp⟩
theorem cov_cls {A : List Nd} (hA : Wf A) {x : Int} (hx : Valid A x) (h : (nodeAt A x).kind = 3) : Cov A x [1] :=
  ⟨fun z hz => by rw [List.mem_singleton.1 hz]; exact hA.v1, fun C hC wC z hz h0 => by
    rcases hz.cls wC (by rw [hC.node hx]; exact h) with e | e
    · exact absurd e h0
    · rw [e]; simp⟩

/-! ### complement -/
theorem comp_rd {C : List Nd} (hC : Wf C) {x z : Int} (hx : Valid C x) (h7 : (nodeAt C x).kind = 7) (hr : Rd C x z) :
    ∃ D, Le C D ∧ Wf D ∧ ∃ y, Rd D (kid (nodeAt C x) 0) y ∧ Val D (compN D y) z := by
  have hl := len1 hC hx (Or.inl h7)
  have hk := (kid_valid hC hx (i := 0) (by omega)).1
  induction hr with
  | one hc hd =>
    cases hd with
    | comp h hd hv => exact ⟨C, Le.refl _, hC, _, .one hc hd, hv⟩
    | _ => omega
  | @step q c z hr hc hd ih =>
    obtain ⟨D, hD, wD, y, hy, hv⟩ := ih
    have hyv := hy.valid wD (hD.valid hk)
    obtain ⟨D2, h2, w2, hds⟩ := Der.exs c [y] wD (fun x hx => by rw [List.mem_singleton.1 hx]; exact hyv)
    have hd2 := hds y (by simp)
    refine ⟨D2, hD.trans h2, w2, dv D2 c y, .step (hy.le wD w2 h2 (hD.valid hk)) hc hd2, ?_⟩
    exact comp_der w2 (h2.valid hyv) (by rw [compN_le h2 hyv]; exact hv.le h2) hd2 (hd.le hC w2 (hD.trans h2) (hr.valid hC hx))
theorem cov_comp {A : List Nd} (hA : Wf A) {x : Int} (hx : Valid A x) (h7 : (nodeAt A x).kind = 7) {L : List Int} (hL : Cov A (kid (nodeAt A x) 0) L) :
    ∃ B L', Le A B ∧ Wf B ∧ Cov B x L' ∧ L'.length ≤ L.length + 1 := by
  have hva : ∀ a ∈ 0 :: L, Valid A a := fun a ha => by
    rcases List.mem_cons.1 ha with rfl | ha
    · exact hA.v0
    · exact hL.val a ha
  obtain ⟨B, L', h1, h2, h3, h4, _⟩ := cov_of (x := x) hA (0 :: L) (fun y => compN A y) (fun a ha => compN_ok hA (hva a ha)) (fun C hC wC z hz hz0 => by
    obtain ⟨D, hD, wD, y, hy, hv⟩ := comp_rd wC (hC.valid hx) (by rw [hC.node hx]; exact h7) hz
    rw [hC.node hx] at hy
    have hm : y ∈ 0 :: L := by
      by_cases e : y = 0
      · rw [e]; simp
      · exact List.mem_cons_of_mem _ (hL.all D (hC.trans hD) wD y hy e)
    exact ⟨y, hm, D, hD, wD, by rw [compN_le (hC.trans hD) (hva y hm)] at hv; exact hv⟩)
  exact ⟨B, L', h1, h2, h3, by simpa using h4⟩

/-! ### unions and intersections -/
theorem tup_rd {k u o : Int} (K : ∀ {D : List Nd}, Wf D → Kuo D k u o) (Dk : ∀ {D : List Nd} (c : Int), Wf D → Kd D c k u o) {C : List Nd} (hC : Wf C) {x z : Int} (hx : Valid C x) (hk : (nodeAt C x).kind = k) (hr : Rd C x z) :
    ∃ D, Le C D ∧ Wf D ∧ ∃ xs : List Int, xs.length = (nodeAt C x).kids.length ∧ (∀ i, i < xs.length → Rd D (kid (nodeAt C x) i) (xs.getD i 0)) ∧ Val D (norN D k u o xs) z := by
  induction hr with
  | @one c z hc hd =>
    obtain ⟨h1, h2⟩ := (Dk c hC).dk x _ hx hk hd
    refine ⟨C, Le.refl _, hC, _, by simp, fun i hi => ?_, h2⟩
    have hi' : i < (nodeAt C x).kids.length := by simpa using hi
    rw [getD_lt hi, List.getElem_map]
    have e : kid (nodeAt C x) i = (nodeAt C x).kids[i] := getD_lt hi' _
    rw [e]
    exact .one hc (h1 _ (List.getElem_mem hi'))
  | @step q c z hr hc hd ih =>
    obtain ⟨D, hD, wD, xs, hl, hxs, hv⟩ := ih
    have hval : ∀ y ∈ xs, Valid D y := fun y hy => by
      obtain ⟨i, hi, rfl⟩ := List.getElem_of_mem hy
      have := hxs i hi
      rw [getD_lt hi] at this
      exact this.valid wD (hD.valid (kid_valid hC hx (by omega)).1)
    obtain ⟨D2, h2, w2, hds⟩ := Der.exs c xs wD hval
    refine ⟨D2, hD.trans h2, w2, xs.map (dv D2 c), by simpa using hl, fun i hi => ?_, ?_⟩
    · have hi' : i < xs.length := by simpa using hi
      rw [getD_lt hi, List.getElem_map]
      have := hxs i hi'
      rw [getD_lt hi'] at this
      exact .step (this.le wD w2 h2 (hD.valid (kid_valid hC hx (by omega)).1)) hc (hds _ (List.getElem_mem hi'))
    · exact nor_der w2 (K w2) (Dk c w2) (fun y hy => h2.valid (hval y hy)) hds (by rw [nor_le h2 hval]; exact hv.le h2) (hd.le hC w2 (hD.trans h2) (hr.valid hC hx))

theorem tup_in {A D : List Nd} (hAD : Le A D) (wD : Wf D) {nd : Nd} {Ls : List (List Int)} (hL : ∀ j, j < nd.kids.length → Cov A (kid nd j) (Ls.getD j [])) {xs : List Int} (hl : xs.length = nd.kids.length) (hxs : ∀ i, i < xs.length → Rd D (kid nd i) (xs.getD i 0)) (i : Nat) (hi : i < xs.length) : xs.getD i 0 = 0 ∨ xs.getD i 0 ∈ Ls.getD i [] := by
  by_cases e : xs.getD i 0 = 0
  · exact Or.inl e
  · exact Or.inr ((hL i (by omega)).all D hAD wD _ (hxs i hi) e)
theorem getD_map {α β : Type} (f : α → β) (l : List α) (i : Nat) (hi : i < l.length) (a : α) (b : β) : (l.map f).getD i b = f (l.getD i a) := by
  rw [getD_lt (by simpa using hi), getD_lt hi, List.getElem_map]

theorem cov_uni {A : List Nd} (hA : Wf A) {x : Int} (hx : Valid A x) (h5 : (nodeAt A x).kind = 5) {Ls : List (List Int)} (hLl : Ls.length = (nodeAt A x).kids.length) (hL : ∀ j, j < (nodeAt A x).kids.length → Cov A (kid (nodeAt A x) j) (Ls.getD j [])) :
    ∃ B L, Le A B ∧ Wf B ∧ Cov B x L ∧ L.length + 1 ≤ (prodL (Ls.map (0 :: ·))).length := by
  have hva : ∀ t ∈ prodL (Ls.map (0 :: ·)), ∀ y ∈ t, Valid A y := fun t ht y hy => by
    obtain ⟨i, hi, rfl⟩ := List.getElem_of_mem hy
    obtain ⟨q1, q2⟩ := mem_prodL.1 ht
    have := q2 i hi
    have hi' : i < Ls.length := by rw [List.length_map] at q1; omega
    rw [getD_lt hi, getD_map (0 :: ·) Ls i hi' [] []] at this
    rcases List.mem_cons.1 this with e | e
    · rw [e]; exact hA.v0
    · exact (hL i (by omega)).val _ e
  obtain ⟨B, L, h1, h2, h3, _, h5'⟩ := cov_of (x := x) hA (prodL (Ls.map (0 :: ·))) (fun t => norN A 5 0 2 t) (fun a ha => unionN_ok hA (hva a ha)) (fun C hC wC z hz hz0 => by
    obtain ⟨D, hD, wD, xs, hl, hxs, hv⟩ := tup_rd (fun w => kuo5 w) (fun c w => kd5 w c) wC (hC.valid hx) (by rw [hC.node hx]; exact h5) hz
    rw [hC.node hx] at hl hxs
    have hm : xs ∈ prodL (Ls.map (0 :: ·)) := mem_prodL.2 ⟨by rw [List.length_map]; omega, fun i hi => by
      rw [getD_map (0 :: ·) Ls i (by omega) [] []]
      rcases tup_in (hC.trans hD) wD hL hl hxs i hi with e | e
      · rw [e]; exact List.mem_cons_self ..
      · exact List.mem_cons_of_mem _ e⟩
    exact ⟨xs, hm, D, hD, wD, by rw [nor_le (hC.trans hD) (hva xs hm)] at hv; exact hv⟩)
  refine ⟨B, L, h1, h2, h3, h5' ⟨List.replicate Ls.length 0, mem_prodL.2 ⟨by simp, fun i hi => ?_⟩, ?_⟩⟩
  · have hi' : i < Ls.length := by simpa using hi
    rw [getD_map (0 :: ·) Ls i hi' [] [], getD_lt hi, List.getElem_replicate]
    exact List.mem_cons_self ..
  · have e : norN A 5 0 2 (List.replicate Ls.length 0) = norN A 5 0 2 [0] := nor_set (fun z hz => by
      constructor
      · intro h; exact absurd (List.eq_of_mem_replicate h) hz
      · intro h; exact absurd (List.mem_singleton.1 h) hz) (kuo5 hA)
    rw [e]
    exact nor_self hA (kuo5 hA) hA.v0

theorem tup_alive {D : List Nd} (wD : Wf D) {xs : List Int} {z : Int} (hv : Val D (norN D 6 2 0 xs) z) (hz0 : z ≠ 0) (i : Nat) (hi : i < xs.length) : xs.getD i 0 ≠ 0 := fun e => by
  rw [getD_lt hi] at e
  have hm : (0 : Int) ∈ xs := by rw [← e]; exact List.getElem_mem hi
  rw [nor_o (mem_o (kuo6 wD) hm)] at hv
  exact hz0 hv.1.symm
theorem cov_int {A : List Nd} (hA : Wf A) {x : Int} (hx : Valid A x) (h6 : (nodeAt A x).kind = 6) {Ls : List (List Int)} (hLl : Ls.length = (nodeAt A x).kids.length) (hL : ∀ j, j < (nodeAt A x).kids.length → Cov A (kid (nodeAt A x) j) (Ls.getD j [])) :
    ∃ B L, Le A B ∧ Wf B ∧ Cov B x L ∧ L.length ≤ (prodL Ls).length := by
  have hva : ∀ t ∈ prodL Ls, ∀ y ∈ t, Valid A y := fun t ht y hy => by
    obtain ⟨i, hi, rfl⟩ := List.getElem_of_mem hy
    obtain ⟨q1, q2⟩ := mem_prodL.1 ht
    have := q2 i hi
    rw [getD_lt hi] at this
    exact (hL i (by omega)).val _ this
  obtain ⟨B, L, h1, h2, h3, h4, _⟩ := cov_of (x := x) hA (prodL Ls) (fun t => norN A 6 2 0 t) (fun a ha => interN_ok hA (hva a ha)) (fun C hC wC z hz hz0 => by
    obtain ⟨D, hD, wD, xs, hl, hxs, hv⟩ := tup_rd (fun w => kuo6 w) (fun c w => kd6 w c) wC (hC.valid hx) (by rw [hC.node hx]; exact h6) hz
    rw [hC.node hx] at hl hxs
    have hm : xs ∈ prodL Ls := mem_prodL.2 ⟨by omega, fun i hi => (tup_in (hC.trans hD) wD hL hl hxs i hi).resolve_left (tup_alive wD hv hz0 i hi)⟩
    exact ⟨xs, hm, D, hD, wD, by rw [nor_le (hC.trans hD) (hva xs hm)] at hv; exact hv⟩)
  exact ⟨B, L, h1, h2, h3, h4⟩
/-- One part has no derivative but 0. -/
theorem cov_int0 {A : List Nd} {x : Int} (hx : Valid A x) (h6 : (nodeAt A x).kind = 6) {j : Nat} (hj : j < (nodeAt A x).kids.length) (hL : Cov A (kid (nodeAt A x) j) []) : Cov A x [] :=
  ⟨fun z hz => (by cases hz), fun C hC wC z hz hz0 => by
    obtain ⟨D, hD, wD, xs, hl, hxs, hv⟩ := tup_rd (fun w => kuo6 w) (fun c w => kd6 w c) wC (hC.valid hx) (by rw [hC.node hx]; exact h6) hz
    rw [hC.node hx] at hl hxs
    have := hL.all D (hC.trans hD) wD _ (hxs j (by omega)) (tup_alive wD hv hz0 j (by omega))
    cases this⟩
end Go.Proofs.Qxb6500848aGreatDoor.Pl
