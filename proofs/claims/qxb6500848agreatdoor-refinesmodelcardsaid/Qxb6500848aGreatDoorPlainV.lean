/-
  The plain side: one arena beside another.
-/
import Derived.Test.Qxb6500848aGreatDoorPlainI
import Derived.Test.Qxb6500848aGreatDoorPlainM
import Derived.Test.Qxb6500848aGreatDoorPlainS
namespace Go.Proofs.Qxb6500848aGreatDoor.Pl

/-- Regex x of the arena A and regex y of the arena B are the same, up to the order of the parts of unions and intersections. -/
inductive Sim (A B : List Nd) : Int → Int → Prop
  | mk {x y : Int} (hx : Valid A x) (hy : Valid B y)
      (hk : (nodeAt B y).kind = (nodeAt A x).kind) (hb : (nodeAt B y).bits = (nodeAt A x).bits) (hl : (nodeAt B y).lo = (nodeAt A x).lo) (hh : (nodeAt B y).hi = (nodeAt A x).hi)
      (f g : Int → Int)
      (hf : ∀ a ∈ (nodeAt A x).kids, f a ∈ (nodeAt B y).kids) (hfs : ∀ a ∈ (nodeAt A x).kids, Sim A B a (f a))
      (hg : ∀ b ∈ (nodeAt B y).kids, g b ∈ (nodeAt A x).kids) (hgs : ∀ b ∈ (nodeAt B y).kids, Sim A B (g b) b)
      (ho : (nodeAt A x).kind ≠ 5 → (nodeAt A x).kind ≠ 6 → (nodeAt B y).kids = (nodeAt A x).kids.map f) : Sim A B x y

/-- The same of two nodes. -/
structure NdS (A B : List Nd) (n m : Nd) : Prop where
  hk : m.kind = n.kind
  hb : m.bits = n.bits
  hl : m.lo = n.lo
  hh : m.hi = n.hi
  ex : ∃ f g : Int → Int, (∀ a ∈ n.kids, f a ∈ m.kids) ∧ (∀ a ∈ n.kids, Sim A B a (f a)) ∧ (∀ b ∈ m.kids, g b ∈ n.kids) ∧ (∀ b ∈ m.kids, Sim A B (g b) b) ∧ (n.kind ≠ 5 → n.kind ≠ 6 → m.kids = n.kids.map f)

section
variable {A B A' B' : List Nd} {x y x' y' : Int}

theorem Sim.vx (h : Sim A B x y) : Valid A x := by cases h; assumption
theorem Sim.vy (h : Sim A B x y) : Valid B y := by cases h; assumption
theorem Sim.nd (h : Sim A B x y) : NdS A B (nodeAt A x) (nodeAt B y) := by
  cases h with
  | mk hx hy hk hb hl hh f g hf hfs hg hgs ho => exact ⟨hk, hb, hl, hh, f, g, hf, hfs, hg, hgs, ho⟩
theorem NdS.sim (hx : Valid A x) (hy : Valid B y) (h : NdS A B (nodeAt A x) (nodeAt B y)) : Sim A B x y := by
  obtain ⟨f, g, hf, hfs, hg, hgs, ho⟩ := h.ex
  exact .mk hx hy h.hk h.hb h.hl h.hh f g hf hfs hg hgs ho

theorem Sim.le (hA : Le A A') (hB : Le B B') (h : Sim A B x y) : Sim A' B' x y := by
  induction h with
  | mk hx hy hk hb hl hh f g hf hfs hg hgs ho ihf ihg =>
    refine .mk (hA.valid hx) (hB.valid hy) ?_ ?_ ?_ ?_ f g ?_ ?_ ?_ ?_ ?_
    all_goals (try rw [hA.node hx])
    all_goals (try rw [hB.node hy])
    all_goals first | exact hk | exact hb | exact hl | exact hh | exact hf | exact ihf | exact hg | exact ihg | exact ho

theorem nd_ext {n m : Nd} (h1 : n.kind = m.kind) (h2 : n.bits = m.bits) (h3 : n.kids = m.kids) (h4 : n.lo = m.lo) (h5 : n.hi = m.hi) : n = m := by
  cases n; cases m; simp_all
theorem node_inj (hA : Wf A) (hx : Valid A x) (hx' : Valid A x') (h : nodeAt A x = nodeAt A x') : x = x' := by
  have e : A[x.toNat]'hx.2 = A[x'.toNat]'hx'.2 := by
    have a := getD_lt hx.2 noneNd
    have b := getD_lt hx'.2 noneNd
    unfold nodeAt at h
    rw [← a, ← b, h]
  have := hA.uniq _ _ hx.2 hx'.2 e
  have h1 := hx.1
  have h2 := hx'.1
  omega

/-- The parts of a union or an intersection rise. -/
def Ris (n : Nd) : Prop := n.kind = 5 ∨ n.kind = 6 → n.kids.Pairwise (· < ·)
theorem Wf.ris (hA : Wf A) (hx : Valid A x) : Ris (nodeAt A x) := fun h => h.elim (fun h => ((hA.at hx).nrm.uni h).2.1) (fun h => ((hA.at hx).nrm.int h).2.1)

theorem nds_func {n m m' : Nd} (h : NdS A B n m) (k : NdS A B n m') (hf : ∀ a ∈ n.kids, ∀ b b', Sim A B a b → Sim A B a b' → b = b') (hm : Ris m) (hm' : Ris m') : m = m' := by
  obtain ⟨f, g, p1, p2, p3, p4, p5⟩ := h.ex
  obtain ⟨f', g', q1, q2, q3, q4, q5⟩ := k.ex
  refine nd_ext (by rw [h.hk, k.hk]) (by rw [h.hb, k.hb]) ?_ (by rw [h.hl, k.hl]) (by rw [h.hh, k.hh])
  by_cases hc : n.kind = 5 ∨ n.kind = 6
  · refine rising_ext (hm (by rw [h.hk]; exact hc)) (hm' (by rw [k.hk]; exact hc)) (fun z => ⟨fun hz => ?_, fun hz => ?_⟩)
    · have e := hf _ (p3 z hz) _ _ (p4 z hz) (q2 _ (p3 z hz))
      rw [e]; exact q1 _ (p3 z hz)
    · have e := hf _ (q3 z hz) _ _ (q4 z hz) (p2 _ (q3 z hz))
      rw [e]; exact p1 _ (q3 z hz)
  · rw [p5 (fun e => hc (Or.inl e)) (fun e => hc (Or.inr e)), q5 (fun e => hc (Or.inl e)) (fun e => hc (Or.inr e))]
    exact List.map_congr_left (fun a ha => hf a ha _ _ (p2 a ha) (q2 a ha))

theorem Sim.func (hB : Wf B) (h : Sim A B x y) : ∀ {y'}, Sim A B x y' → y = y' := by
  induction h with
  | @mk x y hx hy hk hb hl hh f g hf hfs hg hgs ho ihf ihg =>
    intro y' k
    exact node_inj hB hy k.vy (nds_func ⟨hk, hb, hl, hh, f, g, hf, hfs, hg, hgs, ho⟩ k.nd (fun a ha b b' h1 h2 => (ihf a ha h1).symm.trans (ihf a ha h2)) (hB.ris hy) (hB.ris k.vy))

theorem Sim.inj (hA : Wf A) (h : Sim A B x y) : ∀ {x'}, Sim A B x' y → x = x' := by
  induction h with
  | @mk x y hx hy hk hb hl hh f g hf hfs hg hgs ho ihf ihg =>
    intro x' k
    obtain ⟨f', g', q1, q2, q3, q4, q5⟩ := k.nd.ex
    refine node_inj hA hx k.vx (nd_ext (by rw [← hk, ← k.nd.hk]) (by rw [← hb, ← k.nd.hb]) ?_ (by rw [← hl, ← k.nd.hl]) (by rw [← hh, ← k.nd.hh]))
    have key : ∀ b ∈ (nodeAt B y).kids, g b = g' b := fun b hb => ihg b hb (q4 b hb)
    have inv : ∀ a ∈ (nodeAt A x).kids, g (f a) = a := fun a ha => ihg _ (hf a ha) (hfs a ha)
    have inv' : ∀ a ∈ (nodeAt A x').kids, g (f' a) = a := fun a ha => ihg _ (q1 a ha) (q2 a ha)
    by_cases hc : (nodeAt A x).kind = 5 ∨ (nodeAt A x).kind = 6
    · have hc' : (nodeAt A x').kind = 5 ∨ (nodeAt A x').kind = 6 := by rw [← k.nd.hk, hk]; exact hc
      refine rising_ext (hA.ris hx hc) (hA.ris k.vx hc') (fun z => ⟨fun hz => ?_, fun hz => ?_⟩)
      · rw [← inv z hz, key _ (hf z hz)]; exact q3 _ (hf z hz)
      · rw [← inv' z hz]; exact hg _ (q1 z hz)
    · have hc' : ¬ ((nodeAt A x').kind = 5 ∨ (nodeAt A x').kind = 6) := by rw [← k.nd.hk, hk]; exact hc
      have e1 := ho (fun e => hc (Or.inl e)) (fun e => hc (Or.inr e))
      have e2 := q5 (fun e => hc' (Or.inl e)) (fun e => hc' (Or.inr e))
      have m1 : (nodeAt B y).kids.map g = (nodeAt A x).kids := by
        rw [e1, List.map_map]
        exact (List.map_congr_left (fun a ha => inv a ha)).trans (List.map_id _)
      have m2 : (nodeAt B y).kids.map g = (nodeAt A x').kids := by
        rw [e2, List.map_map]
        exact (List.map_congr_left (fun a ha => inv' a ha)).trans (List.map_id _)
      rw [← m1, m2]

/-! ### what the two have in common -/
theorem Sim.lang (hA : Wf A) (hB : Wf B) (h : Sim A B x y) : Pl.lang B y = Pl.lang A x := by
  induction h with
  | @mk x y hx hy hk hb hl hh f g hf hfs hg hgs ho ihf ihg =>
    rw [lang_unfold hA hx, lang_unfold hB hy]
    have okA := hA.at hx
    have okB := hB.at hy
    funext w
    unfold sem
    rw [hk, hb, hl, hh]
    by_cases h4 : (nodeAt A x).kind = 4
    · obtain ⟨a, b, e⟩ := okA.two h4
      have e2 := ho (by omega) (by omega)
      have ha := ihf a (by simp [e])
      have hb' := ihf b (by simp [e])
      simp [h4, kid, e, e2, ha, hb']
    · by_cases h7 : (nodeAt A x).kind = 7 ∨ (nodeAt A x).kind = 8 ∨ (nodeAt A x).kind = 9
      · obtain ⟨a, e⟩ := okA.one h7
        have e2 := ho (by omega) (by omega)
        have ha := ihf a (by simp [e])
        rcases h7 with h7 | h7 | h7 <;> simp [h7, kid, e, e2, ha]
      · by_cases h5 : (nodeAt A x).kind = 5
        · simp only [h5]
          simp
          constructor
          · rintro ⟨b, hb, hw⟩
            exact ⟨g b, hg b hb, by rw [← ihg b hb]; exact hw⟩
          · rintro ⟨a, ha, hw⟩
            exact ⟨f a, hf a ha, by rw [ihf a ha]; exact hw⟩
        · by_cases h6 : (nodeAt A x).kind = 6
          · simp only [h6]
            simp
            constructor
            · intro q a ha
              rw [← ihf a ha]; exact q _ (hf a ha)
            · intro q b hb
              rw [ihg b hb]; exact q _ (hg b hb)
          · have e7 : ¬ (nodeAt A x).kind = 7 := fun e => h7 (Or.inl e)
            have e8 : ¬ (nodeAt A x).kind = 8 := fun e => h7 (Or.inr (Or.inl e))
            have e9 : ¬ (nodeAt A x).kind = 9 := fun e => h7 (Or.inr (Or.inr e))
            simp [h4, h5, h6, e7, e8, e9]

theorem sum_bij {s t : Int → Nat} {F G : Int → Int} : ∀ {l m : List Int}, l.Nodup → m.Nodup → (∀ a ∈ l, F a ∈ m ∧ G (F a) = a ∧ t (F a) = s a) → (∀ b ∈ m, G b ∈ l ∧ F (G b) = b) → (m.map t).sum = (l.map s).sum
  | [], m, _, _, _, h => by
    cases m with
    | nil => rfl
    | cons b m => exact absurd (h b (List.mem_cons_self ..)).1 (by simp)
  | a :: l, m, hl, hm, h1, h2 => by
    obtain ⟨q1, q2, q3⟩ := h1 a (List.mem_cons_self ..)
    have hl' := List.nodup_cons.1 hl
    have hp := (List.perm_cons_erase q1).map t
    rw [hp.sum_nat]
    have : ((m.erase (F a)).map t).sum = (l.map s).sum := by
      refine sum_bij (F := F) (G := G) hl'.2 (hm.erase _) (fun b hb => ?_) (fun b hb => ?_)
      · obtain ⟨r1, r2, r3⟩ := h1 b (List.mem_cons_of_mem _ hb)
        refine ⟨(List.mem_erase_of_ne (fun e => ?_)).2 r1, r2, r3⟩
        have : b = a := by rw [← r2, e, q2]
        exact hl'.1 (this ▸ hb)
      · have hbm := List.mem_of_mem_erase hb
        obtain ⟨r1, r2⟩ := h2 b hbm
        refine ⟨?_, r2⟩
        rcases List.mem_cons.1 r1 with e | e
        · exfalso
          rw [e] at r2
          have hne : b ≠ F a := fun e => by
            rw [e] at hb
            exact (List.Nodup.not_mem_erase hm) hb
          exact hne r2.symm
        · exact e
    simp [q3, this]

theorem Sim.inv (hA : Wf A) {f : Int → Int} {n m : Nd} {g : Int → Int} (hf : ∀ a ∈ n.kids, f a ∈ m.kids) (hfs : ∀ a ∈ n.kids, Sim A B a (f a)) (hgs : ∀ b ∈ m.kids, Sim A B (g b) b) : ∀ a ∈ n.kids, g (f a) = a := fun a ha => (hgs _ (hf a ha)).inj hA (hfs a ha)

theorem kids_nodup (hA : Wf A) (hx : Valid A x) (hc : (nodeAt A x).kind = 5 ∨ (nodeAt A x).kind = 6) : (nodeAt A x).kids.Nodup := rising_nodup (hA.ris hx hc)

theorem Sim.size (hA : Wf A) (hB : Wf B) (h : Sim A B x y) : sz B y = sz A x := by
  induction h with
  | @mk x y hx hy hk hb hl hh f g hf hfs hg hgs ho ihf ihg =>
    rw [sz_unfold hA hx, sz_unfold hB hy]
    congr 1
    by_cases hc : (nodeAt A x).kind = 5 ∨ (nodeAt A x).kind = 6
    · exact sum_bij (F := f) (G := g) (kids_nodup hA hx hc) (kids_nodup hB hy (by rw [hk]; exact hc)) (fun a ha => ⟨hf a ha, (hgs _ (hf a ha)).inj hA (hfs a ha), ihf a ha⟩) (fun b hb => ⟨hg b hb, (hfs _ (hg b hb)).func hB (hgs b hb)⟩)
    · rw [ho (fun e => hc (Or.inl e)) (fun e => hc (Or.inr e)), List.map_map]
      congr 1
      exact List.map_congr_left (fun a ha => ihf a ha)

theorem Sim.reach (h : Sim A B x y) {a : Int} (hr : Rch A x a) : ∃ b, Rch B y b ∧ Sim A B a b := by
  induction hr with
  | refl => exact ⟨y, .refl, h⟩
  | step hr hk ih =>
    obtain ⟨b, h1, h2⟩ := ih
    obtain ⟨f, g, p1, p2, _⟩ := h2.nd.ex
    exact ⟨_, .step h1 (p1 _ hk), p2 _ hk⟩
theorem Sim.reach' (h : Sim A B x y) {b : Int} (hr : Rch B y b) : ∃ a, Rch A x a ∧ Sim A B a b := by
  induction hr with
  | refl => exact ⟨x, .refl, h⟩
  | step hr hk ih =>
    obtain ⟨a, h1, h2⟩ := ih
    obtain ⟨f, g, _, _, p3, p4, _⟩ := h2.nd.ex
    exact ⟨_, .step h1 (p3 _ hk), p4 _ hk⟩
theorem Sim.plain (h : Sim A B x y) : PlainR B y ↔ PlainR A x := by
  constructor
  · intro q a ha
    obtain ⟨b, h1, h2⟩ := h.reach ha
    rw [← h2.nd.hk]; exact q b h1
  · intro q b hb
    obtain ⟨a, h1, h2⟩ := h.reach' hb
    rw [h2.nd.hk]; exact q a h1
theorem Sim.cut {tab : Nat → Int} {P : List (List Nat)} (h : Sim A B x y) (k : IsCut tab A x P) : IsCut tab B y P := by
  obtain ⟨F, h1, h2, h3⟩ := k
  refine ⟨F, h1, fun l => ?_, h3⟩
  rw [h2 l]
  constructor
  · rintro ⟨a, ha, q1, q2⟩
    obtain ⟨b, r1, r2⟩ := h.reach ha
    exact ⟨b, r1, by rw [r2.nd.hk]; exact q1, by rw [r2.nd.hb]; exact q2⟩
  · rintro ⟨b, hb, q1, q2⟩
    obtain ⟨a, r1, r2⟩ := h.reach' hb
    exact ⟨a, r1, by rw [← r2.nd.hk]; exact q1, by rw [← r2.nd.hb]; exact q2⟩
end
end Go.Proofs.Qxb6500848aGreatDoor.Pl
