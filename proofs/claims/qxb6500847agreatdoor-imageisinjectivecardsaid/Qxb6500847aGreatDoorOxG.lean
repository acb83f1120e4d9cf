/-
  Children, watermarks, spare entries: as they are observed.
-/
import Derived.Test.Qxb6500847aGreatDoorOxS
namespace Go.Proofs.Qxb6500847aGreatDoor.Os
open Go.RowKit FloorA
set_option maxRecDepth 100000
theorem sorted_uniq {f : Nat → Int} : ∀ {l l' : List Nat}, l.Pairwise (fun a b => f a < f b) → l'.Pairwise (fun a b => f a < f b) → (∀ x, x ∈ l ↔ x ∈ l') → l = l'
  | [], [], _, _, _ => rfl
  | [], b :: r', _, _, h => absurd ((h b).2 (List.mem_cons_self ..)) (by simp)
  | a :: r, [], _, _, h => absurd ((h a).1 (List.mem_cons_self ..)) (by simp)
  | a :: r, b :: r', p, p', h => by
    obtain ⟨p1, p2⟩ := List.pairwise_cons.1 p
    obtain ⟨q1, q2⟩ := List.pairwise_cons.1 p'
    have e : a = b := by
      rcases List.mem_cons.1 ((h a).1 (List.mem_cons_self ..)) with e | e
      · exact e
      · rcases List.mem_cons.1 ((h b).2 (List.mem_cons_self ..)) with e2 | e2
        · exact e2.symm
        · have := q1 a e
          have := p1 b e2
          omega
    subst e
    rw [sorted_uniq p2 q2 (fun x => ?_)]
    constructor
    · intro hx
      rcases List.mem_cons.1 ((h x).1 (List.mem_cons_of_mem _ hx)) with e | e
      · have := p1 x hx; subst e; omega
      · exact e
    · intro hx
      rcases List.mem_cons.1 ((h x).2 (List.mem_cons_of_mem _ hx)) with e | e
      · have := q1 x hx; subst e; omega
      · exact e
/-- The children of p, by address. -/
def IsK (M : Nat → En) (p : Nat) (l : List Nat) : Prop := (∀ c, c ∈ l ↔ c < 320 ∧ (M c).typ ≠ 0 ∧ (M c).par = (p : Int)) ∧ l.Pairwise (fun a b => (M a).bas < (M b).bas)
theorem IsK.uniq {M : Nat → En} {p : Nat} {l l' : List Nat} (h : IsK M p l) (h' : IsK M p l') : l = l' := sorted_uniq (f := fun a => (M a).bas) h.2 h'.2 (fun x => (h.1 x).trans (h'.1 x).symm)
noncomputable def kdsM (M : Nat → En) (p : Nat) : List Nat := open Classical in if h : ∃ l, IsK M p l then Classical.choose h else []
theorem kds_eq {M : Nat → En} {p : Nat} {l : List Nat} (h : IsK M p l) : kdsM M p = l := by
  have hx : ∃ l, IsK M p l := ⟨l, h⟩
  unfold kdsM
  rw [dif_pos hx]
  exact (Classical.choose_spec hx).uniq h
/-- The watermark of p. -/
noncomputable def topM (M : Nat → En) (p : Nat) : Int :=
  match (kdsM M p).getLast? with
  | none => (M p).bas
  | some c => (M c).bas + (M c).siz
/-- The entries from lo to hi that can be handed out. -/
def spr (M : Nat → En) (lo hi : Nat) : List Nat := (List.range hi).filter (fun i => decide (lo ≤ i ∧ (M i).typ = 0 ∧ (M i).gen < 4294967295))
section
variable {s : Av} {ws : Nat → Nat → Nat → Int} {L : Nat → List Nat} {n p : Nat} {tl : Nat → List Int}
theorem IX.pos (h : IX s tl L n) (hI : IV s tl L n) (hp : IsReg s p) : ∀ c ∈ L p, 0 < (s.hd c).siz := fun c hc => (h.gm.lim c (hI.tr.mem hp hc).1 (hI.tr.mem hp hc).2.1).2.1
theorem kds_reg (h : IX s tl L n) (hI : IV s tl L n) (hp : IsReg s p) : IsK (ob s ws) p (L p) := by
  refine ⟨fun c => ⟨fun hc => ?_, fun hc => ?_⟩, ?_⟩
  · obtain ⟨a, b, d⟩ := hI.tr.mem hp hc
    rw [ob_at _ _ a]
    exact ⟨a, b, d⟩
  · obtain ⟨a, b, d⟩ := hc
    rw [ob_at _ _ a] at b d
    rcases (hI.tr.all c a b).2 with e | ⟨q, hq, e, hm⟩
    · have := hp.2.1
      have d' : (s.hd c).par = (p : Int) := d
      omega
    · have d' : (s.hd c).par = (p : Int) := d
      have : q = p := by omega
      rw [← this]; exact hm
  · refine ((h.gm.chn p hp).1.sorted (h.pos hI hp)).imp_of_mem (fun {a b} ha hb hab => ?_)
    have h1 := hI.tr.mem hp ha
    have h2 := hI.tr.mem hp hb
    have h3 := h.pos hI hp a ha
    rw [ob_at _ _ h1.1, ob_at _ _ h2.1]
    show (s.hd a).bas < (s.hd b).bas
    omega
theorem kds_none (hI : IV s tl L n) (hp : ¬ IsReg s p) (h2 : p < 320) : IsK (ob s ws) p [] := by
  refine ⟨fun c => ⟨fun hc => absurd hc (by simp), fun hc => ?_⟩, List.Pairwise.nil⟩
  obtain ⟨a, b, d⟩ := hc
  rw [ob_at _ _ a] at b d
  have d' : (s.hd c).par = (p : Int) := d
  rcases (hI.tr.all c a b).2 with e | ⟨q, hq, e, _⟩
  · omega
  · have : q = p := by omega
    exact absurd (this ▸ hq) hp
theorem top_reg (h : IX s tl L n) (hI : IV s tl L n) (hp : IsReg s p) : topM (ob s ws) p = (s.rg (p - 256)).top := by
  unfold topM
  rw [kds_eq (kds_reg h hI hp)]
  have hc := (h.gm.chn p hp).1
  have hm : ∀ c ∈ L p, c < 320 := fun c hc => (hI.tr.mem hp hc).1
  rcases snoc_cases (L p) with e | ⟨l, a, e⟩
  · rw [e] at hc ⊢
    show (ob s ws p).bas = _
    rw [ob_at _ _ hp.2.1]
    exact (show (s.rg (p - 256)).top = (s.hd p).bas from hc).symm
  · rw [e] at hc hm ⊢
    simp only [List.getLast?_append, List.getLast?_singleton, Option.some_or]
    rw [hc.end, ob_at _ _ (hm a (by simp))]
theorem idl_iff (h : IX s tl L n) (hI : IV s tl L n) {i : Nat} (hi : i < 320) : Idl s i ↔ (s.hd i).typ = 0 ∧ (s.hd i).gen < 4294967295 := by
  constructor
  · intro q
    obtain ⟨g, eg, _, _, g3⟩ := hI.ge.gen i hi
    exact ⟨hI.ge.idl i hi q, by have := g3 (Or.inr q); omega⟩
  · intro q
    exact h.gm.idl i hi q.1 q.2
theorem spr_len (h : IX s tl L n) (hI : IV s tl L n) {lo hi : Nat} (h3 : hi ≤ 320) : (spr (ob s ws) lo hi).length = cnI s lo hi := by
  unfold spr cnI
  rw [← List.countP_eq_length_filter]
  refine List.countP_congr (fun i hi' => ?_)
  have hi2 : i < 320 := by have : i < hi := by simpa using hi'
                           omega
  rw [ob_at _ _ hi2]
  simp only [decide_eq_true_eq, Bool.and_eq_true]
  exact ⟨fun q => ⟨q.1, (idl_iff h hI hi2).2 q.2⟩, fun q => ⟨q.1, (idl_iff h hI hi2).1 q.2⟩⟩
theorem mem_spr (M : Nat → En) {lo hi i : Nat} : i ∈ spr M lo hi ↔ i < hi ∧ lo ≤ i ∧ (M i).typ = 0 ∧ (M i).gen < 4294967295 := by
  unfold spr
  rw [List.mem_filter]
  simp
end
/-! ### What steps on the tree answer -/
/-- Free. -/
noncomputable def freX (M : Nat → En) (i : Nat) (g : Int) : Int × (Nat → En) :=
  if chk M i g ≠ 0 then (chk M i g, M) else if (M i).typ = 1 ∧ kdsM M i ≠ [] then (12, M) else (0, updM M i (enF ((M i).gen + 1)))
section
variable {s : Av} {ws : Nat → Nat → Nat → Int} {L : Nat → List Nat} {n i : Nat} {g : Int} {tl : Nat → List Int}
theorem freX_dead (h : ¬ Live s i g) : freX (ob s ws) i g = (stale i g, ob s ws) := by
  unfold freX
  rw [if_pos (stale_nz h), chk_stale h]
theorem freX_busy (hX : IX s tl L n) (hI : IV s tl L n) (h : Live s i g) (hp : IsReg s i) (hl : L i ≠ []) : freX (ob s ws) i g = (12, ob s ws) := by
  unfold freX
  rw [chk_live h, if_neg (by simp), kds_eq (kds_reg hX hI hp), if_pos ⟨by rw [ob_at _ _ h.1]; exact hp.2.2, hl⟩]
theorem freX_ok (hX : IX s tl L n) (hI : IV s tl L n) (h : Live s i g) (hl : IsReg s i → L i = []) : freX (ob s ws) i g = (0, updM (ob s ws) i (enF ((s.hd i).gen + 1))) := by
  unfold freX
  rw [chk_live h, if_neg (by simp), if_neg, ob_at _ _ h.1]
  rintro ⟨a, b⟩
  by_cases hp : IsReg s i
  · rw [kds_eq (kds_reg hX hI hp)] at b
    exact b (hl hp)
  · rw [kds_eq (kds_none hI hp h.1)] at b
    exact b rfl
end
end Go.Proofs.Qxb6500847aGreatDoor.Os
