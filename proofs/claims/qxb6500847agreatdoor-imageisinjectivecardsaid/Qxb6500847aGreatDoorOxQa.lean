/-
  What the queries along the tree answer.
-/
import Derived.Test.Qxb6500847aGreatDoorOxG
import Derived.Test.Qxb6500847aGreatDoorOxB
import Derived.Test.Qxb6500847aGreatDoorOsRc
namespace Go.Proofs.Qxb6500847aGreatDoor.Os
open Go.RowKit FloorA
set_option maxRecDepth 100000
/-- References in memory. -/
def IsR (B0 : Nat) (w : World) (v : Value) (l : List (Nat × Int)) : Prop := Sq B0 w v l.length (refL l)
theorem IsR.nil (B0 : Nat) (w : World) : IsR B0 w (.slice none 0 0) [] := Sq.nil B0 w
theorem IsR.below {B0 : Nat} {w w' : World} {v : Value} {l : List (Nat × Int)} (h : IsR B0 w v l) (k : Below w.heap.size w w') : IsR B0 w' v l := Sq.below h k
theorem IsR.mono {B0 B : Nat} {w : World} {v : Value} {l : List (Nat × Int)} (h : IsR B0 w v l) (k : B ≤ B0) : IsR B w v l := Sq.mono h k
theorem IsR.at {B0 R : Nat} {w : World} {l : List (Nat × Int)} {c : Nat} (h : w.rangeAt R 0 (refL l)) (hR : B0 ≤ R) : IsR B0 w (.slice (some ⟨R, 0, none⟩) l.length c) l := ⟨_, c, rfl, fun _ => ⟨R, 0, rfl, hR, h⟩⟩
/-- An entry as a reference. -/
def rfM (M : Nat → En) (c : Nat) : Nat × Int := (c, (M c).gen)
/-- The way up from a parent's number. -/
def Up (M : Nat → En) : Int → List Nat → Prop
  | x, [] => x = 65535
  | x, p :: r => x = (p : Int) ∧ p < 320 ∧ Up M (M p).par r
theorem Up.uniq {M : Nat → En} : ∀ {l l' : List Nat} {x : Int}, Up M x l → Up M x l' → l = l'
  | [], [], _, _, _ => rfl
  | [], q :: r', x, h, h' => by
    have h1 : x = 65535 := h
    have h2 := h'.1
    have h3 := h'.2.1
    omega
  | p :: r, [], x, h, h' => by
    have h1 : x = 65535 := h'
    have h2 := h.1
    have h3 := h.2.1
    omega
  | p :: r, q :: r', x, h, h' => by
    have e : p = q := by have := h.1; have := h'.1; omega
    subst e
    rw [Up.uniq h.2.2 h'.2.2]
noncomputable def ancM (M : Nat → En) (i : Nat) : List Nat := open Classical in if h : ∃ l, Up M (M i).par l then Classical.choose h else []
theorem anc_eq {M : Nat → En} {i : Nat} {l : List Nat} (h : Up M (M i).par l) : ancM M i = l := by
  have hx : ∃ l, Up M (M i).par l := ⟨l, h⟩
  unfold ancM
  rw [dif_pos hx]
  exact (Classical.choose_spec hx).uniq h
/-- Generation. -/
def genX (M : Nat → En) (i : Nat) : Rs := if i < 320 then ⟨0, [], [(M i).gen, if (M i).typ ≠ 0 then 1 else 0]⟩ else bad 1
/-- Owners. -/
noncomputable def ownX (M : Nat → En) (i : Nat) (g : Int) : Rs := if chk M i g ≠ 0 then bad (chk M i g) else ⟨0, (ancM M i).map (rfM M), []⟩
/-- Within. -/
noncomputable def witX (M : Nat → En) (i : Nat) (g : Int) (j : Nat) (k : Int) : Rs := if chk M i g ≠ 0 then bad (chk M i g) else if chkR M j k ≠ 0 then bad (chkR M j k) else ⟨0, [], [if j ∈ ancM M i then 1 else 0]⟩
/-- Children. -/
noncomputable def chiX (M : Nat → En) (i : Nat) (g : Int) : Rs := if chkR M i g ≠ 0 then bad (chkR M i g) else ⟨0, (kdsM M i).map (rfM M), []⟩
section
variable {s : Av} {tl : Nat → List Int} {ws : Nat → Nat → Nat → Int} {L : Nat → List Nat} {n i j p : Nat} {g k : Int}
theorem par_some (hI : IV s tl L n) (hi : i < 320) (ht : (s.hd i).typ ≠ 0) : (s.hd i).par = 65535 ∨ ∃ p, IsReg s p ∧ (s.hd i).par = (p : Int) ∧ i ∈ L p := by
  obtain ⟨_, b⟩ := hI.tr.all i hi ht
  exact b.imp id (fun ⟨p, hp, e, hm⟩ => ⟨p, hp, e, hm⟩)
theorem up_ex (hI : IV s tl L n) (hi : i < 320) (ht : (s.hd i).typ ≠ 0) : ∃ l, Up (ob s ws) (s.hd i).par l := by
  obtain ⟨r, hr⟩ := hI.rk
  have key : ∀ (m i : Nat), r i ≤ m → i < 320 → (s.hd i).typ ≠ 0 → ∃ l, Up (ob s ws) (s.hd i).par l := by
    intro m
    induction m with
    | zero =>
      intro i hm hi ht
      rcases par_some hI hi ht with e | ⟨p, hp, e, _⟩
      · exact ⟨[], e⟩
      · have := hr i p hi ht e hp.2.1
        omega
    | succ m ih =>
      intro i hm hi ht
      rcases par_some hI hi ht with e | ⟨p, hp, e, _⟩
      · exact ⟨[], e⟩
      · have := hr i p hi ht e hp.2.1
        obtain ⟨l, hl⟩ := ih p (by omega) hp.2.1 (by rw [hp.2.2]; decide)
        exact ⟨p :: l, e, hp.2.1, by rw [ob_at _ _ hp.2.1]; exact hl⟩
  exact key (r i) i (Nat.le_refl _) hi ht
theorem anc_up (hI : IV s tl L n) (hi : i < 320) (ht : (s.hd i).typ ≠ 0) : Up (ob s ws) (s.hd i).par (ancM (ob s ws) i) := by
  obtain ⟨l, hl⟩ := up_ex (ws := ws) hI hi ht
  rw [anc_eq (l := l) (by rw [ob_at _ _ hi]; exact hl)]
  exact hl
/-- A child lies within its region. -/
theorem kid_in (hX : IX s tl L n) (hI : IV s tl L n) (hp : IsReg s p) (hm : i ∈ L p) : (s.hd p).bas ≤ (s.hd i).bas ∧ (s.hd i).bas + (s.hd i).siz ≤ (s.hd p).bas + (s.hd p).siz := by
  obtain ⟨a, b⟩ := hX.gm.chn p hp
  have := a.bounds (hX.pos hI hp) i hm
  omega
/-- Owners lie around what they own. -/
theorem up_in (hX : IX s tl L n) (hI : IV s tl L n) : ∀ {l : List Nat} {i : Nat}, i < 320 → (s.hd i).typ ≠ 0 → Up (ob s ws) (s.hd i).par l → ∀ j ∈ l, j < 320 ∧ (s.hd j).bas ≤ (s.hd i).bas ∧ (s.hd i).bas + (s.hd i).siz ≤ (s.hd j).bas + (s.hd j).siz
  | [], _, _, _, _, j, hj => absurd hj (by simp)
  | p :: r, i, hi, ht, h, j, hj => by
    obtain ⟨h1, h2, h3⟩ := h
    rcases par_some hI hi ht with e | ⟨q, hq, e, hm⟩
    · omega
    · have : q = p := by omega
      subst this
      have k := kid_in hX hI hq hm
      rcases List.mem_cons.1 hj with e2 | e2
      · subst e2; exact ⟨h2, k⟩
      · rw [ob_at _ _ h2] at h3
        have := up_in hX hI h2 (by rw [hq.2.2]; decide) h3 j e2
        omega
theorem genX_ok (hi : i < 320) : genX (ob s ws) i = ⟨0, [], [(s.hd i).gen, if (s.hd i).typ ≠ 0 then 1 else 0]⟩ := by
  unfold genX
  rw [if_pos hi, ob_at _ _ hi]
theorem ownX_dead (h : ¬ Live s i g) : ownX (ob s ws) i g = bad (stale i g) := by
  unfold ownX
  rw [if_pos (stale_nz h), chk_stale h]
theorem ownX_ok (h : Live s i g) {l : List Nat} (hl : Up (ob s ws) (s.hd i).par l) : ownX (ob s ws) i g = ⟨0, l.map (rfM (ob s ws)), []⟩ := by
  unfold ownX
  rw [chk_live h, if_neg (by simp), anc_eq (l := l) (by rw [ob_at _ _ h.1]; exact hl)]
theorem witX_dead (h : ¬ Live s i g) : witX (ob s ws) i g j k = bad (stale i g) := by
  unfold witX
  rw [if_pos (stale_nz h), chk_stale h]
theorem witX_reg {c : Int} (h : Live s i g) (hc : c = if Live s j k then 3 else stale j k) (h2 : ¬ (Live s j k ∧ (s.hd j).typ = 1)) : witX (ob s ws) i g j k = bad c := by
  unfold witX
  rw [chk_live h, if_neg (by simp)]
  by_cases q : Live s j k
  · have h3 : (s.hd j).typ ≠ 1 := fun e => h2 ⟨q, e⟩
    rw [chkR_obj q h3, if_pos (by decide), hc, if_pos q]
  · rw [chkR_dead q, if_pos (stale_ne j k), hc, if_neg q]
theorem witX_ok (h : Live s i g) (h2 : Live s j k) (h3 : (s.hd j).typ = 1) {l : List Nat} (hl : Up (ob s ws) (s.hd i).par l) : witX (ob s ws) i g j k = ⟨0, [], [if j ∈ l then 1 else 0]⟩ := by
  unfold witX
  rw [chk_live h, if_neg (by simp), chkR_reg h2 h3, if_neg (by simp), anc_eq (l := l) (by rw [ob_at _ _ h.1]; exact hl)]
theorem chiX_err {c : Int} (hc : c = if Live s i g then 3 else stale i g) (h2 : ¬ (Live s i g ∧ (s.hd i).typ = 1)) : chiX (ob s ws) i g = bad c := by
  unfold chiX
  by_cases q : Live s i g
  · have h3 : (s.hd i).typ ≠ 1 := fun e => h2 ⟨q, e⟩
    rw [chkR_obj q h3, if_pos (by decide), hc, if_pos q]
  · rw [chkR_dead q, if_pos (stale_ne i g), hc, if_neg q]
theorem chiX_ok (hX : IX s tl L n) (hI : IV s tl L n) (h : Live s i g) (hp : IsReg s i) : chiX (ob s ws) i g = ⟨0, (L i).map (rfM (ob s ws)), []⟩ := by
  unfold chiX
  rw [chkR_reg h hp.2.2, if_neg (by simp), kds_eq (kds_reg hX hI hp)]
end
end Go.Proofs.Qxb6500847aGreatDoor.Os
