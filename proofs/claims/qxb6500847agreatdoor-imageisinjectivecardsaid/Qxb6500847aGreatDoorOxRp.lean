/-
  What Fit and Retype answer.
-/
import Derived.Test.Qxb6500847aGreatDoorOxRb
import Derived.Test.Qxb6500847aGreatDoorOxX
namespace Go.Proofs.Qxb6500847aGreatDoor.Os
open Go.RowKit FloorA
set_option maxRecDepth 100000
/-- The code with which place refuses, as it is observed. -/
def plM (M : Nat → En) (i : Nat) (g : Int) (t bt : Nat) : Int := if chkR M i g ≠ 0 then chkR M i g else szC t bt
def loT (t : Nat) : Nat := if t = 1 then 256 else 0
def hiT (t : Nat) : Nat := if t = 1 then 320 else 256
/-- The free rows of a table. -/
def rmM (M : Nat → En) (t : Nat) : Int := if t = 1 then 64 else (nR (t - 2) : Int) - sumF (fun i => one ((M i).typ = (t : Int))) 320
noncomputable def stM (M : Nat → En) (i t bt : Nat) : Nat := alU (topM M i).toNat (2 ^ szQ t bt)
noncomputable def spM (M : Nat → En) (i t bt : Nat) : Nat := spN ((M i).bas + (M i).siz).toNat (stM M i t bt) (2 ^ szQ t bt)
/-- Fit. -/
noncomputable def fitX (M : Nat → En) (i : Nat) (g : Int) (t bt : Nat) : Rs :=
  if plM M i g t bt ≠ 0 then bad (plM M i g t bt) else ⟨0, [], [min (min (if spM M i t bt < 32 then (spM M i t bt : Int) else 32) ((spr M (loT t) (hiT t)).length : Int)) (rmM M t)]⟩
/-- New objects, side by side from st on. -/
def grw (p t z : Nat) : (Nat → En) → Nat → List Nat → Nat → En
  | M, _, [] => M
  | M, st, c :: r => grw p t z (updM M c ⟨(M c).gen, (t : Int), (st : Int), (z : Int), (p : Int), zw t⟩) (st + z) r
theorem grw_snoc (p t z : Nat) (c : Nat) : ∀ (l : List Nat) (M : Nat → En) (st : Nat), grw p t z M st (l ++ [c]) = updM (grw p t z M st l) c ⟨(grw p t z M st l c).gen, (t : Int), ((st + l.length * z : Nat) : Int), (z : Int), (p : Int), zw t⟩
  | [], M, st => by
    show updM M c _ = updM M c ⟨(M c).gen, _, _, _, _, _⟩
    simp
  | d :: r, M, st => by
    show grw p t z (updM M d _) (st + z) (r ++ [c]) = _
    rw [grw_snoc p t z c r]
    show updM (grw p t z (updM M d _) (st + z) r) c _ = updM (grw p t z (updM M d _) (st + z) r) c _
    have : st + z + r.length * z = st + (r.length + 1) * z := by rw [Nat.succ_mul]; omega
    rw [this]
    rfl
/-- Retype. -/
noncomputable def retX (M : Nat → En) (i : Nat) (g : Int) (t bt k : Nat) : Rs × (Nat → En) :=
  if plM M i g t bt ≠ 0 then (bad (plM M i g t bt), M) else if k < 1 ∨ 32 < k then (bad 6, M) else if spM M i t bt < k then (bad 7, M)
  else if (spr M (loT t) (hiT t)).length < k then (bad 8, M) else if rmM M t < (k : Int) then (bad 9, M)
  else (⟨0, ((spr M (loT t) (hiT t)).take k).map (fun c => (c, (M c).gen)), []⟩, grw i t (2 ^ szQ t bt) M (stM M i t bt) ((spr M (loT t) (hiT t)).take k))
section
variable {s : Av} {tl : Nat → List Int} {ws : Nat → Nat → Nat → Int} {L : Nat → List Nat} {n i t bt k : Nat} {g : Int}
theorem plM_eq (s : Av) (ws : Nat → Nat → Nat → Int) (i : Nat) (g : Int) (t bt : Nat) : plM (ob s ws) i g t bt = plC s i g t bt := by
  unfold plM plC
  by_cases h : Live s i g
  · by_cases h1 : (s.hd i).typ = 1
    · rw [chkR_reg h h1, if_neg (by simp), if_pos ⟨h, h1⟩]
    · rw [chkR_obj h h1, if_pos (by decide), if_neg (fun q => h1 q.2), if_pos h]
  · rw [chkR_dead h, if_pos (stale_ne i g), if_neg (fun q => h q.1), if_neg h]
theorem rmM_eq (hX : IX s tl L n) (t1 : t ≠ 1) (t2 : 1 ≤ t) (t7 : t ≤ 7) : rmM (ob s ws) t = ((tl (t - 2)).length : Int) := by
  unfold rmM
  rw [if_neg t1]
  have h := hX.ct.tl (t - 2) (by omega)
  have e : sumF (fun i => one ((ob s ws i).typ = (t : Int))) 320 = sumF (fun i => one ((s.hd i).typ = ((t - 2 + 2 : Nat) : Int))) 320 := sumF_congr (fun i hi => by
    show one _ = one _
    rw [ob_at _ _ hi, show t - 2 + 2 = t by omega])
  rw [e]
  omega
theorem stM_eq (hX : IX s tl L n) (hI : IV s tl L n) (hp : IsReg s i) {T : Nat} (hT : (s.rg (i - 256)).top = (T : Int)) : stM (ob s ws) i t bt = alU T (2 ^ szQ t bt) := by
  unfold stM
  rw [top_reg hX hI hp, hT, Int.toNat_natCast]
theorem spM_eq (hX : IX s tl L n) (hI : IV s tl L n) (hp : IsReg s i) {T E : Nat} (hT : (s.rg (i - 256)).top = (T : Int)) (hE : (s.hd i).bas + (s.hd i).siz = (E : Int)) : spM (ob s ws) i t bt = spN E (alU T (2 ^ szQ t bt)) (2 ^ szQ t bt) := by
  unfold spM
  rw [stM_eq hX hI hp hT, ob_at _ _ hp.2.1]
  show spN ((s.hd i).bas + (s.hd i).siz).toNat _ _ = _
  rw [hE, Int.toNat_natCast]
theorem fe_eq (hX : IX s tl L n) (hI : IV s tl L n) (t : Nat) : (spr (ob s ws) (loT t) (hiT t)).length = cnI s (loT t) (hiT t) := spr_len hX hI (by unfold hiT; split <;> omega)
theorem fitX_err {c : Int} (h : plC s i g t bt = c) (hc : c ≠ 0) : fitX (ob s ws) i g t bt = bad c := by
  unfold fitX
  rw [plM_eq, h, if_pos hc]
theorem fitX_ok (h : plC s i g t bt = 0) {sp fe : Nat} {rm : Int} (h1 : spM (ob s ws) i t bt = sp) (h2 : (spr (ob s ws) (loT t) (hiT t)).length = fe) (h3 : rmM (ob s ws) t = rm) : fitX (ob s ws) i g t bt = ⟨0, [], [min (min (if sp < 32 then (sp : Int) else 32) (fe : Int)) rm]⟩ := by
  unfold fitX
  rw [plM_eq, h, if_neg (by simp), h1, h2, h3]
theorem retX_err {c : Int} (h : plC s i g t bt = c) (hc : c ≠ 0) : retX (ob s ws) i g t bt k = (bad c, ob s ws) := by
  unfold retX
  rw [plM_eq, h, if_pos hc]
theorem retX_cnt (h : plC s i g t bt = 0) (hk : k < 1 ∨ 32 < k) : retX (ob s ws) i g t bt k = (bad 6, ob s ws) := by
  unfold retX
  rw [plM_eq, h, if_neg (by simp), if_pos hk]
theorem retX_spc (h : plC s i g t bt = 0) (hk : ¬ (k < 1 ∨ 32 < k)) (h1 : spM (ob s ws) i t bt < k) : retX (ob s ws) i g t bt k = (bad 7, ob s ws) := by
  unfold retX
  rw [plM_eq, h, if_neg (by simp), if_neg hk, if_pos h1]
theorem retX_slo (h : plC s i g t bt = 0) (hk : ¬ (k < 1 ∨ 32 < k)) (h1 : ¬ spM (ob s ws) i t bt < k) (h2 : (spr (ob s ws) (loT t) (hiT t)).length < k) : retX (ob s ws) i g t bt k = (bad 8, ob s ws) := by
  unfold retX
  rw [plM_eq, h, if_neg (by simp), if_neg hk, if_neg h1, if_pos h2]
theorem retX_tab (h : plC s i g t bt = 0) (hk : ¬ (k < 1 ∨ 32 < k)) (h1 : ¬ spM (ob s ws) i t bt < k) (h2 : ¬ (spr (ob s ws) (loT t) (hiT t)).length < k) (h3 : rmM (ob s ws) t < (k : Int)) : retX (ob s ws) i g t bt k = (bad 9, ob s ws) := by
  unfold retX
  rw [plM_eq, h, if_neg (by simp), if_neg hk, if_neg h1, if_neg h2, if_pos h3]
theorem retX_ok (h : plC s i g t bt = 0) (hk : ¬ (k < 1 ∨ 32 < k)) (h1 : ¬ spM (ob s ws) i t bt < k) (h2 : ¬ (spr (ob s ws) (loT t) (hiT t)).length < k) (h3 : ¬ rmM (ob s ws) t < (k : Int)) : retX (ob s ws) i g t bt k = (⟨0, ((spr (ob s ws) (loT t) (hiT t)).take k).map (fun c => (c, (ob s ws c).gen)), []⟩, grw i t (2 ^ szQ t bt) (ob s ws) (stM (ob s ws) i t bt) ((spr (ob s ws) (loT t) (hiT t)).take k)) := by
  unfold retX
  rw [plM_eq, h, if_neg (by simp), if_neg hk, if_neg h1, if_neg h2, if_neg h3]
/-- The next spare entry. -/
theorem spr_next {M : Nat → En} {x c hi : Nat} (h1 : x ≤ c) (h2 : c < hi) (h3 : (M c).typ = 0 ∧ (M c).gen < 4294967295) (h4 : ∀ y, x ≤ y → y < c → ¬ ((M y).typ = 0 ∧ (M y).gen < 4294967295)) : spr M x hi = c :: spr M (c + 1) hi := by
  have hp : ∀ lo, (spr M lo hi).Pairwise (fun a b => ((a : Nat) : Int) < (b : Int)) := fun lo => by
    unfold spr
    exact ((List.pairwise_lt_range).filter _).imp (fun h => by omega)
  refine sorted_uniq (f := fun a => (a : Int)) (hp x) (List.pairwise_cons.2 ⟨fun b hb => ?_, hp (c + 1)⟩) (fun y => ?_)
  · have := ((mem_spr M).1 hb).2.1
    show (c : Int) < (b : Int)
    omega
  · rw [List.mem_cons, mem_spr, mem_spr]
    constructor
    · rintro ⟨a1, a2, a3⟩
      by_cases e : y = c
      · exact Or.inl e
      · refine Or.inr ⟨a1, ?_, a3⟩
        rcases Nat.lt_or_ge y c with q | q
        · exact absurd a3 (h4 y a2 q)
        · omega
    · rintro (e | ⟨a1, a2, a3⟩)
      · subst e; exact ⟨h2, h1, h3⟩
      · exact ⟨a1, by omega, a3⟩
/-- The places of the new objects. -/
theorem plc_of {T E q st z sp j : Nat} {s1 : Av} (hz : z = 2 ^ q) (hst : st = alU T z) (hsp : sp = spN E st z) (hq : q ≤ 47) (hq1 : t = 1 → 4 ≤ q) (hq2 : t ≠ 1 → q = kBits t) (hjk : j < k) (hk : ¬ sp < k) (htop : (s1.rg (i - 256)).top ≤ ((st + j * z : Nat) : Int)) (hE : (s1.hd i).bas + (s1.hd i).siz = (E : Int)) : Plc s1 i t ((st + j * z : Nat) : Int) (z : Int) ∧ st + j * z + z ≤ E := by
  have z1 : 1 ≤ z := by rw [hz]; exact Nat.one_le_two_pow
  have hlt : st < E := by
    rcases Nat.lt_or_ge st E with a | a
    · exact a
    · rw [spN, if_neg (by omega)] at hsp
      omega
  have hs : sp * z ≤ E - st := by
    rw [hsp, spN, if_pos hlt]
    exact Nat.div_mul_le_self _ _
  have hj : (j + 1) * z ≤ sp * z := Nat.mul_le_mul_right _ (by omega)
  rw [Nat.succ_mul] at hj
  have he : st + j * z + z ≤ E := by omega
  refine ⟨⟨by omega, htop, by rw [hE]; omega, q, (T + z - 1) / z + j, by rw [hz], ?_, hq, hq1, hq2⟩, he⟩
  rw [← hz, Nat.add_mul, hst]
  rfl
end
end Go.Proofs.Qxb6500847aGreatDoor.Os
