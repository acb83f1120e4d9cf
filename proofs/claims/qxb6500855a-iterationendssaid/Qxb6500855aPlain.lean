/-
  The plain side of IterationEnds: saturating arithmetic, the recurrence, and that it is monotone.
-/
import Derived.KernelRfl
namespace Go.Proofs.Qxb6500855a.Plain

def top : Int := 9223372036854775807
theorem top_eq : top = 9223372036854775807 := rfl

def satAdd (a b : Int) : Int := if top - b < a then top else a + b
def satMul (a b : Int) : Int := if a = 0 then 0 else if top / a < b then top else a * b
def jobsN (x t : Int) : Int := if x % t = 0 then x / t else x / t + 1

def InR (a : Int) : Prop := 0 ≤ a ∧ a ≤ top
theorem InR.lo {a : Int} (h : InR a) : 0 ≤ a := h.1
theorem InR.hi {a : Int} (h : InR a) : a ≤ 9223372036854775807 := h.2

theorem satAdd_in {a b : Int} (ha : InR a) (hb : InR b) : InR (satAdd a b) := by
  unfold satAdd InR at *
  split <;> (simp only [top] at *; omega)
theorem satAdd_mono {a b c d : Int} (hac : a ≤ c) (hbd : b ≤ d) : satAdd a b ≤ satAdd c d := by
  unfold satAdd
  by_cases h1 : top - b < a
  · by_cases h2 : top - d < c
    · rw [if_pos h1, if_pos h2]; omega
    · rw [if_pos h1, if_neg h2]; omega
  · by_cases h2 : top - d < c
    · rw [if_neg h1, if_pos h2]; omega
    · rw [if_neg h1, if_neg h2]; omega

theorem mul_le_top {a b : Int} (ha : 0 < a) (hb : ¬ top / a < b) : a * b ≤ top := by
  have h1 : b ≤ top / a := Int.not_lt.1 hb
  have h2 : a * b ≤ a * (top / a) := Int.mul_le_mul_of_nonneg_left h1 (Int.le_of_lt ha)
  have h3 : a * (top / a) ≤ top := Int.mul_ediv_self_le (Int.ne_of_gt ha)
  omega
theorem top_lt_mul {a b : Int} (ha : 0 < a) (hb : top / a < b) : top < a * b := by
  have h1 : top / a + 1 ≤ b := hb
  have h2 : a * (top / a + 1) ≤ a * b := Int.mul_le_mul_of_nonneg_left h1 (Int.le_of_lt ha)
  have h3 : top < a * (top / a) + a := Int.lt_mul_ediv_self_add ha
  have h4 : a * (top / a + 1) = a * (top / a) + a := by rw [Int.mul_add, Int.mul_one]
  omega
theorem satMul_min {a b : Int} (ha : 0 ≤ a) : satMul a b = if a = 0 then 0 else (if a * b ≤ top then a * b else top) := by
  unfold satMul
  by_cases h0 : a = 0
  · rw [if_pos h0, if_pos h0]
  · rw [if_neg h0, if_neg h0]
    have hp : 0 < a := by omega
    by_cases h : top / a < b
    · have := top_lt_mul hp h
      rw [if_pos h, if_neg (by omega)]
    · have := mul_le_top hp h
      rw [if_neg h, if_pos this]
theorem satMul_in {a b : Int} (ha : InR a) (hb : InR b) : InR (satMul a b) := by
  rw [satMul_min ha.1]
  have h0 : 0 ≤ a * b := Int.mul_nonneg ha.1 hb.1
  have ht : (0 : Int) ≤ top := by decide
  unfold InR
  split
  · omega
  · split <;> omega
theorem satMul_mono {a c b : Int} (h0 : 0 ≤ a) (hac : a ≤ c) (hb : 0 ≤ b) : satMul a b ≤ satMul c b := by
  rw [satMul_min h0, satMul_min (by omega)]
  have h1 : a * b ≤ c * b := Int.mul_le_mul_of_nonneg_right hac hb
  have h2 : 0 ≤ a * b := Int.mul_nonneg h0 hb
  have ht : (0 : Int) ≤ top := by decide
  by_cases ha : a = 0
  · rw [if_pos ha]
    by_cases hc : c = 0
    · rw [if_pos hc]; omega
    · rw [if_neg hc]
      by_cases h3 : c * b ≤ top
      · rw [if_pos h3]; omega
      · rw [if_neg h3]; omega
  · rw [if_neg ha, if_neg (show ¬ c = 0 by omega)]
    by_cases h3 : c * b ≤ top
    · rw [if_pos h3, if_pos (by omega)]; omega
    · rw [if_neg h3]
      by_cases h4 : a * b ≤ top
      · rw [if_pos h4]; omega
      · rw [if_neg h4]; omega

theorem jobs_mono {x y t : Int} (ht : 0 < t) (hxy : x ≤ y) : jobsN x t ≤ jobsN y t := by
  unfold jobsN
  have hd : x / t ≤ y / t := Int.ediv_le_ediv ht hxy
  split
  · split <;> omega
  · rename_i hx
    split
    · rename_i hy
      have hx1 := Int.mul_ediv_add_emod x t
      have hy1 := Int.mul_ediv_add_emod y t
      have hx2 := Int.emod_nonneg x (Int.ne_of_gt ht)
      by_cases he : x / t = y / t
      · rw [he] at hx1
        omega
      · omega
    · omega
theorem jobs_in {x t : Int} (ht : 0 < t) (hx : 0 ≤ x) (hx2 : x ≤ 100000) : 0 ≤ jobsN x t ∧ jobsN x t ≤ 100001 := by
  unfold jobsN
  have h1 : 0 ≤ x / t := Int.ediv_nonneg hx (Int.le_of_lt ht)
  have h2 : x / t ≤ x := Int.ediv_le_self _ hx
  split <;> omega
theorem jobs_inR {x t : Int} (ht : 0 < t) (hx : 0 ≤ x) (hx2 : x ≤ 100000) : InR (jobsN x t) := by
  have := jobs_in ht hx hx2
  unfold InR top
  omega

/-- One load: its period lies from 1 to 256, its cost in range. -/
def LoadOk (l : Int × Int) : Prop := 1 ≤ l.1 ∧ l.1 ≤ 256 ∧ InR l.2

def stepF (x : Int) (s : Int) (l : Int × Int) : Int := satAdd s (satMul (jobsN x l.1) l.2)
def F (L : List (Int × Int)) (c x : Int) : Int := L.foldl (stepF x) c

theorem stepF_in {x s : Int} {l : Int × Int} (hs : InR s) (hl : LoadOk l) (hx : 0 ≤ x) (hx2 : x ≤ 100000) : InR (stepF x s l) :=
  satAdd_in hs (satMul_in (jobs_inR (by have := hl.1; omega) hx hx2) hl.2.2)
theorem stepF_mono {x y s t : Int} {l : Int × Int} (hl : LoadOk l) (hx : 0 ≤ x) (hxy : x ≤ y) (hy : y ≤ 100000) (hst : s ≤ t) : stepF x s l ≤ stepF y t l :=
  satAdd_mono hst (satMul_mono (jobs_in (by have := hl.1; omega) hx (by omega)).1 (jobs_mono (by have := hl.1; omega) hxy) hl.2.2.1)

theorem F_in {x : Int} (hx : 0 ≤ x) (hx2 : x ≤ 100000) : ∀ (L : List (Int × Int)) (c : Int), InR c → (∀ l ∈ L, LoadOk l) → InR (F L c x)
  | [], _, hc, _ => hc
  | l :: L, c, hc, hL => F_in hx hx2 L (stepF x c l) (stepF_in hc (hL l (List.mem_cons_self ..)) hx hx2) (fun m hm => hL m (List.mem_cons_of_mem _ hm))
theorem F_mono {x y : Int} (hx : 0 ≤ x) (hxy : x ≤ y) (hy : y ≤ 100000) : ∀ (L : List (Int × Int)) (c d : Int), c ≤ d → InR d → (∀ l ∈ L, LoadOk l) → F L c x ≤ F L d y
  | [], _, _, hcd, _, _ => hcd
  | l :: L, c, d, hcd, hd, hL => F_mono hx hxy hy L _ _ (stepF_mono (hL l (List.mem_cons_self ..)) hx hxy hy hcd)
      (stepF_in hd (hL l (List.mem_cons_self ..)) (by omega) hy) (fun m hm => hL m (List.mem_cons_of_mem _ hm))

theorem F_take_succ (L : List (Int × Int)) (c x : Int) (k : Nat) (h : k < L.length) : F (L.take (k + 1)) c x = stepF x (F (L.take k) c x) L[k] := by
  unfold F
  rw [List.take_succ_eq_append_getElem h, List.foldl_append]
  rfl

end Go.Proofs.Qxb6500855a.Plain
