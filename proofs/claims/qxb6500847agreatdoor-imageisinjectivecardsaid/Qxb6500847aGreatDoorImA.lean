/-
  ImageIsInjective: how a state is spelled, plainly; two states with one spelling are the same.
-/
import Derived.Lib.ItoaNum
import Derived.Test.Qxb6500847aGreatDoorMdA
namespace Go.Proofs.Qxb6500847aGreatDoor.Os
open Go.Lib
theorem u8n (k : Nat) (h : k < 256) : (UInt8.ofNat k).toNat = k := by simp [UInt8.toNat_ofNat']; omega
theorem dig_rng (u : Nat) : ∀ d ∈ decDigits u, 48 ≤ d.toNat ∧ d.toNat ≤ 57 := by
  induction u using Nat.strongRecOn with
  | _ u ih =>
    by_cases h : u < 10
    · rw [decDigits, dif_pos h]
      intro d hd
      obtain rfl := List.mem_singleton.1 hd
      rw [u8n _ (by omega)]
      omega
    · rw [decDigits, dif_neg h]
      intro d hd
      rcases List.mem_append.1 hd with hd | hd
      · exact ih (u / 10) (by omega) d hd
      · obtain rfl := List.mem_singleton.1 hd
        rw [u8n _ (by omega)]
        omega
def valD (l : List UInt8) : Nat := l.foldl (fun a d => a * 10 + (d.toNat - 48)) 0
theorem val_dig (u : Nat) : valD (decDigits u) = u := by
  induction u using Nat.strongRecOn with
  | _ u ih =>
    by_cases h : u < 10
    · rw [decDigits, dif_pos h]
      show 0 * 10 + ((UInt8.ofNat (48 + u)).toNat - 48) = u
      rw [u8n _ (by omega)]
      omega
    · rw [decDigits, dif_neg h]
      have e := ih (u / 10) (by omega)
      unfold valD at e ⊢
      rw [List.foldl_append, e]
      show u / 10 * 10 + ((UInt8.ofNat (48 + u % 10)).toNat - 48) = u
      rw [u8n _ (by omega)]
      omega
theorem dig_inj {u v : Nat} (h : decDigits u = decDigits v) : u = v := by rw [← val_dig u, ← val_dig v, h]
theorem dig_ne (u : Nat) : decDigits u ≠ [] := by
  intro h
  have := decDigits_length u
  rw [h] at this
  have := nDigits_pos u
  simp at *
  omega
theorem sep_inj {s : UInt8} : ∀ {a b x y : List UInt8}, (∀ d ∈ a, d ≠ s) → (∀ d ∈ b, d ≠ s) → a ++ s :: x = b ++ s :: y → a = b ∧ x = y
  | [], [], x, y, _, _, h => by simpa using h
  | [], c :: b, x, y, _, hb, h => by
    simp at h
    exact absurd h.1.symm (hb c (by simp))
  | c :: a, [], x, y, ha, _, h => by
    simp at h
    exact absurd h.1 (ha c (by simp))
  | c :: a, d :: b, x, y, ha, hb, h => by
    simp only [List.cons_append, List.cons.injEq] at h
    obtain ⟨rfl, h⟩ := h
    obtain ⟨rfl, r⟩ := sep_inj (fun d hd => ha d (by simp [hd])) (fun d hd => hb d (by simp [hd])) h
    exact ⟨rfl, r⟩
theorem num_inj {u v : Nat} {x y : List UInt8} (h : decDigits u ++ 32 :: x = decDigits v ++ 32 :: y) : u = v ∧ x = y := by
  have q : ∀ u, ∀ d ∈ decDigits u, d ≠ 32 := fun u d hd e => by
    have := dig_rng u d hd
    rw [e] at this
    exact absurd this.1 (by decide)
  obtain ⟨e, r⟩ := sep_inj (q u) (q v) h
  exact ⟨dig_inj e, r⟩
/-- Numbers, each with a blank behind it. -/
def nuL : List Nat → List UInt8
  | [] => []
  | n :: l => decDigits n ++ 32 :: nuL l
theorem nuL_append (a b : List Nat) : nuL (a ++ b) = nuL a ++ nuL b := by
  induction a with
  | nil => rfl
  | cons n a ih => simp [nuL, ih]
theorem nuL_end {x y : List UInt8} {s : UInt8} (hs : s.toNat < 48 ∨ 57 < s.toNat) : ∀ {l l' : List Nat}, nuL l ++ s :: x = nuL l' ++ s :: y → l = l' ∧ x = y
  | [], [], h => by simpa [nuL] using h
  | [], n :: l, h => by
    exfalso
    obtain ⟨c, r, e⟩ := List.exists_cons_of_ne_nil (dig_ne n)
    simp only [nuL, e, List.nil_append, List.cons_append, List.cons.injEq] at h
    have := dig_rng n c (by rw [e]; simp)
    rw [← h.1] at this
    omega
  | n :: l, [], h => by
    exfalso
    obtain ⟨c, r, e⟩ := List.exists_cons_of_ne_nil (dig_ne n)
    simp only [nuL, e, List.nil_append, List.cons_append, List.cons.injEq] at h
    have := dig_rng n c (by rw [e]; simp)
    rw [h.1] at this
    omega
  | n :: l, m :: l', h => by
    simp only [nuL, List.append_assoc, List.cons_append] at h
    obtain ⟨rfl, h2⟩ := num_inj h
    obtain ⟨rfl, r⟩ := nuL_end hs h2
    exact ⟨rfl, r⟩
/-- The five numbers of an entry. -/
def hdN (e : En) : List Nat := [e.gen.toNat, e.typ.toNat, e.bas.toNat, e.siz.toNat, (pz e.par + 1).toNat]
/-- An entry, spelled. -/
def enS (e : En) : List UInt8 := nuL (hdN e) ++ 58 :: (nuL (e.wds.map Int.toNat) ++ [10])
/-- n entries from i on. -/
def stS (M : Nat → En) : Nat → Nat → List UInt8
  | _, 0 => []
  | i, n + 1 => enS (M i) ++ stS M (i + 1) n
theorem stS_snoc (M : Nat → En) : ∀ n i, stS M i (n + 1) = stS M i n ++ enS (M (i + n))
  | 0, i => by simp [stS]
  | n + 1, i => by
    rw [show stS M i (n + 1 + 1) = enS (M i) ++ stS M (i + 1) (n + 1) from rfl, stS_snoc M n (i + 1), show stS M i (n + 1) = enS (M i) ++ stS M (i + 1) n from rfl, List.append_assoc, show i + 1 + n = i + (n + 1) by omega]
/-- A state, spelled. -/
def spl (M : Nat → En) : List UInt8 := stS M 0 320
theorem map_toNat_inj : ∀ {a b : List Int}, (∀ x ∈ a, 0 ≤ x) → (∀ x ∈ b, 0 ≤ x) → a.map Int.toNat = b.map Int.toNat → a = b
  | [], [], _, _, _ => rfl
  | [], _ :: _, _, _, h => by simp at h
  | _ :: _, [], _, _, h => by simp at h
  | x :: a, y :: b, ha, hb, h => by
    simp only [List.map_cons, List.cons.injEq] at h
    have h1 := ha x (by simp)
    have h2 := hb y (by simp)
    rw [map_toNat_inj (fun z hz => ha z (by simp [hz])) (fun z hz => hb z (by simp [hz])) h.2]
    have : x = y := by omega
    rw [this]
theorem enS_inj {M N : Nat → En} {i : Nat} (hi : i < 320) (hM : Mk M) (hN : Mk N) {x y : List UInt8} (h : enS (M i) ++ x = enS (N i) ++ y) : M i = N i ∧ x = y := by
  unfold enS at h
  simp only [List.append_assoc, List.cons_append, List.nil_append] at h
  obtain ⟨e, h⟩ := nuL_end (by decide) h
  obtain ⟨e2, h⟩ := nuL_end (by decide) h
  refine ⟨?_, h⟩
  unfold hdN at e
  simp only [List.cons.injEq, and_true] at e
  obtain ⟨g1, g2, g3, g4, g5⟩ := e
  obtain ⟨a1, b1, _⟩ := hM.gen i hi
  obtain ⟨a2, b2, _⟩ := hN.gen i hi
  obtain ⟨a3, b3, _⟩ := hM.typ i hi
  obtain ⟨a4, b4, _⟩ := hN.typ i hi
  have c1 := hM.bas i hi
  have c2 := hN.bas i hi
  have p : ∀ {x y : Int}, (x = 65535 ∨ ∃ p : Nat, p < 320 ∧ x = (p : Int)) → (y = 65535 ∨ ∃ p : Nat, p < 320 ∧ y = (p : Int)) → (pz x + 1).toNat = (pz y + 1).toNat → x = y := by
    intro x y hx hy e
    unfold pz at e
    rcases hx with rfl | ⟨p, hp, rfl⟩ <;> rcases hy with rfl | ⟨q, hq, rfl⟩
    · rfl
    · rw [if_pos rfl, if_neg (by omega)] at e; omega
    · rw [if_pos rfl, if_neg (by omega)] at e; omega
    · rw [if_neg (by omega), if_neg (by omega)] at e; omega
  exact En.ext' (by omega) (by omega) (by omega) (by omega) (p (hM.par i hi) (hN.par i hi) g5) (map_toNat_inj (fun x hx => (hM.wrg i hi x hx).1) (fun x hx => (hN.wrg i hi x hx).1) e2)
theorem stS_inj {M N : Nat → En} (hM : Mk M) (hN : Mk N) : ∀ {n i : Nat}, i + n ≤ 320 → stS M i n = stS N i n → ∀ j, i ≤ j → j < i + n → M j = N j
  | 0, i, _, _, j, h1, h2 => by omega
  | n + 1, i, hin, h, j, h1, h2 => by
    obtain ⟨e, h⟩ := enS_inj (by omega) hM hN h
    by_cases q : j = i
    · rw [q]; exact e
    · exact stS_inj hM hN (by omega) h j (by omega) (by omega)
theorem spl_inj {M N : Nat → En} (hM : Mk M) (hN : Mk N) (h : spl M = spl N) : ∀ j, j < 320 → M j = N j := fun j hj => stS_inj hM hN (by omega) h j (by omega) (by omega)
end Go.Proofs.Qxb6500847aGreatDoor.Os
