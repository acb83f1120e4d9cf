/-
  Encode: the body, the image.
-/
import Derived.Test.Qxb6500847aGreatDoorOsGb
namespace Go.Proofs.Qxb6500847aGreatDoor.Os
open Go.RowKit FloorA
set_option maxRecDepth 100000
/-- The entry is listed. -/
def lis (s : Av) (fl : Int) (i : Nat) : Bool := !(decide ((s.hd i).typ = 0) && decide ((s.hd i).gen = fl))
def lsC (s : Av) (fl : Int) : Nat → Nat
  | 0 => 0
  | k + 1 => lsC s fl k + (if lis s fl k then 1 else 0)
def lsA (s : Av) (fl : Int) : Nat → Nat
  | 0 => 0
  | k + 1 => if lis s fl k then k + 1 else lsA s fl k
/-- An entry, as numbers, behind gap and age. -/
def entN (s : Av) (ws : Nat → Nat → Nat → Int) (i : Nat) : List Nat :=
  if (s.hd i).typ = 0 then [] else whN (s.hd i) ++ (if (s.hd i).typ = 1 then [] else payN (ws ((s.hd i).typ.toNat - 2) (s.hd i).row.toNat) (nF ((s.hd i).typ.toNat - 2)))
def lsN (s : Av) (ws : Nat → Nat → Nat → Int) (fl : Int) : Nat → List Nat
  | 0 => []
  | k + 1 => if lis s fl k then lsN s ws fl k ++ ([k - lsA s fl k, ((s.hd k).gen - fl).toNat, (s.hd k).typ.toNat] ++ entN s ws k) else lsN s ws fl k
/-- The numbers of the store's image. -/
def bodN (s : Av) (ws : Nat → Nat → Nat → Int) : List Nat := [1, (flG s 320).toNat, lsC s (flG s 320) 320] ++ lsN s ws (flG s 320) 320
/-- The image. -/
def imgB (s : Av) (ws : Nat → Nat → Nat → Int) : List Int := eN (bodN s ws) ++ dbytes 8 (dig (eN (bodN s ws)))
theorem lsC_le (s : Av) (fl : Int) : ∀ k, lsC s fl k ≤ k
  | 0 => Nat.le_refl _
  | k + 1 => by
    have := lsC_le s fl k
    unfold lsC
    split <;> omega
theorem lsA_le (s : Av) (fl : Int) : ∀ k, lsA s fl k ≤ k
  | 0 => Nat.le_refl _
  | k + 1 => by
    have := lsA_le s fl k
    unfold lsA
    split <;> omega
section
variable {A : Nat} {rb sb : Nat → Nat} {s : Av} {tl : Nat → List Int} {ws : Nat → Nat → Nat → Int} {w : World} {L : Nat → List Nat} {n : Nat}
theorem whN_len (h : Hd) : (whN h).length ≤ 3 := by
  unfold whN
  split
  · simp
  · split <;> simp
theorem shT_le {z : Int} (h0 : 0 ≤ z) (h1 : z < 18446744073709551616) : shT z ≤ 64 := by
  unfold shT
  have := tzC_bd z.toNat (by omega)
  omega
theorem whN_small (hI : IV s tl L n) {i : Nat} (hi : i < 320) (ht : (s.hd i).typ ≠ 0) : ∀ x ∈ whN (s.hd i), x < 18446744073709551616 := by
  have hb := hI.ge.bas i hi
  have hs := shT_le hb.2.2.1 hb.2.2.2
  intro x hx
  unfold whN at hx
  split at hx
  · rcases List.mem_cons.1 hx with e | hx
    · omega
    · rcases List.mem_cons.1 hx with e | hx
      · omega
      · have : x = (s.hd i).siz.toNat := by simpa using hx
        omega
  · next hp =>
    obtain ⟨p, hp1, hp2⟩ : ∃ p, IsReg s p ∧ (s.hd i).par = (p : Int) := by
      obtain ⟨_, b⟩ := hI.tr.all i hi ht
      obtain ⟨p, a, b, _⟩ := b.resolve_left hp
      exact ⟨p, a, b⟩
    have := hp1.2.1
    rcases List.mem_append.1 hx with hx | hx
    · rcases List.mem_append.1 hx with hx | hx
      · have : x = ((s.hd i).par - 256).toNat + 1 := by simpa using hx
        omega
      · split at hx
        · have : x = shT (s.hd i).siz := by simpa using hx
          omega
        · simp at hx
    · have e : x = (s.hd i).bas.toNat / 2 ^ shT (s.hd i).siz := by simpa using hx
      have : (s.hd i).bas.toNat / 2 ^ shT (s.hd i).siz ≤ (s.hd i).bas.toNat := Nat.div_le_self _ _
      omega
theorem entN_small (hI : IV s tl L n) (hW : Wr ws) {i : Nat} (hi : i < 320) : (∀ x ∈ entN s ws i, x < 18446744073709551616) ∧ (entN s ws i).length ≤ 300 := by
  unfold entN
  split
  · exact ⟨fun x hx => absurd hx (by simp), by simp⟩
  · next ht =>
    have h1 := whN_small hI hi ht
    have h2 := whN_len (s.hd i)
    split
    · rw [List.append_nil]
      exact ⟨h1, by omega⟩
    · next ht1 =>
      obtain ⟨k, ek, k7, kk⟩ := hI.ge.typ i hi
      have k0 : k ≠ 0 := fun e => ht (by rw [ek, e]; rfl)
      have k1 : k ≠ 1 := fun e => ht1 (by rw [ek, e]; rfl)
      obtain ⟨r, er, r1, _⟩ := hI.tb.row i k hi (by omega) k7 ek
      have hq := hW (k - 2) r (by omega) r1
      have et : (s.hd i).typ.toNat - 2 = k - 2 := by rw [ek]; rfl
      have err : (s.hd i).row.toNat = r := by rw [er]; rfl
      rw [et, err]
      have hV : ∀ f, f < nF (k - 2) → 0 ≤ ws (k - 2) r f ∧ ws (k - 2) r f < 18446744073709551616 := fun f hf => ⟨(hq.1 f hf).1, Int.lt_of_lt_of_le (hq.1 f hf).2 (fMax_le _ f)⟩
      have n1 := nF_le (k - 2)
      have n2 := nzC_le (ws (k - 2) r) (nF (k - 2))
      have n3 := pyP_len (ws (k - 2) r) (nF (k - 2))
      have n4 := pyP_small hV (nF (k - 2)) (Nat.le_refl _) (by omega)
      refine ⟨fun x hx => ?_, ?_⟩
      · rcases List.mem_append.1 hx with q | q
        · exact h1 x q
        · rcases List.mem_cons.1 q with e | q
          · omega
          · exact n4 x q
      · rw [List.length_append]
        unfold payN
        rw [List.length_cons]
        omega
theorem lsN_small (hI : IV s tl L n) (hW : Wr ws) {fl : Int} (hfl : ∀ x, x < 320 → fl ≤ (s.hd x).gen) (hf0 : 0 ≤ fl) : ∀ k, k ≤ 320 → (∀ x ∈ lsN s ws fl k, x < 18446744073709551616) ∧ (lsN s ws fl k).length ≤ 310 * k
  | 0, _ => ⟨fun x hx => absurd hx (by simp [lsN]), by simp [lsN]⟩
  | k + 1, hk => by
    obtain ⟨h1, h2⟩ := lsN_small hI hW hfl hf0 k (by omega)
    obtain ⟨e1, e2⟩ := entN_small hI hW (i := k) (by omega)
    obtain ⟨g, eg, _, g2, _⟩ := hI.ge.gen k (by omega)
    obtain ⟨q, eq, q7, _⟩ := hI.ge.typ k (by omega)
    have := hfl k (by omega)
    unfold lsN
    split
    · refine ⟨fun x hx => ?_, ?_⟩
      · rcases List.mem_append.1 hx with hx | hx
        · exact h1 x hx
        · rcases List.mem_append.1 hx with hx | hx
          · rcases List.mem_cons.1 hx with e | hx
            · omega
            · rcases List.mem_cons.1 hx with e | hx
              · omega
              · have : x = (s.hd k).typ.toNat := by simpa using hx
                omega
          · exact e1 x hx
      · rw [List.length_append, List.length_append]
        show _ + (3 + _) ≤ _
        omega
    · exact ⟨h1, by omega⟩
end
end Go.Proofs.Qxb6500847aGreatDoor.Os
