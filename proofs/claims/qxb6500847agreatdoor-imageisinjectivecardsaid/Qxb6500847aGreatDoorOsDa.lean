/-
  Plain: two stores that show the same have the same image.
-/
import Derived.Test.Qxb6500847aGreatDoorOsGc
namespace Go.Proofs.Qxb6500847aGreatDoor.Os
open Go.RowKit FloorA
set_option maxRecDepth 100000
theorem nzC_congr {W V : Nat → Int} : ∀ {k : Nat}, (∀ f, f < k → V f = W f) → nzC V k = nzC W k
  | 0, _ => rfl
  | k + 1, h => by unfold nzC; rw [nzC_congr (fun f hf => h f (by omega)), h k (by omega)]
theorem pyA_congr {W V : Nat → Int} : ∀ {k : Nat}, (∀ f, f < k → V f = W f) → pyA V k = pyA W k
  | 0, _ => rfl
  | k + 1, h => by unfold pyA; rw [pyA_congr (fun f hf => h f (by omega)), h k (by omega)]
theorem pyP_congr {W V : Nat → Int} : ∀ {k : Nat}, (∀ f, f < k → V f = W f) → pyP V k = pyP W k
  | 0, _ => rfl
  | k + 1, h => by unfold pyP; rw [pyP_congr (fun f hf => h f (by omega)), pyA_congr (fun f hf => h f (by omega)), h k (by omega)]
theorem payN_congr {W V : Nat → Int} {k : Nat} (h : ∀ f, f < k → V f = W f) : payN V k = payN W k := by unfold payN; rw [nzC_congr h, pyP_congr h]
/-- Two stores that show the same, in their first k entries. -/
structure Shw (k : Nat) (s s' : Av) (ws ws' : Nat → Nat → Nat → Int) : Prop where
  gen : ∀ i, i < k → (s'.hd i).gen = (s.hd i).gen
  typ : ∀ i, i < k → (s'.hd i).typ = (s.hd i).typ
  whr : ∀ i, i < k → (s.hd i).typ ≠ 0 → whN (s'.hd i) = whN (s.hd i)
  par : ∀ i, i < k → (s.hd i).typ ≠ 0 → (s'.hd i).par = (s.hd i).par
  pay : ∀ i t, i < k → t < 6 → (s.hd i).typ = ((t + 2 : Nat) : Int) → ∀ f, f < nF t → ws' t (s'.hd i).row.toNat f = ws t (s.hd i).row.toNat f
section
variable {s s' : Av} {ws ws' : Nat → Nat → Nat → Int} {k : Nat}
theorem Shw.mono (h : Shw k s s' ws ws') {j : Nat} (hj : j ≤ k) : Shw j s s' ws ws' :=
  ⟨fun i hi => h.gen i (by omega), fun i hi => h.typ i (by omega), fun i hi => h.whr i (by omega), fun i hi => h.par i (by omega), fun i t hi => h.pay i t (by omega)⟩
theorem Shw.fl (h : Shw 320 s s' ws ws') : ∀ {k : Nat}, k ≤ 320 → flG s' k = flG s k
  | 0, _ => h.gen 0 (by omega)
  | k + 1, hk => by unfold flG; rw [h.fl (k := k) (by omega), h.gen k (by omega)]
theorem Shw.lis (h : Shw 320 s s' ws ws') (fl : Int) {i : Nat} (hi : i < 320) : lis s' fl i = lis s fl i := by unfold Os.lis; rw [h.typ i hi, h.gen i hi]
theorem Shw.lsC (h : Shw 320 s s' ws ws') (fl : Int) : ∀ {k : Nat}, k ≤ 320 → lsC s' fl k = lsC s fl k
  | 0, _ => rfl
  | k + 1, hk => by unfold Os.lsC; rw [h.lsC fl (k := k) (by omega), h.lis fl (by omega)]
theorem Shw.lsA (h : Shw 320 s s' ws ws') (fl : Int) : ∀ {k : Nat}, k ≤ 320 → lsA s' fl k = lsA s fl k
  | 0, _ => rfl
  | k + 1, hk => by unfold Os.lsA; rw [h.lsA fl (k := k) (by omega), h.lis fl (by omega)]
theorem Shw.ent (h : Shw 320 s s' ws ws') (hg : Ge s) {i : Nat} (hi : i < 320) : entN s' ws' i = entN s ws i := by
  unfold entN
  rw [h.typ i hi]
  by_cases h0 : (s.hd i).typ = 0
  · rw [if_pos h0, if_pos h0]
  · rw [if_neg h0, if_neg h0, h.whr i hi h0]
    by_cases h1 : (s.hd i).typ = 1
    · rw [if_pos h1, if_pos h1]
    · rw [if_neg h1, if_neg h1]
      obtain ⟨q, e, q7, _⟩ := hg.typ i hi
      have e2 : (s.hd i).typ.toNat - 2 = q - 2 := by omega
      rw [e2]
      have := h.pay i (q - 2) hi (by omega) (by rw [e]; omega)
      rw [payN_congr this]
theorem Shw.lsN (h : Shw 320 s s' ws ws') (hg : Ge s) (fl : Int) : ∀ {k : Nat}, k ≤ 320 → lsN s' ws' fl k = lsN s ws fl k
  | 0, _ => rfl
  | k + 1, hk => by
    unfold Os.lsN
    rw [h.lsN hg fl (k := k) (by omega), h.lis fl (by omega), h.lsA fl (by omega), h.ent hg (by omega), h.gen k (by omega), h.typ k (by omega)]
theorem Shw.bod (h : Shw 320 s s' ws ws') (hg : Ge s) : bodN s' ws' = bodN s ws := by
  unfold bodN
  rw [h.fl (Nat.le_refl _), h.lsC _ (Nat.le_refl _), h.lsN hg _ (Nat.le_refl _)]
theorem Shw.img (h : Shw 320 s s' ws ws') (hg : Ge s) : imgB s' ws' = imgB s ws := by unfold imgB; rw [h.bod hg]
end
end Go.Proofs.Qxb6500847aGreatDoor.Os
