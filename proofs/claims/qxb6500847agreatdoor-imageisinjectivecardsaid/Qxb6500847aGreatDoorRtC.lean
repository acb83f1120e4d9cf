/-
  The geometry of a sound state.
-/
import Derived.Test.Qxb6500847aGreatDoorRtB
namespace Go.Proofs.Qxb6500847aGreatDoor.Os
open Go.RowKit FloorA
set_option maxRecDepth 100000
theorem pw_or {α : Type} {R : α → α → Prop} : ∀ {l : List α}, l.Pairwise R → ∀ {a b : α}, a ∈ l → b ∈ l → a ≠ b → R a b ∨ R b a
  | [], _, _, _, ha, _, _ => by cases ha
  | c :: r, h, a, b, ha, hb, hn => by
    rw [List.pairwise_cons] at h
    rcases List.mem_cons.1 ha with rfl | ha' <;> rcases List.mem_cons.1 hb with rfl | hb'
    · exact absurd rfl hn
    · exact Or.inl (h.1 _ hb')
    · exact Or.inr (h.1 _ ha')
    · exact pw_or h.2 ha' hb' hn
section
variable {s : Av} {tl : Nat → List Int} {ws : Nat → Nat → Nat → Int} {L : Nat → List Nat} {n : Nat}
theorem Sd.inL (h : Sd s tl ws L n) {i p : Nat} (hi : i < 320) (ht : (s.hd i).typ ≠ 0) (hp : p < 320) (e : (s.hd i).par = (p : Int)) : IsReg s p ∧ i ∈ L p := by
  rcases (h.iv.tr.all i hi ht).2 with q | ⟨p', hr, q, hm⟩
  · omega
  · obtain rfl : p' = p := by omega
    exact ⟨hr, hm⟩
theorem Sd.geo2 (h : Sd s tl ws L n) : Geo2 (ob s ws) := by
  have at_ : ∀ i, i < 320 → ob s ws i = ⟨(s.hd i).gen, (s.hd i).typ, (s.hd i).bas, (s.hd i).siz, (s.hd i).par, wdsOf (s.hd i) ws⟩ := fun i hi => ob_at _ _ hi
  refine ⟨fun i hi ht => ?_, fun i p hi ht hp e => ?_, fun i p hi ht hp e => ?_, fun i j hi hj ti tj hn e => ?_⟩
  · rw [at_ i hi] at ht ⊢
    exact up_ex h.iv hi ht
  · rw [at_ i hi] at ht e
    obtain ⟨hr, _⟩ := h.inL hi ht hp e
    rw [at_ p hp]
    show (s.hd p).typ ≠ 0 ∧ (s.hd p).typ = 1
    rw [hr.2.2]
    exact ⟨by decide, rfl⟩
  · rw [at_ i hi] at ht e
    obtain ⟨hr, hm⟩ := h.inL hi ht hp e
    obtain ⟨c1, c2⟩ := h.ix.gm.chn p hr
    obtain ⟨b1, b2⟩ := Chn.bounds (h.ix.pos h.iv hr) c1 i hm
    unfold Ins
    rw [at_ i hi, at_ p hp]
    exact ⟨b1, Int.le_trans b2 c2⟩
  · rw [at_ i hi] at ti e
    rw [at_ j hj] at tj e
    have e' : (s.hd i).par = (s.hd j).par := e
    unfold Apt
    rw [at_ i hi, at_ j hj]
    show (s.hd i).bas + (s.hd i).siz ≤ (s.hd j).bas ∨ (s.hd j).bas + (s.hd j).siz ≤ (s.hd i).bas
    by_cases q : (s.hd i).par = 65535
    · obtain ⟨a, ha, ea⟩ := h.iv.ro.all i hi ti q
      obtain ⟨b, hb, eb⟩ := h.iv.ro.all j hj tj (e' ▸ q)
      rcases Nat.lt_trichotomy a b with z | z | z
      · exact Or.inl (h.ix.gm.rts a b i j z hb ea eb)
      · subst z
        rw [ea] at eb
        omega
      · exact Or.inr (h.ix.gm.rts b a j i z ha eb ea)
    · rcases h.iv.par hi ti with z | ⟨p, hr, z⟩
      · exact absurd z q
      · obtain ⟨_, m1⟩ := h.inL hi ti hr.2.1 z
        obtain ⟨_, m2⟩ := h.inL hj tj hr.2.1 (e'.symm.trans z)
        exact pw_or (Chn.sorted (h.ix.pos h.iv hr) (h.ix.gm.chn p hr).1) m1 m2 hn
end
end Go.Proofs.Qxb6500847aGreatDoor.Os
