/-
  DiffListsEveryDifference: the start.
-/
import Derived.Test.Qxb6500847aGreatDoorDfG
namespace Go.Proofs.Qxb6500847aGreatDoor.Os
open Go.RowKit FloorA
set_option maxRecDepth 100000
section
variable {f f2 : Nat → OpV}
/-- The two arenas and the two models are laid. -/
theorem D4.init {w1 w2 w3 w5 w6 : World} {A A2 : Nat} {rb sb rb2 sb2 : Nat → Nat} {s s2 : Av} (hg : Gl w1)
    (hb2 : Below w1.heap.size w1 w2) (hz2 : ∀ b, Tz A rb sb b → w1.heap.size ≤ b) (hF2 : Fresh s rb sb 320) (hM2 : Ms w2 A rb sb s tl0 (fun _ _ _ => 0))
    (hb3 : Below w2.heap.size w2 w3) (hz3 : ∀ b, Tz A2 rb2 sb2 b → w2.heap.size ≤ b) (hF3 : Fresh s2 rb2 sb2 320) (hM3 : Ms w3 A2 rb2 sb2 s2 tl0 (fun _ _ _ => 0))
    (hb5 : Below ((w3.alloc (.cells #[.pointer (some ⟨A, 0, none⟩)] 24)).alloc (.cells #[.pointer (some ⟨A2, 0, none⟩)] 24)).heap.size ((w3.alloc (.cells #[.pointer (some ⟨A, 0, none⟩)] 24)).alloc (.cells #[.pointer (some ⟨A2, 0, none⟩)] 24)) w5) (hm5 : Md w5 ((w3.alloc (.cells #[.pointer (some ⟨A, 0, none⟩)] 24)).alloc (.cells #[.pointer (some ⟨A2, 0, none⟩)] 24)).heap.size (fun _ => 0) M00)
    (hb6 : Below w5.heap.size w5 w6) (hm6 : Md w6 w5.heap.size (fun _ => 0) M00) :
    D4 w1 f f2 w3.heap.size (w3.heap.size + 1) ((w3.alloc (.cells #[.pointer (some ⟨A, 0, none⟩)] 24)).alloc (.cells #[.pointer (some ⟨A2, 0, none⟩)] 24)).heap.size w5.heap.size 0 0 0 0 w6 := by
  have h4 := hg.sz
  have n1 : (w3.alloc (.cells #[.pointer (some ⟨A, 0, none⟩)] 24)).heap.size = w3.heap.size + 1 := by simp
  have n2 : ((w3.alloc (.cells #[.pointer (some ⟨A, 0, none⟩)] 24)).alloc (.cells #[.pointer (some ⟨A2, 0, none⟩)] 24)).heap.size = w3.heap.size + 2 := by simp
  have p1 : ((w3.alloc (.cells #[.pointer (some ⟨A, 0, none⟩)] 24)).alloc (.cells #[.pointer (some ⟨A2, 0, none⟩)] 24)).heap[w3.heap.size]? = some (.cells #[.pointer (some ⟨A, 0, none⟩)] 24 (0, 0)) := (heap_alloc_old _ _ (by simp)).trans (heap_new _ _)
  have p2 : ((w3.alloc (.cells #[.pointer (some ⟨A, 0, none⟩)] 24)).alloc (.cells #[.pointer (some ⟨A2, 0, none⟩)] 24)).heap[w3.heap.size + 1]? = some (.cells #[.pointer (some ⟨A2, 0, none⟩)] 24 (0, 0)) := new_at _ _ (by simp)
  have b4 := two_below (w := w3) (.cells #[.pointer (some ⟨A, 0, none⟩)] 24) (.cells #[.pointer (some ⟨A2, 0, none⟩)] 24)
  generalize (w3.alloc (.cells #[.pointer (some ⟨A, 0, none⟩)] 24)).alloc (.cells #[.pointer (some ⟨A2, 0, none⟩)] 24) = w4 at *
  have b46 := Below.thr hb5 hb6
  have b36 := Below.thr b4 b46
  have b26 := Below.thr hb3 b36
  have b16 := Below.thr hb2 b26
  have q1 := (b46.block _ (heap_lt p1)).trans p1
  have q2 := (b46.block _ (heap_lt p2)).trans p2
  have t1 := fun b hb => hM2.tzlt b hb
  have t2 := fun b hb => hM3.tzlt b hb
  have s2 := hb2.size
  have s3 := hb3.size
  have s5 := hm5.lt
  have s6 := hm6.lt
  have f1 : w6.frozen? ⟨w3.heap.size, 0, none⟩ = false := by simp [World.frozen?, q1]
  have f2 : w6.frozen? ⟨w3.heap.size + 1, 0, none⟩ = false := by simp [World.frozen?, q2]
  refine D4.start (s := s) b16 ⟨⟨hM2.below b26, hF2.iv, wr0, hg.below b16, cell_of_one q1, f1, fun q => ?_, by omega, fun b hb => by have := hz2 b hb; omega⟩, hF2.ix⟩ ⟨⟨hM3.below b36, hF3.iv, wr0, hg.below b16, cell_of_one q2, f2, fun q => ?_, by omega, fun b hb => by have := hz3 b hb; omega⟩, hF3.ix⟩ (hF2.ob _) (hF3.ob _) (hm5.below hb6) hm6
    (fun c b => (c = 0 ∧ ((w1.heap.size ≤ b ∧ b < w2.heap.size) ∨ b = w3.heap.size)) ∨ (c = 1 ∧ ((w2.heap.size ≤ b ∧ b < w3.heap.size) ∨ b = w3.heap.size + 1)) ∨ (c = 2 ∧ b = w3.heap.size + 2) ∨ (c = 3 ∧ b = w5.heap.size)) ⟨fun c b hb => by omega, fun c c' b h1 h2 => by omega⟩ (fun b hb => Or.inl ⟨rfl, ?_⟩) (fun b hb => Or.inr (Or.inl ⟨rfl, ?_⟩)) (by omega) (by omega)
  · have := t1 _ q; omega
  · have := t2 _ q; omega
  · rcases hb with hb | hb
    · exact Or.inl ⟨hz2 b hb, t1 b hb⟩
    · exact Or.inr hb
  · rcases hb with hb | hb
    · exact Or.inl ⟨hz3 b hb, t2 b hb⟩
    · exact Or.inr hb
end
end Go.Proofs.Qxb6500847aGreatDoor.Os
