/-
  The plain side: what is done of a set that is being explored.
-/
import Derived.Test.Qxb6500848aGreatDoorPlainG
namespace Go.Proofs.Qxb6500848aGreatDoor.Pl

variable {S : List Nd → Int → Int → List Int → Prop}
def Don (S : List Nd → Int → Int → List Int → Prop) (A : List Nd) (cs K : List Int) (x : Int) : Prop := ∀ c ∈ cs, ∃ l, S A c x l ∧ ∀ d ∈ l, d ∈ K
theorem Don.more {A : List Nd} {cs K K' : List Int} {x : Int} (h : Don S A cs K x) (hK : ∀ d ∈ K, d ∈ K') : Don S A cs K' x := fun c hc => by
  obtain ⟨l, h1, h2⟩ := h c hc
  exact ⟨l, h1, fun d hd => hK d (h2 d hd)⟩
theorem Don.le (hS : Stp S) {A B : List Nd} (hA : Wf A) (hB : Wf B) (hAB : Le A B) {cs K : List Int} {x : Int} (hv : Valid A x) (h : Don S A cs K x) : Don S B cs K x := fun c hc => by
  obtain ⟨l, h1, h2⟩ := h c hc
  exact ⟨l, hS.le hA hB hAB hv h1, h2⟩
theorem Don.none {A : List Nd} {K : List Int} {x : Int} : Don S A [] K x := fun c hc => absurd hc (by simp)
theorem Don.snoc {A : List Nd} {cs K : List Int} {x : Int} {k : Nat} (hk : k < cs.length) (h : Don S A (cs.take k) K x) {c : Int} (hc : cs[k] = c) {l : List Int} (hs : S A c x l) (hl : ∀ d ∈ l, d ∈ K) : Don S A (cs.take (k + 1)) K x := fun c' hc' => by
  rw [List.take_succ_eq_append_getElem hk, hc] at hc'
  rcases List.mem_append.1 hc' with h1 | h1
  · exact h c' h1
  · rw [List.mem_singleton.1 h1]
    exact ⟨l, hs, hl⟩
theorem few_of {A : List Nd} {K : List Int} (hn : K.Nodup) (hv : ∀ x ∈ K, Valid A x) : K.length ≤ A.length := by
  have := nodup_sub (m := (List.range A.length).map (fun (n : Nat) => (n : Int))) hn (fun x hx => by
    have h := hv x hx
    exact List.mem_map.2 ⟨x.toNat, List.mem_range.2 h.2, Int.toNat_of_nonneg h.1⟩)
  simpa using this
end Go.Proofs.Qxb6500848aGreatDoor.Pl
