/-
  The plain side: Antimirov's derivatives as a relation of an arena.
-/
import Derived.Test.Qxb6500848aGreatDoorPlainM
namespace Go.Proofs.Qxb6500848aGreatDoor.Pl

def setOf (l : List Int) : List Int := Lib.compact (srt l)
theorem mem_setOf {l : List Int} {z : Int} : z ∈ setOf l ↔ z ∈ l := by
  unfold setOf srt
  rw [mem_compact, List.mem_mergeSort]

def Thens (A : List Nd) (l : List Int) (t : Int) (qs : List Int) : Prop := qs.length = l.length ∧ ∀ i (h : i < l.length) (h' : i < qs.length), Val A (concatN l[i] t) qs[i]

/-- 'In the arena A the Antimirov derivatives of x by c are z'. -/
inductive Par (A : List Nd) (c : Int) : Int → List Int → Prop
  | none {x : Int} (h : (nodeAt A x).kind = 0 ∨ (nodeAt A x).kind = 1) : Par A c x []
  | all {x : Int} (h : (nodeAt A x).kind = 2) : Par A c x [2]
  | cls {x : Int} {z : List Int} (h : (nodeAt A x).kind = 3) (hz : z = if hasC (nodeAt A x).bits c then [1] else []) : Par A c x z
  | cat1 {x : Int} {l qs z : List Int} (h : (nodeAt A x).kind = 4) (hd : Par A c (kid (nodeAt A x) 0) l) (hn : ¬ lang A (kid (nodeAt A x) 0) []) (ht : Thens A l (kid (nodeAt A x) 1) qs) (hz : z = setOf qs) : Par A c x z
  | cat2 {x : Int} {l qs l2 z : List Int} (h : (nodeAt A x).kind = 4) (hd : Par A c (kid (nodeAt A x) 0) l) (hn : lang A (kid (nodeAt A x) 0) []) (ht : Thens A l (kid (nodeAt A x) 1) qs) (he : Par A c (kid (nodeAt A x) 1) l2) (hz : z = setOf (qs ++ l2)) : Par A c x z
  | uni {x : Int} {z : List Int} (h : (nodeAt A x).kind = 5) (ls : List (List Int)) (hl : ls.length = (nodeAt A x).kids.length) (hd : ∀ i, i < ls.length → Par A c (kid (nodeAt A x) i) (ls.getD i [])) (hz : z = setOf ls.flatten) : Par A c x z
  | dead {x : Int} (h : (nodeAt A x).kind = 8 ∨ (nodeAt A x).kind = 9) (hd : Par A c (kid (nodeAt A x) 0) []) : Par A c x []
  | star {x : Int} {l qs z : List Int} (h : (nodeAt A x).kind = 8) (hd : Par A c (kid (nodeAt A x) 0) l) (h0 : l ≠ []) (ht : Thens A l x qs) (hz : z = setOf qs) : Par A c x z
  | loop {x : Int} {l : List Int} {r : Int} {qs z : List Int} (h : (nodeAt A x).kind = 9) (hd : Par A c (kid (nodeAt A x) 0) l) (h0 : l ≠ [])
      (hr : Val A (loopN A (kid (nodeAt A x) 0) (max ((nodeAt A x).lo - 1) 0) (if (nodeAt A x).hi = -1 then -1 else (nodeAt A x).hi - 1)) r) (ht : Thens A l r qs) (hz : z = setOf qs) : Par A c x z

theorem Thens.valid {A : List Nd} {l : List Int} {t : Int} {qs : List Int} (h : Thens A l t qs) : ∀ q ∈ qs, Valid A q := fun q hq => by
  obtain ⟨i, hi, rfl⟩ := List.getElem_of_mem hq
  exact (h.2 i (by have := h.1; omega) hi).valid
theorem Thens.le {A B : List Nd} (hAB : Le A B) {l : List Int} {t : Int} {qs : List Int} (h : Thens A l t qs) : Thens B l t qs := ⟨h.1, fun i hi hi' => (h.2 i hi hi').le hAB⟩

theorem Par.valid {A : List Nd} (hA : Wf A) {c : Int} {x : Int} {z : List Int} (h : Par A c x z) : Valid A x → ∀ q ∈ z, Valid A q := by
  induction h with
  | none h => intro _ q hq; cases hq
  | all h => intro _ q hq; rw [List.mem_singleton.1 hq]; exact hA.v2
  | cls h hz =>
    intro _ q hq
    subst hz
    split at hq
    · rw [List.mem_singleton.1 hq]; exact hA.v1
    · cases hq
  | cat1 h hd hn ht hz ih => intro _ q hq; subst hz; exact ht.valid q (mem_setOf.1 hq)
  | cat2 h hd hn ht he hz ih ih2 =>
    intro hx q hq
    subst hz
    have hl := len2 hA hx h
    rcases List.mem_append.1 (mem_setOf.1 hq) with hq | hq
    · exact ht.valid q hq
    · exact ih2 (kid_valid hA hx (by omega)).1 q hq
  | uni h ls hl hd hz ih =>
    intro hx q hq
    subst hz
    obtain ⟨l, hl', hq⟩ := List.mem_flatten.1 (mem_setOf.1 hq)
    obtain ⟨i, hi, rfl⟩ := List.getElem_of_mem hl'
    have := ih i hi (kid_valid hA hx (by omega)).1
    rw [getD_lt hi] at this
    exact this q hq
  | dead h hd ih => intro _ q hq; cases hq
  | star h hd h0 ht hz ih => intro _ q hq; subst hz; exact ht.valid q (mem_setOf.1 hq)
  | loop h hd h0 hr ht hz ih => intro _ q hq; subst hz; exact ht.valid q (mem_setOf.1 hq)

theorem Par.le {A B : List Nd} (hA : Wf A) (hB : Wf B) (hAB : Le A B) {c x : Int} {z : List Int} (h : Par A c x z) : Valid A x → Par B c x z := by
  induction h with
  | none h => intro hx; exact .none (by rw [hAB.node hx]; exact h)
  | all h => intro hx; exact .all (by rw [hAB.node hx]; exact h)
  | cls h hz => intro hx; exact .cls (by rw [hAB.node hx]; exact h) (by rw [hAB.node hx]; exact hz)
  | cat1 h hd hn ht hz ih =>
    intro hx
    have hl := len2 hA hx h
    have k0 := (kid_valid hA hx (i := 0) (by omega)).1
    exact .cat1 (by rw [hAB.node hx]; exact h) (by rw [hAB.node hx]; exact ih k0) (by rw [hAB.node hx, hAB.lang hA hB k0]; exact hn) (by rw [hAB.node hx]; exact ht.le hAB) hz
  | cat2 h hd hn ht he hz ih ih2 =>
    intro hx
    have hl := len2 hA hx h
    have k0 := (kid_valid hA hx (i := 0) (by omega)).1
    have k1 := (kid_valid hA hx (i := 1) (by omega)).1
    exact .cat2 (by rw [hAB.node hx]; exact h) (by rw [hAB.node hx]; exact ih k0) (by rw [hAB.node hx, hAB.lang hA hB k0]; exact hn) (by rw [hAB.node hx]; exact ht.le hAB) (by rw [hAB.node hx]; exact ih2 k1) hz
  | uni h ls hl hd hz ih =>
    intro hx
    have hk := fun i (hi : i < ls.length) => (kid_valid hA hx (i := i) (by omega)).1
    exact .uni (by rw [hAB.node hx]; exact h) ls (by rw [hAB.node hx]; exact hl) (fun i hi => by rw [hAB.node hx]; exact ih i hi (hk i hi)) hz
  | dead h hd ih =>
    intro hx
    have hl := len1 hA hx (Or.inr h)
    have k0 := (kid_valid hA hx (i := 0) (by omega)).1
    exact .dead (by rw [hAB.node hx]; exact h) (by rw [hAB.node hx]; exact ih k0)
  | star h hd h0 ht hz ih =>
    intro hx
    have hl := len1 hA hx (Or.inr (Or.inl h))
    have k0 := (kid_valid hA hx (i := 0) (by omega)).1
    exact .star (by rw [hAB.node hx]; exact h) (by rw [hAB.node hx]; exact ih k0) h0 (ht.le hAB) hz
  | loop h hd h0 hr ht hz ih =>
    intro hx
    have hl := len1 hA hx (Or.inr (Or.inr h))
    have k0 := (kid_valid hA hx (i := 0) (by omega)).1
    exact .loop (by rw [hAB.node hx]; exact h) (by rw [hAB.node hx]; exact ih k0) h0 (by rw [hAB.node hx, loopN_le hAB k0]; exact hr.le hAB) (ht.le hAB) hz

/-- Neither complement nor intersection is met from x. -/
def PlainR (A : List Nd) (x : Int) : Prop := ∀ y, Rch A x y → (nodeAt A y).kind ≠ 6 ∧ (nodeAt A y).kind ≠ 7
theorem PlainR.le {A B : List Nd} (hA : Wf A) (hAB : Le A B) {x : Int} (hx : Valid A x) : PlainR B x ↔ PlainR A x := by
  constructor
  · intro h y hy
    have := Rch.le hA hAB hx (y := y)
    have := h y (this.1.1 hy)
    rwa [hAB.node (((Rch.le hA hAB hx (y := y))).2 hy)] at this
  · intro h y hy
    have hr := Rch.le hA hAB hx (y := y)
    have h2 := hr.1.2 hy
    rw [hAB.node (hr.2 h2)]
    exact h y h2
end Go.Proofs.Qxb6500848aGreatDoor.Pl
