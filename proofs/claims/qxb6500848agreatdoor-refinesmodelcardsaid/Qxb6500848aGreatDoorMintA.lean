/-
  Rows of classes of the walk's own.
-/
import Derived.Test.Qxb6500848aGreatDoorSplit
namespace Go.Proofs.Qxb6500848aGreatDoor
open Go.RowKit Pl
set_option maxRecDepth 100000

def Out (base : Nat) (own own2 : Option Nat) (b : Nat) : Prop := b < base ∨ own = some b ∨ own2 = some b

/-- Value v is a row of its own that holds the classes L; own is the block of another row. -/
def Rw (base : Nat) (own : Option Nat) (w : World) (v : Value) (vs : List Value) (L : List (List Nat)) : Prop :=
  vs.length = L.length ∧ w.ownsRow base 53 1 v vs.length vs ∧ (∀ g, v.ownBlock = some g → own ≠ some g) ∧ ∀ i (h : i < vs.length) (h' : i < L.length), Words (Out base own v.ownBlock) w vs[i] L[i]

theorem Rw.below {base : Nat} {own : Option Nat} {w w' : World} {v : Value} {vs : List Value} {L : List (List Nat)} (h : Rw base own w v vs L) (k : Below w.heap.size w w') : Rw base own w' v vs L := by
  obtain ⟨h1, h2, h3, h4⟩ := h
  exact ⟨h1, ownsRow_ext h2 (Ext.of_below k (fun _ => False)) (fun _ _ => id), h3, fun i h h' => (h4 i h h').below k (Nat.le_refl _)⟩

theorem words_move {X X' : Nat → Prop} {w w2 : World} {row : Option Nat} {v : Value} {l : List Nat} (h : Words X w v l) (hg : w.grownBy w2 row) (hr : ∀ b, row = some b → X b) (hX : ∀ b, b < w.heap.size → X' b → X b) : Words X' w2 v l := by
  obtain ⟨ad, cap, rfl, h1, h2, h3⟩ := h
  refine ⟨ad, cap, rfl, h1, h2, fun hl => ?_⟩
  obtain ⟨g, o, rfl, hx, hc⟩ := h3 hl
  have hlt : g < w.heap.size := cell_lt (hc 0 (List.length_pos_iff.2 hl))
  refine ⟨g, o, rfl, fun e => hx (hX g hlt e), fun j hj => ?_⟩
  have : w2.heap[g]? = w.heap[g]? := hg.block g hlt (fun e => hx (hr g e.symm))
  rw [World.cell?_of_block (w := w) (a := ⟨g, o + j, none⟩) this]
  exact hc j hj

/-- Another row has grown. -/
theorem Rw.grow {base : Nat} {own own' : Option Nat} {w w2 : World} {v : Value} {vs : List Value} {L : List (List Nat)} (h : Rw base own w v vs L) (hg : w.grownBy w2 own) (ho : own' = own ∨ own' = some w.heap.size) : Rw base own' w2 v vs L := by
  obtain ⟨h1, h2, h3, h4⟩ := h
  refine ⟨h1, ?_, fun g hv => ?_, fun i h h' => words_move (h4 i h h') hg (fun b e => Or.inr (Or.inl e)) (fun b hb e => ?_)⟩
  · exact ownsRow_ext h2 (Y := fun k => own = some k) ⟨hg.os, hg.tape, hg.output, hg.size, fun k hk hn => hg.block k hk (fun e => hn e.symm)⟩ (fun g hv => h3 g hv)
  · rcases ho with rfl | rfl
    · exact h3 g hv
    · intro e
      have := (ownsRow_block h2 hv).2
      have := Option.some.inj e
      omega
  · rcases e with e | e | e
    · exact Or.inl e
    · rcases ho with rfl | rfl
      · exact Or.inr (Or.inl e)
      · have := Option.some.inj e; omega
    · exact Or.inr (Or.inr e)

/-- The row itself has grown by a new class. -/
theorem Rw.push {base : Nat} {w w2 : World} {v v' sv : Value} {vs : List Value} {L : List (List Nat)} {l : List Nat} (h : Rw base none w v vs L) (hs : Words (Out base none v.ownBlock) w sv l)
    (hown : w2.ownsRow base 53 1 v' (vs.length + 1) (vs ++ [sv])) (hg : w.grownBy w2 v.ownBlock) (ho : v'.ownBlock = v.ownBlock ∨ v'.ownBlock = some w.heap.size) : Rw base none w2 v' (vs ++ [sv]) (L ++ [l]) := by
  obtain ⟨h1, h2, h3, h4⟩ := h
  have mv : ∀ {u : Value} {q : List Nat}, Words (Out base none v.ownBlock) w u q → Words (Out base none v'.ownBlock) w2 u q := fun hu => words_move hu hg (fun b e => Or.inr (Or.inr e)) (fun b hb e => by
    rcases e with e | e | e
    · exact Or.inl e
    · cases e
    · rcases ho with e2 | e2
      · rw [e2] at e; exact Or.inr (Or.inr e)
      · rw [e2] at e; have := Option.some.inj e; omega)
  refine ⟨by simp [h1], by simpa using hown, (fun g _ e => by cases e), fun i hi hi' => ?_⟩
  by_cases hlt : i < vs.length
  · rw [List.getElem_append_left hlt, List.getElem_append_left (by omega)]
    exact mv (h4 i hlt (by omega))
  · have e : i = vs.length := by simp at hi; omega
    subst e
    have e1 : (vs ++ [sv])[vs.length]'hi = sv := by simp
    have e2 : (L ++ [l])[vs.length]'hi' = l := by simp [h1]
    rw [e1, e2]
    exact mv hs

theorem Rw.nil (base : Nat) (w : World) : Rw base none w (.slice none 0 0) [] [] :=
  ⟨rfl, ⟨by simp, Or.inl ⟨rfl, rfl⟩⟩, (fun g h => by cases h), (fun i h => by cases h)⟩

/-- The row of one class. -/
theorem Rw.one {base : Nat} {w : World} {b : Nat} {l : List Nat} (hW : WB w b l) (hb : base ≤ b) (hl : l.length = 3072) (hw : base ≤ w.heap.size) : Rw base none (w.alloc (.cells #[.slice (some ⟨b, 0, none⟩) 3072 3072] 53)) (.slice (some ⟨w.heap.size, 0, none⟩) 1 1) [.slice (some ⟨b, 0, none⟩) 3072 3072] [l] := by
  refine ⟨rfl, ⟨by simp, Or.inr ⟨w.heap.size, 1, _, rfl, hw, heap_new _ _, by simp, by simp [maxLen], by simp, by simp⟩⟩, (fun g h e => by cases e), fun i h h' => ?_⟩
  have : i = 0 := by simp at h; omega
  subst this
  have := WB.words (X := Out base none (Value.slice (some ⟨w.heap.size, 0, none⟩) 1 1).ownBlock) (hW.alloc (.cells #[.slice (some ⟨b, 0, none⟩) 3072 3072] 53)) (fun e => by
    have lb := heap_lt hW
    rcases e with e | e | e
    · omega
    · cases e
    · have : w.heap.size = b := Option.some.inj e
      omega) (by rw [hl]; decide)
  rw [hl] at this
  exact this

theorem Rw.cell {base : Nat} {own : Option Nat} {w : World} {v : Value} {vs : List Value} {L : List (List Nat)} (h : Rw base own w v vs L) {k : Nat} (hk : k < vs.length) : ∃ g cap, v = .slice (some ⟨g, 0, none⟩) vs.length cap ∧ w.cell? ⟨g, k, none⟩ = some vs[k] ∧ vs.length ≤ cap := by
  obtain ⟨h1, ⟨h2, h2'⟩, _⟩ := h
  rcases h2' with ⟨_, h0⟩ | ⟨g, cap, cur, rfl, hb, hh, r1, r2, r3, r4⟩
  · omega
  · refine ⟨g, cap, rfl, ?_, r1⟩
    have e : (cur.toList.take (vs.length * 1))[k]? = vs[k]? := by rw [r4]
    rw [List.getElem?_take_of_lt (by omega)] at e
    simp only [World.cell?, hh]
    simp [hk] at e
    simpa using e

def tot (L : List (List Nat)) : Nat := (L.map cnt).sum
theorem tot_append (A B : List (List Nat)) : tot (A ++ B) = tot A + tot B := by simp [tot]
def Good (L : List (List Nat)) : Prop := ∀ p ∈ L, Cl p ∧ cnt p ≠ 0
theorem tot_snoc (L : List (List Nat)) (l : List Nat) : tot (L ++ [l]) = tot L + cnt l := by simp [tot]
theorem Good.len : ∀ {L : List (List Nat)}, Good L → L.length ≤ tot L
  | [], _ => by simp [tot]
  | l :: L, h => by
    have ih := Good.len (L := L) (fun p hp => h p (List.mem_cons_of_mem _ hp))
    have := (h l (by simp)).2
    simp only [tot, List.map_cons, List.sum_cons, List.length_cons] at *
    omega
theorem Good.snoc {L : List (List Nat)} {l : List Nat} (h : Good L) (hl : Cl l) (hc : cnt l ≠ 0) : Good (L ++ [l]) := fun p hp => by
  rcases List.mem_append.1 hp with hp | hp
  · exact h p hp
  · rw [List.mem_singleton.1 hp]; exact ⟨hl, hc⟩

theorem andL_cl {s t : List Nat} (hs : Cl s) (ht : Cl t) : Cl (andL s t) := by
  refine ⟨andL_len hs ht, fun b hb => ?_⟩
  obtain ⟨i, hi, rfl⟩ := List.getElem_of_mem hb
  simp only [andL, List.getElem_zipWith]
  exact Nat.and_lt_two_pow _ (ht.2 _ (List.getElem_mem _))
theorem outL_cl {s t : List Nat} (hs : Cl s) (ht : Cl t) : Cl (outL s t) := by
  refine ⟨outL_len hs ht, fun b hb => ?_⟩
  obtain ⟨i, hi, rfl⟩ := List.getElem_of_mem hb
  simp only [outL, List.getElem_zipWith]
  exact Nat.xor_lt_two_pow (hs.2 _ (List.getElem_mem _)) (Nat.and_lt_two_pow _ (ht.2 _ (List.getElem_mem _)))

theorem sum_replicate (n a : Nat) : (List.replicate n a).sum = n * a := by
  induction n with
  | zero => simp
  | succ n ih => rw [List.replicate_succ, List.sum_cons, ih, Nat.succ_mul]; omega
theorem popc_whole : popc 18446744073709551615 = 64 := by decide
theorem cnt_whole : cnt (List.replicate 3072 18446744073709551615) = 196608 := by
  unfold cnt
  rw [List.map_replicate, popc_whole, sum_replicate]
/-- The parts that s leaves of p. -/
def spl (s p : List Nat) : List (List Nat) := (if cnt (andL p s) ≠ 0 then [andL p s] else []) ++ (if cnt (outL p s) ≠ 0 then [outL p s] else [])
def spls (s : List Nat) (P : List (List Nat)) : List (List Nat) := P.flatMap (spl s)
def wholeL : List Nat := List.replicate 3072 18446744073709551615
def mtF (F : List (List Nat)) : List (List Nat) := F.foldl (fun P s => spls s P) [wholeL]
theorem mtF_snoc (F : List (List Nat)) (s : List Nat) : mtF (F ++ [s]) = spls s (mtF F) := by simp [mtF, List.foldl_append]
theorem spls_snoc (s p : List Nat) (P : List (List Nat)) : spls s (P ++ [p]) = spls s P ++ spl s p := by simp [spls]
theorem WB.w3 {w : World} {b : Nat} {l : List Nat} (h : WB w b l) (hl : Cl l) : Words (fun _ => False) w (.slice (some ⟨b, 0, none⟩) 3072 3072) l := by
  have := h.words (X := fun _ => False) id (by rw [hl.1]; decide)
  rw [hl.1] at this
  exact this
theorem WB.grow {w w' w2 : World} {b : Nat} {l : List Nat} {row : Option Nat} (h : WB w b l) (hb : Below w.heap.size w w') (hg : w'.grownBy w2 row) (hr : row ≠ some b) : WB w2 b l := by
  have lb := heap_lt h
  exact (hg.block b (Nat.lt_of_lt_of_le lb hb.size) (fun e => hr e.symm)).trans ((hb.block b lb).trans h)
end Go.Proofs.Qxb6500848aGreatDoor
