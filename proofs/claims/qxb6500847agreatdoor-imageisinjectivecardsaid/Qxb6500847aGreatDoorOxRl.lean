/-
  RestoredArenaAnswersAlike: what lies in memory while the script is played.
-/
import Derived.Test.Qxb6500847aGreatDoorOxSx
import Derived.Test.Qxb6500847aGreatDoorOxP
import Derived.Test.Qxb6500847aGreatDoorOsDa
import Derived.Test.Qxb6500847aGreatDoorOxEl
namespace Go.Proofs.Qxb6500847aGreatDoor.Os
open Go.RowKit FloorA
set_option maxRecDepth 100000
section
variable {s s' : Av} {ws ws' : Nat → Nat → Nat → Int} {tl tl' : Nat → List Int} {L L' : Nat → List Nat} {n n' : Nat}
theorem shw_of_ob (h : ob s' ws' = ob s ws) : Shw 320 s s' ws ws' :=
  ⟨fun i hi => (ob_hd h hi).1, fun i hi => (ob_hd h hi).2.1, fun i hi _ => by
    obtain ⟨_, e2, e3, e4, e5, _⟩ := ob_hd h hi
    unfold whN
    rw [e2, e3, e4, e5], fun i hi _ => (ob_hd h hi).2.2.2.2.1, fun i t hi _ ht f hf => ob_pay h hi ht hf⟩
/-- The image of a sound state that is observed as M. -/
def Snd (M : Nat → En) (im : List Int) : Prop := ∃ s tl ws L n, IV s tl L n ∧ IX s tl L n ∧ Wr ws ∧ ob s ws = M ∧ im = imgB s ws
theorem Snd.img {M : Nat → En} {im : List Int} (h : Snd M im) (e : ob s ws = M) : imgB s ws = im := by
  obtain ⟨s1, tl1, ws1, L1, n1, hI, _, _, ho, rfl⟩ := h
  exact (shw_of_ob (e.trans ho.symm)).img hI.ge
end
/-- An image's slice; a result's cells. -/
def hdrV (x : Nat × Nat × List Int) : Value := .slice (some ⟨x.1, 0, none⟩) x.2.2.length x.2.1
def resC (x : Int × Value × Value) : List Value := [.int .u8 x.1, x.2.1, x.2.2]
def LsK (K : Nat → Prop) (w : World) (v : Value) (n : Nat) (xs : List Value) : Prop := ∃ ad cap, v = .slice ad n cap ∧ (0 < n → ∃ b o, ad = some ⟨b, o, none⟩ ∧ K b ∧ w.rangeAt b o xs)
def Ims (K : Nat → Prop) (f : Nat → OpV) (M0 : Nat → En) (I : List (Nat × Nat × List Int)) (w : World) : Prop := ∀ j x, I[j]? = some x → K x.1 ∧ BytesAt w x.1 0 x.2.2 ∧ x.2.2.length ≤ x.2.1 ∧ x.2.1 ≤ maxLen ∧ Snd (trM f M0 j) x.2.2
def Rzs (K : Nat → Prop) (f : Nat → OpV) (M0 : Nat → En) (Z : List (Int × Value × Value)) (w : World) : Prop := ∀ j x, Z[j]? = some x → x.1 = (stepX (trM f M0 j) (f j)).1.code ∧ LsK K w x.2.1 (stepX (trM f M0 j) (f j)).1.refs.length (refL (stepX (trM f M0 j) (f j)).1.refs) ∧ LsK K w x.2.2 (stepX (trM f M0 j) (f j)).1.vals.length ((stepX (trM f M0 j) (f j)).1.vals.map (.int .u64))
section
variable {K K' : Nat → Prop} {f : Nat → OpV} {M0 : Nat → En} {I : List (Nat × Nat × List Int)} {Z : List (Int × Value × Value)} {w w' : World} {v : Value} {m : Nat} {xs : List Value}
def Kept (K : Nat → Prop) (w w' : World) : Prop := ∀ b, K b → w'.heap[b]? = w.heap[b]?
theorem Kept.cell (h : Kept K w w') {b o : Nat} (hb : K b) : w'.cell? ⟨b, o, none⟩ = w.cell? ⟨b, o, none⟩ := World.cell?_of_block (h b hb)
theorem LsK.turn (h : LsK K w v m xs) (hk : Kept K w w') (hK : ∀ b, K b → K' b) : LsK K' w' v m xs := by
  obtain ⟨ad, cap, e, g⟩ := h
  refine ⟨ad, cap, e, fun q => ?_⟩
  obtain ⟨b, o, e1, e2, e3⟩ := g q
  exact ⟨b, o, e1, hK b e2, fun j x hj => (hk.cell e2).trans (e3 j x hj)⟩
theorem LsK.sq (h : LsK K w v m xs) {B : Nat} (hK : ∀ b, K b → B ≤ b) : Sq B w v m xs := by
  obtain ⟨ad, cap, e, g⟩ := h
  refine ⟨ad, cap, e, fun q => ?_⟩
  obtain ⟨b, o, e1, e2, e3⟩ := g q
  exact ⟨b, o, e1, hK b e2, e3⟩
theorem Ims.turn (h : Ims K f M0 I w) (hk : Kept K w w') (hK : ∀ b, K b → K' b) : Ims K' f M0 I w' := fun j x hx => by
  obtain ⟨a, b, c, d, e⟩ := h j x hx
  exact ⟨hK _ a, fun i hi => ⟨(hk.cell a).trans (b i hi).1, (b i hi).2⟩, c, d, e⟩
theorem Rzs.turn (h : Rzs K f M0 Z w) (hk : Kept K w w') (hK : ∀ b, K b → K' b) : Rzs K' f M0 Z w' := fun j x hx => by
  obtain ⟨a, b, c⟩ := h j x hx
  exact ⟨a, b.turn hk hK, c.turn hk hK⟩
theorem snoc_get {α : Type} {l : List α} {a x : α} {j : Nat} (h : (l ++ [a])[j]? = some x) : l[j]? = some x ∨ (j = l.length ∧ x = a) := by
  by_cases q : j < l.length
  · rw [List.getElem?_append_left q] at h
    exact Or.inl h
  · rw [List.getElem?_append_right (by omega)] at h
    by_cases e : j = l.length
    · subst e
      simp at h
      exact Or.inr ⟨rfl, h.symm⟩
    · have : j - l.length ≠ 0 := by omega
      match hj : j - l.length, this with
      | k + 1, _ => rw [hj] at h; simp at h
theorem Ims.snoc (h : Ims K f M0 I w) {x : Nat × Nat × List Int} (hx : K x.1 ∧ BytesAt w x.1 0 x.2.2 ∧ x.2.2.length ≤ x.2.1 ∧ x.2.1 ≤ maxLen ∧ Snd (trM f M0 I.length) x.2.2) : Ims K f M0 (I ++ [x]) w := fun j y hy => by
  rcases snoc_get hy with q | ⟨rfl, rfl⟩
  · exact h j y q
  · exact hx
theorem Rzs.snoc (h : Rzs K f M0 Z w) {x : Int × Value × Value} (h1 : x.1 = (stepX (trM f M0 Z.length) (f Z.length)).1.code) (h2 : LsK K w x.2.1 (stepX (trM f M0 Z.length) (f Z.length)).1.refs.length (refL (stepX (trM f M0 Z.length) (f Z.length)).1.refs)) (h3 : LsK K w x.2.2 (stepX (trM f M0 Z.length) (f Z.length)).1.vals.length ((stepX (trM f M0 Z.length) (f Z.length)).1.vals.map (.int .u64))) : Rzs K f M0 (Z ++ [x]) w := fun j y hy => by
  rcases snoc_get hy with q | ⟨rfl, rfl⟩
  · exact h j y q
  · exact ⟨h1, h2, h3⟩
end
theorem owns_keep {base T k : Nat} {v : Value} {n : Nat} {xs : List Value} {w w' : World} (h : w.ownsRow base T k v n xs) (e : ∀ q, v.ownBlock = some q → w'.heap[q]? = w.heap[q]?) : w'.ownsRow base T k v n xs := by
  obtain ⟨h1, h2⟩ := h
  exact ⟨h1, h2.imp id (fun ⟨g, cap, cur, e1, e2, e3, e4⟩ => ⟨g, cap, cur, e1, e2, (e g (by rw [e1]; rfl)).trans e3, e4⟩)⟩
theorem owns_lt {base T k : Nat} {v : Value} {n : Nat} {xs : List Value} {w : World} (h : w.ownsRow base T k v n xs) : ∀ q, v.ownBlock = some q → base ≤ q ∧ q < w.heap.size := fun q hq => by
  rcases h.2 with ⟨e, _⟩ | ⟨g, cap, cur, e1, e2, e3, _⟩
  · rw [e] at hq; simp [Value.ownBlock] at hq
  · rw [e1] at hq
    obtain rfl : g = q := Option.some.inj hq
    exact ⟨e2, heap_lt e3⟩
/-- The blocks that hold what is kept. -/
def Kp (base P A : Nat) (rb sb : Nat → Nat) (vI vR : Value) (w : World) (b : Nat) : Prop := base ≤ b ∧ b < w.heap.size ∧ ¬ Tz A rb sb b ∧ b ≠ P ∧ vI.ownBlock ≠ some b ∧ vR.ownBlock ≠ some b
/-- The images and the results. -/
structure Ps (base P A : Nat) (rb sb : Nat → Nat) (f : Nat → OpV) (M0 : Nat → En) (vI vR : Value) (I : List (Nat × Nat × List Int)) (Z : List (Int × Value × Value)) (w : World) : Prop where
  oI : w.ownsRow base 38 1 vI I.length (I.map hdrV)
  oR : w.ownsRow base 57 3 vR Z.length (Z.flatMap resC)
  nI : ∀ b, vI.ownBlock = some b → ¬ Tz A rb sb b ∧ b ≠ P ∧ vR.ownBlock ≠ some b
  nR : ∀ b, vR.ownBlock = some b → ¬ Tz A rb sb b ∧ b ≠ P
  im : Ims (Kp base P A rb sb vI vR w) f M0 I w
  rz : Rzs (Kp base P A rb sb vI vR w) f M0 Z w
section
variable {base P A : Nat} {rb sb : Nat → Nat} {f : Nat → OpV} {M0 : Nat → En} {vI vR : Value} {I : List (Nat × Nat × List Int)} {Z : List (Int × Value × Value)} {w w' : World}
theorem Ps.nIR (h : Ps base P A rb sb f M0 vI vR I Z w) : ∀ b, vR.ownBlock = some b → vI.ownBlock ≠ some b := fun b hb q => (h.nI b q).2.2 hb
/-- The arena turns, or gives way to a new one. -/
theorem Ps.play (h : Ps base P A rb sb f M0 vI vR I Z w) {A' : Nat} {rb' sb' : Nat → Nat} (e : Ext w.heap.size (fun b => Tz A rb sb b ∨ b = P) w w') (ha : (A' = A ∧ rb' = rb ∧ sb' = sb) ∨ ∀ b, Tz A' rb' sb' b → w.heap.size ≤ b) : Ps base P A' rb' sb' f M0 vI vR I Z w' := by
  have nt : ∀ b, b < w.heap.size → ¬ Tz A rb sb b → ¬ Tz A' rb' sb' b := fun b hb hn q => by
    rcases ha with ⟨rfl, rfl, rfl⟩ | ha
    · exact hn q
    · have := ha b q; omega
  have lI := owns_lt h.oI
  have lR := owns_lt h.oR
  have hK : ∀ b, Kp base P A rb sb vI vR w b → Kp base P A' rb' sb' vI vR w' b := fun b hb => ⟨hb.1, Nat.lt_of_lt_of_le hb.2.1 e.size, nt b hb.2.1 hb.2.2.1, hb.2.2.2⟩
  have hk : Kept (Kp base P A rb sb vI vR w) w w' := fun b hb => e.block b hb.2.1 (fun q => q.elim hb.2.2.1 hb.2.2.2.1)
  exact ⟨owns_keep h.oI (fun q hq => e.block q (lI q hq).2 (fun x => x.elim (h.nI q hq).1 (h.nI q hq).2.1)), owns_keep h.oR (fun q hq => e.block q (lR q hq).2 (fun x => x.elim (h.nR q hq).1 (h.nR q hq).2)),
    fun b hb => ⟨nt b (lI b hb).2 (h.nI b hb).1, (h.nI b hb).2⟩, fun b hb => ⟨nt b (lR b hb).2 (h.nR b hb).1, (h.nR b hb).2⟩, h.im.turn hk hK, h.rz.turn hk hK⟩
theorem Ps.below (h : Ps base P A rb sb f M0 vI vR I Z w) (k : Below w.heap.size w w') : Ps base P A rb sb f M0 vI vR I Z w' := h.play (Ext.of_below k _) (Or.inl ⟨rfl, rfl, rfl⟩)
/-- A result is added. -/
theorem Ps.res (h : Ps base P A rb sb f M0 vI vR I Z w) {vR' : Value} {x : Int × Value × Value} {o : Obj} (htz : ∀ b, Tz A rb sb b → b < w.heap.size) (hP : P < w.heap.size) (ho : w'.ownsRow base 57 3 vR' (Z.length + 1) (Z.flatMap resC ++ resC x)) (hg : (w.alloc o).grownBy w' vR.ownBlock) (hl : vR'.ownBlock = vR.ownBlock ∨ vR'.ownBlock = some (w.alloc o).heap.size)
    (h1 : x.1 = (stepX (trM f M0 Z.length) (f Z.length)).1.code) (h2 : LsK (Kp base P A rb sb vI vR w) w x.2.1 (stepX (trM f M0 Z.length) (f Z.length)).1.refs.length (refL (stepX (trM f M0 Z.length) (f Z.length)).1.refs)) (h3 : LsK (Kp base P A rb sb vI vR w) w x.2.2 (stepX (trM f M0 Z.length) (f Z.length)).1.vals.length ((stepX (trM f M0 Z.length) (f Z.length)).1.vals.map (.int .u64))) :
    Ps base P A rb sb f M0 vI vR' I (Z ++ [x]) w' := by
  have hsz : (w.alloc o).heap.size = w.heap.size + 1 := by simp
  have lI := owns_lt h.oI
  have lR := owns_lt h.oR
  have hs' : w.heap.size ≤ w'.heap.size := Nat.le_trans (by rw [hsz]; omega) hg.size
  have blk : ∀ b, b < w.heap.size → vR.ownBlock ≠ some b → w'.heap[b]? = w.heap[b]? := fun b hb hn => (hg.block b (by rw [hsz]; omega) (fun q => hn q.symm)).trans (heap_alloc_old _ _ hb)
  have hK : ∀ b, Kp base P A rb sb vI vR w b → Kp base P A rb sb vI vR' w' b := fun b hb => ⟨hb.1, Nat.lt_of_lt_of_le hb.2.1 hs', hb.2.2.1, hb.2.2.2.1, hb.2.2.2.2.1, fun q => by
    rcases hl with l | l
    · exact hb.2.2.2.2.2 (l ▸ q)
    · rw [l] at q; have := Option.some.inj q; have := hb.2.1; omega⟩
  have hk : Kept (Kp base P A rb sb vI vR w) w w' := fun b hb => blk b hb.2.1 hb.2.2.2.2.2
  refine ⟨owns_keep h.oI (fun q hq => blk q (lI q hq).2 (h.nI q hq).2.2), by rw [List.length_append, List.flatMap_append]; simpa using ho, fun b hb => ⟨(h.nI b hb).1, (h.nI b hb).2.1, fun q => ?_⟩, fun b hb => ?_, h.im.turn hk hK, (h.rz.snoc h1 h2 h3).turn hk hK⟩
  · rcases hl with l | l
    · exact (h.nI b hb).2.2 (l ▸ q)
    · rw [l] at q; have := Option.some.inj q; have := (lI b hb).2; omega
  · rcases hl with l | l
    · exact h.nR b (l ▸ hb)
    · rw [l] at hb
      have e := Option.some.inj hb
      exact ⟨fun q => by have := htz b q; omega, by omega⟩
/-- An image is added. -/
theorem Ps.img (h : Ps base P A rb sb f M0 vI vR I Z w) {vI' : Value} {x : Nat × Nat × List Int} {o : Obj} (htz : ∀ b, Tz A rb sb b → b < w.heap.size) (hP : P < w.heap.size) (ho : w'.ownsRow base 38 1 vI' (I.length + 1) (I.map hdrV ++ [hdrV x])) (hg : (w.alloc o).grownBy w' vI.ownBlock) (hl : vI'.ownBlock = vI.ownBlock ∨ vI'.ownBlock = some (w.alloc o).heap.size)
    (hx : Kp base P A rb sb vI vR w x.1 ∧ BytesAt w x.1 0 x.2.2 ∧ x.2.2.length ≤ x.2.1 ∧ x.2.1 ≤ maxLen ∧ Snd (trM f M0 I.length) x.2.2) :
    Ps base P A rb sb f M0 vI' vR (I ++ [x]) Z w' := by
  have hsz : (w.alloc o).heap.size = w.heap.size + 1 := by simp
  have lI := owns_lt h.oI
  have lR := owns_lt h.oR
  have hs' : w.heap.size ≤ w'.heap.size := Nat.le_trans (by rw [hsz]; omega) hg.size
  have blk : ∀ b, b < w.heap.size → vI.ownBlock ≠ some b → w'.heap[b]? = w.heap[b]? := fun b hb hn => (hg.block b (by rw [hsz]; omega) (fun q => hn q.symm)).trans (heap_alloc_old _ _ hb)
  have hK : ∀ b, Kp base P A rb sb vI vR w b → Kp base P A rb sb vI' vR w' b := fun b hb => ⟨hb.1, Nat.lt_of_lt_of_le hb.2.1 hs', hb.2.2.1, hb.2.2.2.1, fun q => by
    rcases hl with l | l
    · exact hb.2.2.2.2.1 (l ▸ q)
    · rw [l] at q; have := Option.some.inj q; have := hb.2.1; omega, hb.2.2.2.2.2⟩
  have hk : Kept (Kp base P A rb sb vI vR w) w w' := fun b hb => blk b hb.2.1 hb.2.2.2.2.1
  refine ⟨by rw [List.length_append, List.map_append]; exact ho, owns_keep h.oR (fun q hq => blk q (lR q hq).2 (h.nIR q hq)), fun b hb => ?_, h.nR, (h.im.snoc hx).turn hk hK, h.rz.turn hk hK⟩
  rcases hl with l | l
  · exact h.nI b (l ▸ hb)
  · rw [l] at hb
    have e := Option.some.inj hb
    exact ⟨fun q => by have := htz b q; omega, by omega, fun q => by have := (lR b q).2; omega⟩
/-- At the start. -/
theorem Ps.start {q c : Nat} {im : List Int} {g : Nat} (hb : base ≤ g) (hg : w.heap[g]? = some (.cells #[hdrV (q, c, im)] 38 (0, 0))) (hgz : ¬ Tz A rb sb g) (hgP : g ≠ P) (hq : base ≤ q ∧ q < w.heap.size ∧ ¬ Tz A rb sb q ∧ q ≠ P ∧ q ≠ g) (hB : BytesAt w q 0 im) (h1 : im.length ≤ c) (h2 : c ≤ maxLen) (hS : Snd M0 im) :
    Ps base P A rb sb f M0 (.slice (some ⟨g, 0, none⟩) 1 1) (.slice none 0 0) [(q, c, im)] [] w := by
  refine ⟨⟨rfl, Or.inr ⟨g, 1, _, rfl, hb, hg, Nat.le_refl _, by unfold maxLen; omega, rfl, rfl⟩⟩, ⟨rfl, Or.inl ⟨rfl, rfl⟩⟩, fun b hb => ?_, fun b hb => by simp [Value.ownBlock] at hb, fun j x hx => ?_, fun j x hx => by simp at hx⟩
  · obtain rfl : g = b := Option.some.inj hb
    exact ⟨hgz, hgP, by simp [Value.ownBlock]⟩
  · match j, hx with
    | 0, hx =>
      simp at hx
      subst hx
      exact ⟨⟨hq.1, hq.2.1, hq.2.2.1, hq.2.2.2.1, fun e => hq.2.2.2.2 (Option.some.inj e).symm, by simp [Value.ownBlock]⟩, hB, h1, h2, hS⟩
    | j + 1, hx => simp at hx
/-- Where the images and the results lie. -/
theorem Ps.atI (h : Ps base P A rb sb f M0 vI vR I Z w) (hn : 0 < I.length) : ∃ g c, vI = .slice (some ⟨g, 0, none⟩) I.length c ∧ ∀ j x, I[j]? = some x → w.cell? ⟨g, j, none⟩ = some (hdrV x) := by
  rcases h.oI.2 with ⟨_, e⟩ | ⟨g, c, cur, e1, _⟩
  · omega
  · refine ⟨g, c, e1, fun j x hx => ?_⟩
    have := World.ownsRow.cells h.oI (g := g) (by rw [e1]; rfl) j (hdrV x) (by rw [List.getElem?_map, hx]; rfl)
    have ad0 : (⟨g, 0, none⟩ : Addr).add j = ⟨g, j, none⟩ := by unfold Addr.add; by_cases e : j = 0 <;> simp [e]
    rwa [ad0] at this
theorem resC_get {Z : List (Int × Value × Value)} {j : Nat} {x : Int × Value × Value} (h : Z[j]? = some x) : (Z.flatMap resC)[j * 3]? = some (.int .u8 x.1) ∧ (Z.flatMap resC)[j * 3 + 1]? = some x.2.1 ∧ (Z.flatMap resC)[j * 3 + 2]? = some x.2.2 := by
  induction Z generalizing j with
  | nil => simp at h
  | cons a l ih =>
    match j, h with
    | 0, h => simp at h; subst h; exact ⟨rfl, rfl, rfl⟩
    | j + 1, h =>
      obtain ⟨h1, h2, h3⟩ := ih (j := j) (by simpa using h)
      have e1 : (j + 1) * 3 = j * 3 + 3 := by omega
      rw [e1]
      exact ⟨h1, h2, h3⟩
theorem Ps.atR (h : Ps base P A rb sb f M0 vI vR I Z w) (hn : 0 < Z.length) : ∃ g c, vR = .slice (some ⟨g, 0, none⟩) Z.length c ∧ ∀ j x, Z[j]? = some x → w.cell? ⟨g, j * 3, none⟩ = some (.int .u8 x.1) ∧ w.cell? ⟨g, j * 3 + 1, none⟩ = some x.2.1 ∧ w.cell? ⟨g, j * 3 + 2, none⟩ = some x.2.2 := by
  rcases h.oR.2 with ⟨_, e⟩ | ⟨g, c, cur, e1, _⟩
  · omega
  · refine ⟨g, c, e1, fun j x hx => ?_⟩
    obtain ⟨h1, h2, h3⟩ := resC_get hx
    have ad0 : ∀ k, (⟨g, 0, none⟩ : Addr).add k = ⟨g, k, none⟩ := fun k => by unfold Addr.add; by_cases e : k = 0 <;> simp [e]
    have c1 := World.ownsRow.cells h.oR (g := g) (by rw [e1]; rfl) _ _ h1
    have c2 := World.ownsRow.cells h.oR (g := g) (by rw [e1]; rfl) _ _ h2
    have c3 := World.ownsRow.cells h.oR (g := g) (by rw [e1]; rfl) _ _ h3
    rw [ad0] at c1 c2 c3
    exact ⟨c1, c2, c3⟩
theorem Ps.shR (h : Ps base P A rb sb f M0 vI vR I Z w) : ∃ a c, vR = .slice a Z.length c := by
  rcases h.oR.2 with ⟨e, e2⟩ | ⟨g, c, cur, e1, _⟩
  · exact ⟨none, 0, by rw [e, e2]⟩
  · exact ⟨_, c, e1⟩
theorem Ps.shI (h : Ps base P A rb sb f M0 vI vR I Z w) : ∃ a c, vI = .slice a I.length c := by
  rcases h.oI.2 with ⟨e, e2⟩ | ⟨g, c, cur, e1, _⟩
  · exact ⟨none, 0, by rw [e, e2]⟩
  · exact ⟨_, c, e1⟩
end
end Go.Proofs.Qxb6500847aGreatDoor.Os
