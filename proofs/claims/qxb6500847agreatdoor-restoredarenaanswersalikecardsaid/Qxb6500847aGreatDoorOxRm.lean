/-
  RestoredArenaAnswersAlike: between two steps.
-/
import Derived.Test.Qxb6500847aGreatDoorOxRl
import Derived.Test.Qxb6500847aGreatDoorOxPlay
import Derived.Test.Qxb6500847aGreatDoorOxPz
namespace Go.Proofs.Qxb6500847aGreatDoor.Os
open Go.RowKit FloorA
set_option maxRecDepth 100000
theorem refL_ge (l : List (Nat × Int)) : l.length ≤ (refL l).length := by
  induction l with
  | nil => simp
  | cons a l ih =>
    have : (refL (a :: l)).length = (refL l).length + 2 := by simp [refL]
    rw [this, List.length_cons]
    omega
/-- Between two steps. -/
structure Lr (base P : Nat) (w : World) (A : Nat) (rb sb : Nat → Nat) (s : Av) (tl : Nat → List Int) (ws : Nat → Nat → Nat → Int) (L : Nat → List Nat) (n : Nat) (f : Nat → OpV) (M0 : Nat → En) (j : Nat) (vI vR : Value) (I : List (Nat × Nat × List Int)) (Z : List (Int × Value × Value)) (wr : World) : Prop where
  hx : Hx P A rb sb s tl ws L n wr
  obs : ob s ws = trM f M0 j
  ps : Ps base P A rb sb f M0 vI vR I Z wr
  bw : Below base w wr
  bz : ∀ b, Tz A rb sb b → base ≤ b
section
variable {base P : Nat} {w : World} {A : Nat} {rb sb : Nat → Nat} {s : Av} {tl : Nat → List Int} {ws : Nat → Nat → Nat → Int} {L : Nat → List Nat} {n : Nat} {f : Nat → OpV} {M0 : Nat → En} {j k : Nat} {vI vR : Value} {I : List (Nat × Nat × List Int)} {Z : List (Int × Value × Value)} {wr w3 : World}
theorem Lr.below (h : Lr base P w A rb sb s tl ws L n f M0 j vI vR I Z wr) (hB : base ≤ wr.heap.size) (k : Below wr.heap.size wr w3) : Lr base P w A rb sb s tl ws L n f M0 j vI vR I Z w3 :=
  ⟨h.hx.below k, h.obs, h.ps.below k, h.bw.trans (k.mono hB), h.bz⟩
/-- A step is played. -/
theorem Lr.play (h : Lr base P w A rb sb s tl ws L n f M0 k vI vR I Z wr) (hB : base ≤ wr.heap.size) (hP : base ≤ P) {A' : Nat} {rb' sb' : Nat → Nat} {s' : Av} {tl' : Nat → List Int} {ws' : Nat → Nat → Nat → Int} {L' : Nat → List Nat} {n' : Nat} {refs vals : Value}
    (hr : IsR (wr.heap.size + 2) w3 refs (stepX (ob s ws) (f k)).1.refs) (hv : IsU (wr.heap.size + 2) w3 vals (stepX (ob s ws) (f k)).1.vals) (hx : Hx P A' rb' sb' s' tl' ws' L' n' w3) (ho : ob s' ws' = (stepX (ob s ws) (f k)).2) (e : Ext wr.heap.size (fun b => Tz A rb sb b ∨ b = P) wr w3)
    (ha : (A' = A ∧ rb' = rb ∧ sb' = sb) ∨ ((∀ b, Tz A' rb' sb' b → wr.heap.size ≤ b) ∧ (stepX (ob s ws) (f k)).1.refs = [] ∧ (stepX (ob s ws) (f k)).1.vals = [])) :
    Lr base P w A' rb' sb' s' tl' ws' L' n' f M0 (k + 1) vI vR I Z w3 ∧ LsK (Kp base P A' rb' sb' vI vR w3) w3 refs (stepX (trM f M0 k) (f k)).1.refs.length (refL (stepX (trM f M0 k) (f k)).1.refs) ∧ LsK (Kp base P A' rb' sb' vI vR w3) w3 vals (stepX (trM f M0 k) (f k)).1.vals.length ((stepX (trM f M0 k) (f k)).1.vals.map (.int .u64)) := by
  have ha' : (A' = A ∧ rb' = rb ∧ sb' = sb) ∨ ∀ b, Tz A' rb' sb' b → wr.heap.size ≤ b := ha.imp id (fun q => q.1)
  rw [h.obs] at hr hv ho ha
  have lI := owns_lt h.ps.oI
  have lR := owns_lt h.ps.oR
  have hPl := h.hx.plt
  have key : ∀ {v : Value} {m : Nat} {xs : List Value}, Sq (wr.heap.size + 2) w3 v m xs → xs.length ≥ m → ((∀ b, Tz A' rb' sb' b → wr.heap.size ≤ b) → ¬ (A' = A ∧ rb' = rb ∧ sb' = sb) → m = 0) → LsK (Kp base P A' rb' sb' vI vR w3) w3 v m xs := fun {v m xs} hq hl h0 => by
    obtain ⟨ad, cap, e1, g⟩ := hq
    refine ⟨ad, cap, e1, fun q => ?_⟩
    obtain ⟨b, o, e2, e3, e4⟩ := g q
    have hb : b < w3.heap.size := by
      obtain ⟨x, hx0⟩ : ∃ x, xs[0]? = some x := ⟨_, List.getElem?_eq_getElem (by omega)⟩
      exact cell_lt (e4 0 x hx0)
    refine ⟨b, o, e2, ⟨by omega, hb, fun t => ?_, by omega, fun t => ?_, fun t => ?_⟩, e4⟩
    · by_cases q1 : A' = A ∧ rb' = rb ∧ sb' = sb
      · obtain ⟨rfl, rfl, rfl⟩ := q1
        have := h.hx.ms.tzlt b t
        omega
      · have := h0 (ha'.resolve_left q1) q1
        omega
    · have := (lI b t).2; omega
    · have := (lR b t).2; omega
  refine ⟨⟨hx, ho, h.ps.play e ha', h.bw.trans (e.below' hB (fun b hb hx => ?_)), fun b hb => ?_⟩, key hr ?_ (fun _ q => ?_), key hv ?_ (fun _ q => ?_)⟩
  · rcases hx with hx | hx
    · exact absurd (h.bz b hx) (by omega)
    · omega
  · rcases ha' with ⟨rfl, rfl, rfl⟩ | ha'
    · exact h.bz b hb
    · exact Nat.le_trans hB (ha' b hb)
  · exact refL_ge _
  · rw [(ha.resolve_left q).2.1]; rfl
  · simp
  · rw [(ha.resolve_left q).2.2]; rfl
/-- What an append to a list of ours leaves. -/
theorem Lr.grow (h : Lr base P w A rb sb s tl ws L n f M0 j vI vR I Z wr) (h4 : 4 ≤ base) (hB : base ≤ wr.heap.size) {o : Obj} {r : Option Nat} (hg : (wr.alloc o).grownBy w3 r) (hr : ∀ b, r = some b → base ≤ b ∧ ¬ Tz A rb sb b ∧ b ≠ P) : Hx P A rb sb s tl ws L n w3 ∧ Below base w w3 := by
  have hsz : (wr.alloc o).heap.size = wr.heap.size + 1 := by simp
  have e : Ext wr.heap.size (fun b => r = some b) wr w3 := ⟨hg.os, hg.tape, hg.output, Nat.le_trans (by rw [hsz]; omega) hg.size, fun k hk hx => (hg.block k (by rw [hsz]; omega) (fun q => hx q.symm)).trans (heap_alloc_old _ _ hk)⟩
  refine ⟨⟨h.hx.toHs.ext e (fun b hb => ⟨(hr b hb).2.1, by have := (hr b hb).1; omega, (hr b hb).2.2⟩), h.hx.ix⟩, h.bw.trans (e.below' hB (fun b hb q => by have := (hr b q).1; omega))⟩
theorem Lr.res (h : Lr base P w A rb sb s tl ws L n f M0 j vI vR I Z wr) (h4 : 4 ≤ base) (hB : base ≤ wr.heap.size) {vR' : Value} {x : Int × Value × Value} {o : Obj} (ho : w3.ownsRow base 57 3 vR' (Z.length + 1) (Z.flatMap resC ++ resC x)) (hg : (wr.alloc o).grownBy w3 vR.ownBlock) (hl : vR'.ownBlock = vR.ownBlock ∨ vR'.ownBlock = some (wr.alloc o).heap.size)
    (h1 : x.1 = (stepX (trM f M0 Z.length) (f Z.length)).1.code) (h2 : LsK (Kp base P A rb sb vI vR wr) wr x.2.1 (stepX (trM f M0 Z.length) (f Z.length)).1.refs.length (refL (stepX (trM f M0 Z.length) (f Z.length)).1.refs)) (h3 : LsK (Kp base P A rb sb vI vR wr) wr x.2.2 (stepX (trM f M0 Z.length) (f Z.length)).1.vals.length ((stepX (trM f M0 Z.length) (f Z.length)).1.vals.map (.int .u64))) :
    Lr base P w A rb sb s tl ws L n f M0 j vI vR' I (Z ++ [x]) w3 := by
  have lR := owns_lt h.ps.oR
  obtain ⟨a, b⟩ := h.grow h4 hB hg (fun b hb => ⟨(lR b hb).1, h.ps.nR b hb⟩)
  exact ⟨a, h.obs, h.ps.res h.hx.ms.tzlt h.hx.plt ho hg hl h1 h2 h3, b, h.bz⟩
theorem Lr.img (h : Lr base P w A rb sb s tl ws L n f M0 j vI vR I Z wr) (h4 : 4 ≤ base) (hB : base ≤ wr.heap.size) (hj : I.length = j) {vI' : Value} {q c : Nat} {o : Obj} (ho : w3.ownsRow base 38 1 vI' (I.length + 1) (I.map hdrV ++ [hdrV (q, c, imgB s ws)])) (hg : (wr.alloc o).grownBy w3 vI.ownBlock) (hl : vI'.ownBlock = vI.ownBlock ∨ vI'.ownBlock = some (wr.alloc o).heap.size)
    (hq : Kp base P A rb sb vI vR wr q) (hb : BytesAt wr q 0 (imgB s ws)) (h1 : (imgB s ws).length ≤ c) (h2 : c ≤ maxLen) :
    Lr base P w A rb sb s tl ws L n f M0 j vI' vR (I ++ [(q, c, imgB s ws)]) Z w3 := by
  have lI := owns_lt h.ps.oI
  obtain ⟨a, b⟩ := h.grow h4 hB hg (fun b hb => ⟨(lI b hb).1, (h.ps.nI b hb).1, (h.ps.nI b hb).2.1⟩)
  exact ⟨a, h.obs, h.ps.img h.hx.ms.tzlt h.hx.plt ho hg hl ⟨hq, hb, h1, h2, s, tl, ws, L, n, h.hx.iv, h.hx.ix, h.hx.wr, by rw [h.obs, hj], rfl⟩, b, h.bz⟩
/-- A block that Encode has made is kept. -/
theorem Lr.new (h : Lr base P w A rb sb s tl ws L n f M0 j vI vR I Z wr) (hB : base ≤ wr.heap.size) {q : Nat} (h1 : wr.heap.size ≤ q) (h2 : q < w3.heap.size) : Kp base P A rb sb vI vR w3 q :=
  ⟨Nat.le_trans hB h1, h2, (h.hx.toHs.nR h1).1, (h.hx.toHs.nR h1).2.2, fun t => by have := (owns_lt h.ps.oI q t).2; omega, fun t => by have := (owns_lt h.ps.oR q t).2; omega⟩
end
end Go.Proofs.Qxb6500847aGreatDoor.Os
