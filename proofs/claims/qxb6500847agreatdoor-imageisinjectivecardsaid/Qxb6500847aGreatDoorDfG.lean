/-
  DiffListsEveryDifference: two arenas and two models side by side.
-/
import Derived.Test.Qxb6500847aGreatDoorSpA
import Derived.Test.Qxb6500847aGreatDoorEqD
import Derived.Test.Qxb6500847aGreatDoorDfF
import Derived.Test.Qxb6500847aGreatDoorDfC
import Derived.Test.Qxb6500847aGreatDoorDfD
import Derived.Test.Qxb6500847aGreatDoorDfP
import Derived.Test.Qxb6500847aGreatDoorSwA
namespace Go.Proofs.Qxb6500847aGreatDoor.Os
open Go.RowKit FloorA
set_option maxRecDepth 100000
theorem Fresh.ob {s : Av} {rb sb : Nat → Nat} (h : Fresh s rb sb 320) (ws : Nat → Nat → Nat → Int) : ob s ws = M00 := by
  funext i
  unfold M00
  by_cases hi : i < 320
  · rw [ob_at _ _ hi, if_pos hi, h.hd i hi]
    rfl
  · rw [ob_out _ _ hi, if_neg hi]
def D4 (w0 : World) (f f2 : Nat → OpV) (P P2 B C j1 j2 j3 j4 : Nat) (w : World) : Prop :=
  ∃ D, Sep w0.heap.size D w ∧ ArL D 0 P (trM f M00 j1) w ∧ ArL D 1 P2 (trM f2 M00 j2) w ∧ MoL D 2 B (trM f M00 j3) w ∧ MoL D 3 C (trM f2 M00 j4) w ∧ Below w0.heap.size w0 w ∧ SdM (trM f M00 j3) ∧ SdM (trM f2 M00 j4)
section
variable {w0 w w' : World} {f f2 : Nat → OpV} {P P2 B C j1 j2 j3 j4 k Cb o : Nat}
theorem D4.bel (h : D4 w0 f f2 P P2 B C j1 j2 j3 j4 w) : Below w0.heap.size w0 w := by
  obtain ⟨D, _, _, _, _, _, hb, _⟩ := h
  exact hb
theorem D4.below (h : D4 w0 f f2 P P2 B C j1 j2 j3 j4 w) (k : Below w.heap.size w w') : D4 w0 f f2 P P2 B C j1 j2 j3 j4 w' := by
  obtain ⟨D, hS, a1, a2, m1, m2, hb, s1, s2⟩ := h
  exact ⟨D, hS.same k.size, a1.below k, a2.below k, m1.below k, m2.below k, hb.trans (k.mono hb.size), s1, s2⟩
theorem sep_bel {base : Nat} {D : Nat → Nat → Prop} {c : Nat} (hS : Sep base D w) (he : Ext w.heap.size (D c) w w') (hb : base ≤ w.heap.size) : Below base w w' := he.below' hb (fun b hb' q => by have := (hS.lo c b q).1; omega)
def RtP (w0 : World) (f f2 : Nat → OpV) (P P2 B C j1 j2 j3 j4 : Nat) (e : Ending) (w' : World) : Prop := (∃ v, e = .returned v) ∧ D4 w0 f f2 P P2 B C j1 j2 j3 j4 w'
theorem D4.play1 (h : D4 w0 f f2 P P2 B C k k k k w) (h4 : 4 ≤ w0.heap.size) (hv : OpAt w Cb o (f k)) : Calls Tryz.prog 17 #[.pointer (some ⟨P, 0, none⟩), .agg (f k).arr] w (RtP w0 f f2 P P2 B C (k + 1) k k k) := by
  obtain ⟨D, hS, a1, a2, m1, m2, hb, s1, s2⟩ := h
  refine (a1.play (f k) hv).mono ?_
  rintro e w' ⟨refs, vals, rfl, _, _, a1', he, _⟩
  exact ⟨⟨_, rfl⟩, grD D 0 w w', hS.grow he.size hb.size 0, a1', (a2.keep hS h4 (by decide) he).mono (fun b q => Or.inl q), (m1.keep hS (by decide) he).mono (fun b q => Or.inl q), (m2.keep hS (by decide) he).mono (fun b q => Or.inl q), hb.trans (sep_bel hS he hb.size), s1, s2⟩
theorem D4.play2 (h : D4 w0 f f2 P P2 B C (k + 1) k k k w) (h4 : 4 ≤ w0.heap.size) (hv : OpAt w Cb o (f2 k)) : Calls Tryz.prog 17 #[.pointer (some ⟨P2, 0, none⟩), .agg (f2 k).arr] w (RtP w0 f f2 P P2 B C (k + 1) (k + 1) k k) := by
  obtain ⟨D, hS, a1, a2, m1, m2, hb, s1, s2⟩ := h
  refine (a2.play (f2 k) hv).mono ?_
  rintro e w' ⟨refs, vals, rfl, _, _, a2', he, _⟩
  exact ⟨⟨_, rfl⟩, grD D 1 w w', hS.grow he.size hb.size 1, (a1.keep hS h4 (by decide) he).mono (fun b q => Or.inl q), a2', (m1.keep hS (by decide) he).mono (fun b q => Or.inl q), (m2.keep hS (by decide) he).mono (fun b q => Or.inl q), hb.trans (sep_bel hS he hb.size), s1, s2⟩
theorem D4.step1 (h : D4 w0 f f2 P P2 B C (k + 1) (k + 1) k k w) (h4 : 4 ≤ w0.heap.size) (hv : OpAt w Cb o (f k)) : Calls Tryz.prog 19 #[.pointer (some ⟨B, 0, none⟩), .agg (f k).arr] w (RtP w0 f f2 P P2 B C (k + 1) (k + 1) (k + 1) k) := by
  obtain ⟨D, hS, a1, a2, m1, m2, hb, s1, s2⟩ := h
  refine (m1.step s1 (f k) hv).mono ?_
  rintro e w' ⟨refs, vals, rfl, _, _, m1', he⟩
  exact ⟨⟨_, rfl⟩, grD D 2 w w', hS.grow he.size hb.size 2, (a1.keep hS h4 (by decide) he).mono (fun b q => Or.inl q), (a2.keep hS h4 (by decide) he).mono (fun b q => Or.inl q), m1', (m2.keep hS (by decide) he).mono (fun b q => Or.inl q), hb.trans (sep_bel hS he hb.size), a1.sd, s2⟩
theorem D4.step2 (h : D4 w0 f f2 P P2 B C (k + 1) (k + 1) (k + 1) k w) (h4 : 4 ≤ w0.heap.size) (hv : OpAt w Cb o (f2 k)) : Calls Tryz.prog 19 #[.pointer (some ⟨C, 0, none⟩), .agg (f2 k).arr] w (RtP w0 f f2 P P2 B C (k + 1) (k + 1) (k + 1) (k + 1)) := by
  obtain ⟨D, hS, a1, a2, m1, m2, hb, s1, s2⟩ := h
  refine (m2.step s2 (f2 k) hv).mono ?_
  rintro e w' ⟨refs, vals, rfl, _, _, m2', he⟩
  exact ⟨⟨_, rfl⟩, grD D 3 w w', hS.grow he.size hb.size 3, (a1.keep hS h4 (by decide) he).mono (fun b q => Or.inl q), (a2.keep hS h4 (by decide) he).mono (fun b q => Or.inl q), (m1.keep hS (by decide) he).mono (fun b q => Or.inl q), m2', hb.trans (sep_bel hS he hb.size), s1, a2.sd⟩
theorem D4.mdiff (h : D4 w0 f f2 P P2 B C j1 j2 j3 j4 w) : Calls Tryz.prog 32 #[.pointer (some ⟨B, 0, none⟩), .pointer (some ⟨C, 0, none⟩)] w fun e w' => ∃ v, e = .returned v ∧ w'.ownsRow w.heap.size 88 5 v (dfL (trM f M00 j3) (trM f2 M00 j4) 320).length (dfCs (dfL (trM f M00 j3) (trM f2 M00 j4) 320)) ∧ Below w.heap.size w w' := by
  obtain ⟨D, hS, a1, a2, ⟨wb, m1, _⟩, ⟨wc, m2, _⟩, hb, s1, s2⟩ := h
  exact diff_m m1 m2 s1.num s2.num
/-- What the arenas' comparisons answer. -/
theorem D4.arenas (h : D4 w0 f f2 P P2 B C j1 j2 j3 j4 w) : ∃ A A2, w.cell? ⟨P, 0, none⟩ = some (.pointer (some ⟨A, 0, none⟩)) ∧ w.cell? ⟨P2, 0, none⟩ = some (.pointer (some ⟨A2, 0, none⟩)) ∧ P < w.heap.size ∧ P2 < w.heap.size ∧
    (∀ lim : Nat, Calls Tryz.prog 34 #[.pointer (some ⟨A, 0, none⟩), .pointer (some ⟨A2, 0, none⟩), .int .i64 (lim : Int)] w (DiP (trM f M00 j1) (trM f2 M00 j2) lim w)) ∧
    Calls Tryz.prog 31 #[.pointer (some ⟨A, 0, none⟩), .pointer (some ⟨A2, 0, none⟩)] w (fun e w' => ∃ q, e = .returned (.bool q) ∧ (q = true ↔ dfL (trM f M00 j1) (trM f2 M00 j2) 320 = []) ∧ Below w.heap.size w w') := by
  obtain ⟨D, hS, ⟨A, rb, sb, s, tl, ws, L, n, hx, ho, hd⟩, ⟨A2, rb2, sb2, s2, tl2, ws2, L2, n2, hx2, ho2, hd2⟩, m1, m2, hb, s1, s2⟩ := h
  rw [← ho, ← ho2]
  have q1 : Sd s tl ws L n := ⟨hx.iv, hx.ix, hx.wr⟩
  have q2 : Sd _ tl2 ws2 L2 n2 := ⟨hx2.iv, hx2.ix, hx2.wr⟩
  refine ⟨A, A2, hx.pc, hx2.pc, hx.plt, hx2.plt, fun lim => arenaDiff_x hx.ms hx2.ms q1 q2 hx.gl.kd hx.gl.kl lim, (Equal_any hx.ms hx2.ms hx.iv hx2.iv hx.wr hx2.wr).mono ?_⟩
  rintro e w' ⟨q, rfl, hq, hb'⟩
  exact ⟨q, rfl, hq.trans (dfL_ob q1 q2).symm, hb'⟩
theorem D4.cells (h : D4 w0 f f2 P P2 B C j1 j2 j3 j4 w) {A A2 : Nat} (c1 : w.cell? ⟨P, 0, none⟩ = some (.pointer (some ⟨A, 0, none⟩))) (c2 : w.cell? ⟨P2, 0, none⟩ = some (.pointer (some ⟨A2, 0, none⟩))) (k : Below w.heap.size w w') : (w'.cell? ⟨P, 0, none⟩ = some (.pointer (some ⟨A, 0, none⟩)) ∧ w'.cell? ⟨P2, 0, none⟩ = some (.pointer (some ⟨A2, 0, none⟩))) ∧
    (∀ lim : Nat, Calls Tryz.prog 34 #[.pointer (some ⟨A, 0, none⟩), .pointer (some ⟨A2, 0, none⟩), .int .i64 (lim : Int)] w' (DiP (trM f M00 j1) (trM f2 M00 j2) lim w')) ∧
    Calls Tryz.prog 31 #[.pointer (some ⟨A, 0, none⟩), .pointer (some ⟨A2, 0, none⟩)] w' (fun e w2 => ∃ q, e = .returned (.bool q) ∧ (q = true ↔ dfL (trM f M00 j1) (trM f2 M00 j2) 320 = []) ∧ Below w'.heap.size w' w2) := by
  obtain ⟨A', A2', e1, e2, l1, l2, hd, he⟩ := (h.below k).arenas
  have x1 := (k.cell (p := ⟨P, 0, none⟩) (cell_lt c1)).trans c1
  have x2 := (k.cell (p := ⟨P2, 0, none⟩) (cell_lt c2)).trans c2
  rw [x1] at e1
  rw [x2] at e2
  injection e1 with e1
  injection e1 with e1
  injection e1 with e1
  injection e1 with e1 _ _
  injection e2 with e2
  injection e2 with e2
  injection e2 with e2
  injection e2 with e2 _ _
  subst e1 e2
  exact ⟨⟨x1, x2⟩, hd, he⟩
/-- At the start. -/
theorem D4.start {A A2 : Nat} {rb sb rb2 sb2 : Nat → Nat} {s s2 : Av} {wb wc : Nat → Nat} (hb : Below w0.heap.size w0 w) (hx : Hx P A rb sb s tl0 (fun _ _ _ => 0) (fun _ => []) 0 w) (hx2 : Hx P2 A2 rb2 sb2 s2 tl0 (fun _ _ _ => 0) (fun _ => []) 0 w) (ho : ob s (fun _ _ _ => 0) = M00) (ho2 : ob s2 (fun _ _ _ => 0) = M00) (hm : Md w B wb M00) (hm2 : Md w C wc M00)
    (D : Nat → Nat → Prop) (hS : Sep w0.heap.size D w) (d0 : ∀ b, Tz A rb sb b ∨ b = P → D 0 b) (d1 : ∀ b, Tz A2 rb2 sb2 b ∨ b = P2 → D 1 b) (d2 : D 2 B) (d3 : D 3 C) : D4 w0 f f2 P P2 B C 0 0 0 0 w := by
  have nw : ∀ i, (M00 i).wds = [] := fun i => by unfold M00; split <;> rfl
  have a1 : ArL D 0 P M00 w := ⟨A, rb, sb, s, _, _, _, _, hx, ho, d0⟩
  have a2 : ArL D 1 P2 M00 w := ⟨A2, rb2, sb2, s2, _, _, _, _, hx2, ho2, d1⟩
  exact ⟨D, hS, a1, a2, ⟨wb, hm, fun b q => by rcases q with rfl | ⟨i, _, hi, _⟩; exact d2; exact absurd (nw i) hi⟩, ⟨wc, hm2, fun b q => by rcases q with rfl | ⟨i, _, hi, _⟩; exact d3; exact absurd (nw i) hi⟩, hb, a1.sd, a1.sd⟩
end
end Go.Proofs.Qxb6500847aGreatDoor.Os
