/-
  The engine in memory: the arena, the memo.
-/
import Derived.Test.Qxb6500848aGreatDoorHas
import Derived.Test.Qxb6500848aGreatDoorLoop
import Derived.Test.Qxb6500848aGreatDoorUnions
import Derived.DeepKeys4
import Derived.MapViews
namespace Go.Proofs.Qxb6500848aGreatDoor
open Go.RowKit Pl Go.Maps
set_option maxRecDepth 100000

theorem laidOut : laidOutB Tryz.prog = true := by kernel_rfl
theorem row_step : (159 : TypeId) < Tryz.prog.types.size := of_decide_eq_true (by kernel_rfl)
theorem wide_step : (match Tryz.prog.underlying 159 with | some (.array _ _) | some (.struct _) => true | _ => false) = true := by rw [Tryz.underlying159]
theorem law_step : Keyed Tryz.prog 159 := Keyed.of_law (deep_law_laid laidOut (m := 2) (by omega) row_step (by kernel_rfl) wide_step)
theorem cells_step : Tryz.prog.cellsOf 159 = 2 := by kernel_rfl
theorem formed_step {c0 c1 : Value} : (Value.agg #[c0, c1]).formed Tryz.prog 159 = true := by simp [Value.formed, Tryz.underlying159, cells_step]
theorem deep_step : Tryz.prog.keyType 159 = true := by kernel_rfl
theorem cells_id : Tryz.prog.cellsOf 28 = 1 := by kernel_rfl
theorem cells_int : Tryz.prog.cellsOf 3 = 1 := by kernel_rfl

/-- A key of a state and a character. -/
theorem key_step (x c : Int) (hx : (Lit.int .i64 x).wf = true) (hc : (Lit.int .i64 c).wf = true) : ∃ l, keyOf Tryz.prog 159 (.agg #[.int .i64 x, .int .i64 c]) = some l := by
  have e : Tryz.prog.keyLits (Tryz.prog.types.size + 1) 159 [.int .i64 x, .int .i64 c] = some [.int .i64 x, .int .i64 c] := by
    obtain ⟨n, hn⟩ : ∃ n, Tryz.prog.types.size = n + 1 := ⟨_, (Nat.succ_pred_eq_of_pos (Nat.lt_of_le_of_lt (Nat.zero_le _) row_step)).symm⟩
    rw [hn]
    simp [Program.keyLits, Tryz.underlying159, cells_step, Tryz.underlying28, Tryz.underlying3, cells_id, cells_int, hx, hc]
  unfold keyOf
  rw [Tryz.underlying159]
  simp only [deep_step, formed_step, Bool.and_self, if_true]
  have ec : (Value.agg #[.int .i64 x, .int .i64 c]).cells.toList = [.int .i64 x, .int .i64 c] := rfl
  rw [ec, e]
  exact ⟨_, rfl⟩

/-- The engine's block eb, its memo mb. -/
structure En (X : Nat → Prop) (w : World) (eb mb ab nb : Nat) (lim : Int) (A : List Nd) : Prop where
  st : St X w ab nb lim A
  eng : ∃ (a : Bool × Value) (b c : Value), w.heap[eb]? = some (.cells #[.pointer (some ⟨ab, 0, none⟩), .bool a.1, .map (some mb), a.2, b, c] 118 (0, 0))
  xe : ¬ X eb
  xm : X mb
  ma : mb ≠ ab
  mn : mb ≠ nb
  memo : ∃ get ks, Mp 159 w mb get ks ∧ ∀ k ∈ ks, ∃ x c z, keyOf Tryz.prog 159 (.agg #[.int .i64 x, .int .i64 c]) = some k ∧ Valid A x ∧ (0 ≤ c ∧ c ≤ 196607) ∧ get k = .int .i64 z ∧ Der A c x z

structure GrE (X : Nat → Prop) (w : World) (eb mb ab nb : Nat) (lim : Int) (A : List Nd) (X' : Nat → Prop) (w' : World) (nb' : Nat) (A' : List Nd) : Prop where
  en : En X' w' eb mb ab nb' lim A'
  le : Le A A'
  ext : Ext w.heap.size (fun b => b = ab ∨ b = nb ∨ b = mb) w w'
  nbs : nb' = nb ∨ w.heap.size ≤ nb'
  sub : ∀ b, b < w.heap.size → (X' b ↔ X b)

theorem GrE.refl {X : Nat → Prop} {w : World} {eb mb ab nb : Nat} {lim : Int} {A : List Nd} (h : En X w eb mb ab nb lim A) : GrE X w eb mb ab nb lim A X w nb A :=
  ⟨h, Le.refl _, Ext.refl _ _ _, Or.inl rfl, fun _ _ => Iff.rfl⟩

theorem En.lm {X : Nat → Prop} {w : World} {eb mb ab nb : Nat} {lim : Int} {A : List Nd} (h : En X w eb mb ab nb lim A) : mb < w.heap.size := h.st.xlt mb h.xm
theorem En.lb {X : Nat → Prop} {w : World} {eb mb ab nb : Nat} {lim : Int} {A : List Nd} (h : En X w eb mb ab nb lim A) : eb < w.heap.size := by
  obtain ⟨a, b, c, e⟩ := h.eng
  exact heap_lt e

theorem En.out {X : Nat → Prop} {w : World} {eb mb ab nb : Nat} {lim : Int} {A : List Nd} (h : En X w eb mb ab nb lim A) {b : Nat} (hb : ¬ X b) : ¬ (b = ab ∨ b = nb ∨ b = mb) := fun e => hb (by
  rcases e with e | e | e
  · rw [e]; exact h.st.ar.xa
  · rw [e]; exact h.st.ar.xn
  · rw [e]; exact h.xm)

/-- A constructor's growth, seen by the engine. -/
theorem En.grow {X X' : Nat → Prop} {w w' : World} {eb mb ab nb nb' : Nat} {lim : Int} {A A' : List Nd} (h : En X w eb mb ab nb lim A) (g : Grow X w ab nb lim A X' w' nb' A') : GrE X w eb mb ab nb lim A X' w' nb' A' := by
  have lm := h.lm
  have lb := h.lb
  have hin : ∀ b, (b = ab ∨ b = nb) → X b := fun b e => by
    rcases e with e | e
    · rw [e]; exact h.st.ar.xa
    · rw [e]; exact h.st.ar.xn
  refine ⟨⟨g.st, ?_, fun x => h.xe ((g.sub eb lb).1 x), (g.sub mb lm).2 h.xm, h.ma, ?_, ?_⟩, g.le, g.ext.mono (Nat.le_refl _) (fun i _ e => e.imp id Or.inl), g.nbs, g.sub⟩
  · obtain ⟨a, b, c, e⟩ := h.eng
    exact ⟨a, b, c, (g.ext.block eb lb (fun e => h.xe (hin eb e))).trans e⟩
  · rcases g.nbs with e | e
    · rw [e]; exact h.mn
    · omega
  · obtain ⟨get, ks, hM, hk⟩ := h.memo
    refine ⟨get, ks, hM.ext g.ext lm (fun e => by rcases e with e | e; · exact h.ma e
                                                  · exact h.mn e), fun k hkk => ?_⟩
    obtain ⟨x, c, z, h1, h2, h3, h4, h5⟩ := hk k hkk
    exact ⟨x, c, z, h1, g.le.valid h2, h3, h4, h5.le h.st.ar.wf g.st.ar.wf g.le h2⟩

theorem En.below {X : Nat → Prop} {B : Nat} {w w' : World} {eb mb ab nb : Nat} {lim : Int} {A : List Nd} (h : En X w eb mb ab nb lim A) (k : Below B w w') (hB : w.heap.size ≤ B) : En X w' eb mb ab nb lim A :=
  (h.grow ((Grow.refl h.st).below k hB)).en

theorem GrE.trans {X X' X'' : Nat → Prop} {w w1 w2 : World} {eb mb ab nb nb' nb'' : Nat} {lim : Int} {A A' A'' : List Nd} (h : GrE X w eb mb ab nb lim A X' w1 nb' A') (k : GrE X' w1 eb mb ab nb' lim A' X'' w2 nb'' A'') : GrE X w eb mb ab nb lim A X'' w2 nb'' A'' := by
  refine ⟨k.en, h.le.trans k.le, h.ext.trans k.ext h.ext.size (fun i hi e => by
    rcases e with e | e | e
    · exact Or.inl e
    · rcases h.nbs with e2 | e2
      · exact Or.inr (Or.inl (e.trans e2))
      · omega
    · exact Or.inr (Or.inr e)), ?_, fun b hb => (k.sub b (Nat.lt_of_lt_of_le hb h.ext.size)).trans (h.sub b hb)⟩
  rcases k.nbs with e | e
  · rcases h.nbs with e2 | e2
    · exact Or.inl (e.trans e2)
    · exact Or.inr (by omega)
  · exact Or.inr (Nat.le_trans h.ext.size e)

theorem GrE.below {X X' : Nat → Prop} {B : Nat} {w w1 w2 : World} {eb mb ab nb nb' : Nat} {lim : Int} {A A' : List Nd} (h : GrE X w eb mb ab nb lim A X' w1 nb' A') (k : Below B w1 w2) (hB : w1.heap.size ≤ B) : GrE X w eb mb ab nb lim A X' w2 nb' A' :=
  ⟨h.en.below k hB, h.le, h.ext.andThen k (Nat.le_trans h.ext.size hB), h.nbs, h.sub⟩

theorem GrE.after {X X' : Nat → Prop} {B : Nat} {w w1 w2 : World} {eb mb ab nb nb' : Nat} {lim : Int} {A A' : List Nd} (k : Below B w w1) (hB : w.heap.size ≤ B) (h : GrE X w1 eb mb ab nb lim A X' w2 nb' A') : GrE X w eb mb ab nb lim A X' w2 nb' A' :=
  ⟨h.en, h.le, (Ext.of_below k _).mono hB (fun _ _ x => x) |>.trans h.ext k.size (fun _ _ x => x), h.nbs.imp id (fun e => Nat.le_trans k.size e), fun b hb => h.sub b (Nat.lt_of_lt_of_le hb k.size)⟩

theorem GrE.seq {α : Type} {enc : α → Value} {X X' : Nat → Prop} {w w' : World} {eb mb ab nb nb' : Nat} {lim : Int} {A A' : List Nd} (h : GrE X w eb mb ab nb lim A X' w' nb' A') (h0 : En X w eb mb ab nb lim A) {v : Value} {l : List α} (s : Seq enc X w v l) : Seq enc X' w' v l := by
  obtain ⟨ad, cap, rfl, h1, h2, h3⟩ := s
  refine ⟨ad, cap, rfl, h1, h2, fun hl => ?_⟩
  obtain ⟨g, o, rfl, hx, hc⟩ := h3 hl
  have hlt : g < w.heap.size := cell_lt (hc 0 (List.length_pos_iff.2 hl))
  refine ⟨g, o, rfl, fun x => hx ((h.sub g hlt).1 x), fun j hj => ?_⟩
  rw [h.ext.cell (p := ⟨g, o + j, none⟩) hlt (h0.out hx)]
  exact hc j hj

/-- What the engine hands back for state x and character c. -/
def DPost (c x : Int) (X : Nat → Prop) (w : World) (eb mb ab nb : Nat) (lim : Int) (A : List Nd) (e : Ending) (w' : World) : Prop :=
  ∃ X' nb' A' z ev, GrE X w eb mb ab nb lim A X' w' nb' A' ∧ e = .returned (.tuple #[.int .i64 z, ev]) ∧ ((ev = .nilIface ∧ Der A' c x z) ∨ ((∃ t v, ev = .iface t v) ∧ z = 0 ∧ Fl lim A' w' ev))

/-- What a step of derivCompound rests on. -/
structure CS (bx : Nat) (x : Int) (nd : Nd) (sv kv : Value) (X : Nat → Prop) (w : World) (eb mb ab nb : Nat) (lim : Int) (A : List Nd) : Prop where
  en : En X w eb mb ab nb lim A
  box : w.heap[bx]? = some (.cells #[.int .i64 nd.kind, sv, kv, .int .i64 nd.lo, .int .i64 nd.hi] 110 (0, 0))
  bxn : ¬ X bx
  kids : Ints X w kv nd.kids
  hx : Valid A x
  node : nodeAt A x = nd

theorem CS.step {bx : Nat} {x : Int} {nd : Nd} {sv kv : Value} {X X' : Nat → Prop} {w w' : World} {eb mb ab nb nb' : Nat} {lim : Int} {A A' : List Nd} (h : CS bx x nd sv kv X w eb mb ab nb lim A) (g : GrE X w eb mb ab nb lim A X' w' nb' A') : CS bx x nd sv kv X' w' eb mb ab nb' lim A' :=
  ⟨g.en, (g.ext.block bx (heap_lt h.box) (h.en.out h.bxn)).trans h.box, fun e => h.bxn ((g.sub bx (heap_lt h.box)).1 e), g.seq h.en h.kids, g.le.valid h.hx, (g.le.node h.hx).trans h.node⟩

theorem CS.below {bx : Nat} {x : Int} {nd : Nd} {sv kv : Value} {X : Nat → Prop} {B : Nat} {w w' : World} {eb mb ab nb : Nat} {lim : Int} {A : List Nd} (h : CS bx x nd sv kv X w eb mb ab nb lim A) (k : Below B w w') (hB : w.heap.size ≤ B) : CS bx x nd sv kv X w' eb mb ab nb lim A :=
  h.step ((GrE.refl h.en).below k hB)

theorem CS.facts {bx : Nat} {x : Int} {nd : Nd} {sv kv : Value} {X : Nat → Prop} {w : World} {eb mb ab nb : Nat} {lim : Int} {A : List Nd} (h : CS bx x nd sv kv X w eb mb ab nb lim A) :
    w.cell? ⟨eb, 0, none⟩ = some (.pointer (some ⟨ab, 0, none⟩)) ∧ w.cell? ⟨bx, 0, none⟩ = some (.int .i64 nd.kind) ∧ w.cell? ⟨bx, 1, none⟩ = some sv ∧ w.cell? ⟨bx, 2, none⟩ = some kv ∧ w.cell? ⟨bx, 3, none⟩ = some (.int .i64 nd.lo) ∧ w.cell? ⟨bx, 4, none⟩ = some (.int .i64 nd.hi) := by
  obtain ⟨a, b, c, e⟩ := h.en.eng
  exact ⟨box_cell e 0, box_cell h.box 0, box_cell h.box 1, box_cell h.box 2, box_cell h.box 3, box_cell h.box 4⟩

theorem CS.kid {bx : Nat} {x : Int} {nd : Nd} {sv : Value} {g o cap n : Nat} {X : Nat → Prop} {w : World} {eb mb ab nb : Nat} {lim : Int} {A : List Nd} (h : CS bx x nd sv (.slice (some ⟨g, o, none⟩) n cap) X w eb mb ab nb lim A) {j : Nat} (hj : j < nd.kids.length) :
    w.cell? ⟨g, o + j, none⟩ = some (.int .i64 nd.kids[j]) ∧ Valid A nd.kids[j] ∧ nd.kids[j].toNat < x.toNat := by
  obtain ⟨ad, cap', e, _, _, h3⟩ := h.kids
  obtain ⟨g', o', e2, _, hc⟩ := h3 (fun e => by rw [e] at hj; cases hj)
  subst e2
  cases e
  refine ⟨hc j hj, h.en.st.ar.wf.kidValid h.hx ?_⟩
  rw [h.node]
  exact List.getElem_mem hj
end Go.Proofs.Qxb6500848aGreatDoor
