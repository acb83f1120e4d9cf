/-
  Rows of one's own beside the engine; eachThen, asSet.
-/
import Derived.Test.Qxb6500848aGreatDoorPlW
import Derived.Test.Qxb6500848aGreatDoorFlat
import Derived.Test.Qxb6500848aGreatDoorMakers
namespace Go.Proofs.Qxb6500848aGreatDoor
open Go.RowKit Pl Go.Maps Go.Sort Go.Shelf Go.Lib
set_option maxRecDepth 100000

/-- v is a row of one's own that holds l; its block lies in X. -/
structure RX (B : Nat) (X : Nat → Prop) (ab nb mb : Nat) (w : World) (v : Value) (l : List Int) : Prop where
  own : w.ownsRow B 28 1 v l.length (l.map encI)
  blk : ∀ g, v.ownBlock = some g → X g ∧ g ≠ ab ∧ g ≠ nb ∧ g ≠ mb

theorem RX.nil (B : Nat) (X : Nat → Prop) (ab nb mb : Nat) (w : World) : RX B X ab nb mb w (.slice none 0 0) [] := ⟨⟨by simp, Or.inl ⟨rfl, rfl⟩⟩, fun g h => by cases h⟩

theorem RX.grow {B : Nat} {X X' : Nat → Prop} {w w' : World} {eb mb ab nb nb' : Nat} {lim : Int} {A A' : List Nd} {v : Value} {l : List Int} (h : RX B X ab nb mb w v l) (hB : mb + 3 < B) (g : GrX X w eb mb ab nb lim A X' w' nb' A') : RX B X' ab nb' mb w' v l := by
  refine ⟨ownsRow_ext h.own g.ext (fun q hq e => ?_), fun q hq => ?_⟩
  · have h1 := h.blk q hq
    have h2 := (ownsRow_block h.own hq).1
    rcases e with e | e | e
    · exact h1.2.1 e
    · exact h1.2.2.1 e
    · have := e.2; omega
  · have h1 := h.blk q hq
    have h2 := (ownsRow_block h.own hq).2
    refine ⟨(g.sub q h2).2 h1.1, h1.2.1, ?_, h1.2.2.2⟩
    rcases g.nbs with e | e
    · rw [e]; exact h1.2.2.1
    · omega
theorem RX.below {B : Nat} {X : Nat → Prop} {w w' : World} {mb ab nb : Nat} {v : Value} {l : List Int} (h : RX B X ab nb mb w v l) (k : Below w.heap.size w w') : RX B X ab nb mb w' v l :=
  ⟨ownsRow_ext h.own (Ext.of_below k (fun _ => False)) (fun _ _ => id), h.blk⟩

/-- A row of X has grown, and X too. -/
theorem En.grownMore {X Y : Nat → Prop} {w w5 : World} {eb mb ab nb : Nat} {lim : Int} {A : List Nd} {row : Option Nat} (h : En X w eb mb ab nb lim A) (hg : w.grownBy w5 row) (hrow : ∀ g, row = some g → X g ∧ g ≠ ab ∧ g ≠ nb ∧ g ≠ mb) (hXY : ∀ b, X b → Y b) (hY : ∀ b, b < w.heap.size → Y b → X b) (hl : ∀ z, Y z → z < w5.heap.size) : En Y w5 eb mb ab nb lim A := by
  have e : Ext w.heap.size (fun b => row = some b) w w5 := ⟨hg.os, hg.tape, hg.output, hg.size, fun k hk hn => hg.block k hk (fun e => hn e.symm)⟩
  refine ⟨⟨(h.st.ar.more hXY hY).keep e (Nat.le_refl _) (fun b _ y => ⟨hXY b (hrow b y).1, (hrow b y).2.1, (hrow b y).2.2.1⟩), hl⟩, ?_, fun x => h.xe (hY eb h.lb x), hXY _ h.xm, h.ma, h.mn, ?_⟩
  · obtain ⟨a, b, c, ee⟩ := h.eng
    exact ⟨a, b, c, (e.block eb h.lb (fun q => h.xe (hrow eb q).1)).trans ee⟩
  · obtain ⟨get, ks, hM, hk⟩ := h.memo
    exact ⟨get, ks, hM.ext e h.lm (fun q => (hrow mb q).2.2.2 rfl), hk⟩

/-- The row has grown: it may have moved to a new block. -/
theorem GrX.pushed {X X' : Nat → Prop} {w w1 w2 w5 : World} {eb mb ab nb nb' : Nat} {lim : Int} {A A' : List Nd} {v v' : Value} {l m : List Int} (h : GrX X w eb mb ab nb lim A X' w1 nb' A') (hr : RX w.heap.size X' ab nb' mb w1 v l) (hb : Below w1.heap.size w1 w2) (hg : w2.grownBy w5 v.ownBlock) (ho : v'.ownBlock = v.ownBlock ∨ v'.ownBlock = some w2.heap.size)
    (hown : w5.ownsRow w.heap.size 28 1 v' (l ++ m).length ((l ++ m).map encI)) : GrX X w eb mb ab nb lim A (fun b => X' b ∨ v'.ownBlock = some b) w5 nb' A' ∧ RX w.heap.size (fun b => X' b ∨ v'.ownBlock = some b) ab nb' mb w5 v' (l ++ m) ∧ (∀ b, b < w1.heap.size → ((X' b ∨ v'.ownBlock = some b) ↔ X' b)) ∧ Ext w1.heap.size X' w1 w5 := by
  have h2 := h.below hb
  have s2 := hb.size
  have s0 := h.ext.size
  have la := h.en.st.ar.la
  have ln := h.en.st.xlt nb' h.en.st.ar.xn
  have lm := h.en.lm
  have hY : ∀ b, b < w2.heap.size → (X' b ∨ v'.ownBlock = some b) → X' b := fun b hb' q => q.elim id (fun e => by
    rcases ho with o | o
    · exact (hr.blk b (o.symm.trans e)).1
    · have := Option.some.inj (o.symm.trans e); omega)
  have hl : ∀ z, (X' z ∨ v'.ownBlock = some z) → z < w5.heap.size := fun z q => q.elim (fun e => Nat.lt_of_lt_of_le (h2.en.st.xlt z e) hg.size) (fun e => (ownsRow_block hown e).2)
  have hext : Ext w2.heap.size (fun b => X' b ∨ v'.ownBlock = some b) w2 w5 := ⟨hg.os, hg.tape, hg.output, hg.size, fun k hk hn => hg.block k hk (fun e => hn (Or.inl (hr.blk k e.symm).1))⟩
  refine ⟨⟨h2.en.grownMore hg (fun g e => hr.blk g e) (fun b q => Or.inl q) hY hl, (h2.ax.more hY).keep (fun x => h2.en.xe (hY _ h2.en.lb x)) hext (fun _ _ => Iff.rfl) (Le.refl _) h2.en.st.ar.wf h2.en.st.ar.wf, h.le, h2.ext.trans ⟨hg.os, hg.tape, hg.output, hg.size, fun k hk hn => hg.block k hk (fun e => hn e.symm)⟩ h2.ext.size (Y := fun k => v.ownBlock = some k) (fun i hi e => by have := (ownsRow_block hr.own e).1; omega), h.nbs, fun b hb' => ⟨fun q => (h.sub b hb').1 (hY b (by omega) q), fun q => Or.inl ((h.sub b hb').2 q)⟩⟩, ⟨hown, fun g e => ?_⟩, fun b hb' => ⟨fun q => hY b (by omega) q, Or.inl⟩, (Ext.of_below hb _).trans ⟨hg.os, hg.tape, hg.output, hg.size, fun k hk hn => hg.block k hk (fun e => hn e.symm)⟩ hb.size (Y := fun k => v.ownBlock = some k) (fun i hi e => (hr.blk i e).1)⟩
  refine ⟨Or.inr e, ?_⟩
  rcases ho with o | o
  · exact (hr.blk g (o.symm.trans e)).2
  · have := Option.some.inj (o.symm.trans e)
    omega

/-- The row is given away. -/
theorem GrX.given {X X' : Nat → Prop} {w w1 : World} {eb mb ab nb nb' : Nat} {lim : Int} {A A' : List Nd} {v : Value} {l : List Int} (h : GrX X w eb mb ab nb lim A X' w1 nb' A') (hr : RX w.heap.size X' ab nb' mb w1 v l) (hl : l.length ≤ maxLen) : ∃ X5, GrX X w eb mb ab nb lim A X5 w1 nb' A' ∧ Ints X5 w1 v l := by
  rcases hr.own.2 with ⟨rfl, h0⟩ | ⟨g, cap, cur, rfl, hb, hh, r1, r2, r3, r4⟩
  · have : l = [] := List.length_eq_zero_iff.1 h0
    subst this
    exact ⟨X', h, Seq.nil _ _⟩
  · obtain ⟨q1, q2, q3, q4⟩ := hr.blk g rfl
    refine ⟨_, h.dropped hb q2 q3 q4, ⟨_, cap, rfl, r1, r2, fun _ => ⟨g, 0, rfl, fun e => e.2 rfl, fun j hj => ?_⟩⟩⟩
    have e : (cur.toList.take (l.length * 1))[j]? = (l.map encI)[j]? := by rw [r4]
    rw [List.getElem?_take_of_lt (by omega)] at e
    simp only [World.cell?, hh]
    simp [hj] at e
    simpa using e

/-! ### asSet -/
def AsPost (v : Value) (l : List Int) (w : World) (e : Ending) (w' : World) : Prop :=
  ∃ v', e = .returned v' ∧ w.grownBy w' v.ownBlock ∧ ((v.ownBlock = none ∧ setOf l = [] ∧ v' = .slice none 0 0) ∨ ∃ g cap, v.ownBlock = some g ∧ v' = .slice (some ⟨g, 0, none⟩) (setOf l).length cap ∧ (setOf l).length ≤ cap ∧ cap ≤ maxLen ∧ ∀ j (h : j < (setOf l).length), w'.cell? ⟨g, 0 + j, none⟩ = some (encI (setOf l)[j]))

theorem grownBy_refl (w : World) : w.grownBy w none := ⟨rfl, rfl, rfl, Nat.le_refl _, fun _ _ _ => rfl⟩
theorem grownBy_trans {w w1 w2 : World} {g : Nat} (h : w.grownBy w1 (some g)) (k : w1.grownBy w2 (some g)) : w.grownBy w2 (some g) := ⟨k.os.trans h.os, k.tape.trans h.tape, k.output.trans h.output, Nat.le_trans h.size k.size, fun b hb hn => (k.block b (Nat.lt_of_lt_of_le hb h.size) hn).trans (h.block b hb hn)⟩

set_option maxHeartbeats 2000000 in
theorem asSet_walk {w : World} {B : Nat} {v : Value} {l : List Int} (h : w.ownsRow B 28 1 v l.length (l.map encI)) (hn : l.length ≤ 100000000000) :
    Calls Tryz.prog 85 #[v] w (AsPost v l w) := by
  rcases h.2 with ⟨rfl, h0⟩ | ⟨g, cap, cur, rfl, hb, hh, r1, r2, r3, r4⟩
  · have : l = [] := List.length_eq_zero_iff.1 h0
    subst this
    clear h h0
    go_enter Tryz.func85, Tryz.ntmps85
    go_wp2_with (first
      | (go_at_call 118; refine (AnyM.slices_Sort_int_none Tryz.lSort none 0 _).mono ?_; rintro e w1 ⟨rfl, rfl⟩)
      | (go_at_call 89; refine (AnyG.slices_Compact_int_empty Tryz.lCompact none 0 _).mono ?_; rintro e w2 ⟨rfl, rfl⟩))
    go_ret
    exact ⟨_, rfl, grownBy_refl _, Or.inl ⟨rfl, by simp [Pl.setOf, srt, Lib.compact, Lib.compactUpTo], rfl⟩⟩
  · have hgl : g < w.heap.size := heap_lt hh
    have Hh := hideIt hh
    have hcs : l.length ≤ cur.size := by omega
    have H0 := hideIt (holds_of_blockI (ss := l) hh (by simpa using r4))
    have hsl := srt_len l
    have Hsort := hideIt (AnyM.slices_Sort_int Tryz.lSort g 0 cap l w H0.out hgl (by omega))
    clear hh r4 h
    go_enter Tryz.func85, Tryz.ntmps85
    go_wp2_with (first
      | (go_at_call 118; refine Hsort.out.mono ?_; rintro e w1 ⟨rfl, hw1⟩; have s1 := sorted_row Hh.out hcs hw1; clear hw1; have Hcomp := AnyG.slices_Compact_int Tryz.lCompact g 0 cap (srt l) w1 s1.1 (by omega) (by omega); rw [hsl] at Hcomp; have HC := hideIt Hcomp; have S1 := hideIt s1; clear Hcomp s1)
      | (go_at_call 89; refine HC.out.mono ?_; rintro e w2 ⟨rfl, hw2⟩))
    go_ret
    rw [← hsl] at hw2
    have s2 := compact_row S1.out.1 hw2
    have hcl := compact_len (srt l)
    exact ⟨_, rfl, grownBy_trans S1.out.2 s2.2, Or.inr ⟨g, cap, rfl, rfl, by show (Lib.compact (srt l)).length ≤ cap; omega, r2, s2.1⟩⟩
end Go.Proofs.Qxb6500848aGreatDoor
