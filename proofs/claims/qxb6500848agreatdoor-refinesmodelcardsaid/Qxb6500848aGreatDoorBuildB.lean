/-
  The registers grow.
-/
import Derived.Test.Qxb6500848aGreatDoorBuildA
import Derived.ArgAppend
namespace Go.Proofs.Qxb6500848aGreatDoor
open Go.RowKit Pl Go.Maps
set_option maxRecDepth 100000

/-- A store into a block of X that none of the rest lies in. -/
theorem En.setCell {X : Nat → Prop} {w : World} {eb mb ab nb : Nat} {lim : Int} {A : List Nd} (h : En X w eb mb ab nb lim A) {w' : World} {D : Nat} (e : Ext w.heap.size (fun b => b = D) w w') (hD : X D) (ha : D ≠ ab) (hn : D ≠ nb) (hm : D ≠ mb) : En X w' eb mb ab nb lim A := by
  have hY : ∀ b, b < w.heap.size → b = D → X b := fun b _ e => by rw [e]; exact hD
  refine ⟨⟨h.st.ar.keep e (Nat.le_refl _) (fun b hb y => ⟨hY b hb y, fun e => ha (y.symm.trans e), fun e => hn (y.symm.trans e)⟩), fun z hz => Nat.lt_of_lt_of_le (h.st.xlt z hz) e.size⟩, ?_, h.xe, h.xm, h.ma, h.mn, ?_⟩
  · obtain ⟨a, b, c, ee⟩ := h.eng
    exact ⟨a, b, c, (e.block eb h.lb (fun q => h.xe (by rw [show eb = D from q]; exact hD))).trans ee⟩
  · obtain ⟨get, ks, hM, hk⟩ := h.memo
    exact ⟨get, ks, hM.ext e h.lm (fun q => hm q.symm), hk⟩
theorem En.more {X Y : Nat → Prop} {w : World} {eb mb ab nb : Nat} {lim : Int} {A : List Nd} (h : En X w eb mb ab nb lim A) {B : Nat} {w' : World} (hb : Below B w w') (hB : w.heap.size ≤ B) (hX : ∀ b, X b → Y b) (hY : ∀ b, b < w.heap.size → Y b → X b) (hl : ∀ z, Y z → z < w'.heap.size) : En Y w' eb mb ab nb lim A := by
  have h1 := h.below hb hB
  have lb := h.lb
  exact ⟨⟨(h.st.ar.more hX hY).below hb hB, hl⟩, h1.eng, fun e => h.xe (hY eb lb e), hX _ h.xm, h.ma, h.mn, h1.memo⟩

/-- The store of the registers' slice. -/
theorem mc_store {X : Nat → Prop} {w : World} {kb eb mb ab nb : Nat} {lim : Int} {A : List Nd} {regs' : List Int} (hE : En X w eb mb ab nb lim A) (xk : X kb) (ka : kb ≠ ab) (kn : kb ≠ nb) (km : kb ≠ mb) (hk : ∃ rv0, w.heap[kb]? = some (.cells #[.pointer (some ⟨ab, 0, none⟩), .pointer (some ⟨eb, 0, none⟩), rv0] 39 (0, 0)))
    {rv : Value} (hr : Reg X w kb ab nb mb rv regs') (hv : ∀ r ∈ regs', Sm A r) : Mc X (w.setCell ⟨kb, 2, none⟩ rv) kb eb mb ab nb lim A regs' := by
  have e : Ext w.heap.size (fun b => b = kb) w (w.setCell ⟨kb, 2, none⟩ rv) := Ext.setCell (X := fun b => b = kb) (p := ⟨kb, 2, none⟩) (Ext.refl _ _ _) (Or.inr rfl) rv
  refine ⟨hE.setCell e xk ka kn km, xk, ka, kn, km, ⟨rv, ?_, ?_⟩, hv⟩
  · obtain ⟨rv0, h1⟩ := hk
    simp only [World.setCell, Array.getElem?_modify, h1]
    simp
  · rcases hr with hr | ⟨rb, off, cap, cells, e1, xr, n, hh, r⟩
    · exact Or.inl hr
    · exact Or.inr ⟨rb, off, cap, cells, e1, xr, n, (e.block rb (heap_lt hh) n.1).trans hh, r⟩

/-- The row has moved to a new block. -/
theorem Mc.moved {X : Nat → Prop} {w w1 w2 : World} {kb eb mb ab nb : Nat} {lim : Int} {A : List Nd} {regs : List Int} {z : Int} {v' : Value} (h : Mc X w kb eb mb ab nb lim A regs) (hb : Below w.heap.size w w1) (hown : w2.ownsRow w1.heap.size 28 1 v' (regs.length + 1) (regs.map encI ++ [encI z])) (hg : w1.grownBy w2 none) (hz : Sm A z) :
    ∃ X', Mc X' (w2.setCell ⟨kb, 2, none⟩ v') kb eb mb ab nb lim A (regs ++ [z]) ∧ (∀ b, X' b → X b ∨ w.heap.size ≤ b) ∧ (∀ b, X b → X' b) := by
  rcases hown.2 with ⟨_, h0⟩ | ⟨g, cap, cur, rfl, hbg, hh, r1, r2, r3, r4⟩
  · omega
  have hB : Below w.heap.size w w2 := hb.grown hg hb.size (fun k e => by cases e)
  have lg := heap_lt hh
  have s1 := hb.size
  have hlk := h.lk
  have la := h.en.st.ar.la
  have ln := h.en.st.xlt nb h.en.st.ar.xn
  have lm := h.en.lm
  have hE : En (fun b => X b ∨ b = g) w2 eb mb ab nb lim A := h.en.more hB (Nat.le_refl _) (fun b hb => Or.inl hb) (fun b hb e => e.elim id (fun e => by omega)) (fun q hq => hq.elim (fun e => Nat.lt_of_lt_of_le (h.en.st.xlt q e) hB.size) (fun e => by omega))
  refine ⟨fun b => X b ∨ b = g, mc_store hE (Or.inl h.xk) h.ka h.kn h.km ?_ (Or.inr ⟨g, 0, cap, cur, by simp, Or.inr rfl, ⟨by omega, by omega, by omega, by omega⟩, hh, by omega, by simpa using r1, r2, fun j hj => ?_⟩) (fun r hr => ?_), fun b e => e.imp id (fun e => by omega), fun b e => Or.inl e⟩
  · obtain ⟨rv0, h1, _⟩ := h.reg
    exact ⟨rv0, (hB.block kb hlk).trans h1⟩
  · have e : (cur.toList.take ((regs.length + 1) * 1))[j]? = (regs.map encI ++ [encI z])[j]? := by rw [r4]
    have hj2 : j < regs.length + 1 := by simpa using hj
    rw [List.getElem?_take_of_lt (by omega)] at e
    rw [Nat.zero_add]
    have e2 : (regs.map encI ++ [encI z])[j]? = some (encI (regs ++ [z])[j]) := by
      rw [show regs.map encI ++ [encI z] = (regs ++ [z]).map encI by simp, List.getElem?_map, List.getElem?_eq_getElem hj]
      rfl
    rw [e2] at e
    simpa using e
  · rcases List.mem_append.1 hr with hr | hr
    · exact h.val r hr
    · rw [List.mem_singleton.1 hr]; exact hz

/-- There was room. -/
theorem Mc.room {X : Nat → Prop} {w w1 : World} {kb eb mb ab nb : Nat} {lim : Int} {A : List Nd} {regs : List Int} {z : Int} {rb off cap : Nat} (h : Mc X w kb eb mb ab nb lim A regs) (hb : Below w.heap.size w w1) (hr : Reg X w kb ab nb mb (.slice (some ⟨rb, off, none⟩) regs.length cap) regs) (hroom : regs.length + 1 ≤ cap) (hz : Sm A z) :
    Mc X ((w1.setCell ⟨rb, off + regs.length, none⟩ (encI z)).setCell ⟨kb, 2, none⟩ (.slice (some ⟨rb, off, none⟩) (regs.length + 1) cap)) kb eb mb ab nb lim A (regs ++ [z]) := by
  rcases hr with ⟨e, _⟩ | ⟨rb', off', cap', cells, e, xr, ⟨n1, n2, n3, n4⟩, hh, r1, r2, r3, r4⟩
  · cases e
  simp only [Value.slice.injEq, Option.some.injEq, Addr.mk.injEq] at e
  obtain ⟨⟨rfl, rfl, _⟩, _, rfl⟩ := e
  have lr := heap_lt hh
  have s1 := hb.size
  have hlk := h.lk
  have hM1 := h.below hb
  have hh1 : w1.heap[rb]? = some (.cells cells 28 (0, 0)) := (hb.block rb lr).trans hh
  have e1 : Ext w1.heap.size (fun b => b = rb) w1 (w1.setCell ⟨rb, off + regs.length, none⟩ (encI z)) := Ext.setCell (X := fun b => b = rb) (p := ⟨rb, off + regs.length, none⟩) (Ext.refl _ _ _) (Or.inr rfl) _
  have hh2 : (w1.setCell ⟨rb, off + regs.length, none⟩ (encI z)).heap[rb]? = some (.cells (cells.setIfInBounds (off + regs.length) (encI z)) 28 (0, 0)) := by
    simp only [World.setCell, Array.getElem?_modify, hh1]
    simp
  refine mc_store (hM1.en.setCell e1 xr n2 n3 n4) h.xk h.ka h.kn h.km ?_ (Or.inr ⟨rb, off, cap, _, by simp, xr, ⟨n1, n2, n3, n4⟩, hh2, by simpa using r1, by simpa using hroom, r3, fun j hj => ?_⟩) (fun r hr => ?_)
  · obtain ⟨rv0, h1, _⟩ := hM1.reg
    exact ⟨rv0, (e1.block kb (by omega) (fun e => n1 e.symm)).trans h1⟩
  · have hj2 : j < regs.length + 1 := by simpa using hj
    by_cases hlt : j < regs.length
    · rw [Array.getElem?_setIfInBounds_ne (by omega), r4 j hlt, List.getElem_append_left hlt]
    · have ej : j = regs.length := by omega
      subst ej
      rw [Array.getElem?_setIfInBounds_self_of_lt (by omega)]
      simp
  · rcases List.mem_append.1 hr with hr | hr
    · exact h.val r hr
    · rw [List.mem_singleton.1 hr]; exact hz

/-- The oldest register is forgotten. -/
theorem Mc.forget {X : Nat → Prop} {w : World} {kb eb mb ab nb : Nat} {lim : Int} {A : List Nd} {regs : List Int} {rb off cap : Nat} (h : Mc X w kb eb mb ab nb lim A regs) (hr : Reg X w kb ab nb mb (.slice (some ⟨rb, off, none⟩) regs.length cap) regs) (hn : 1 < regs.length) :
    Mc X (w.setCell ⟨kb, 2, none⟩ (.slice (some ⟨rb, off + 1, none⟩) (regs.length - 1) (cap - 1))) kb eb mb ab nb lim A regs.tail := by
  rcases hr with ⟨e, _⟩ | ⟨rb', off', cap', cells, e, xr, n, hh, r1, r2, r3, r4⟩
  · cases e
  simp only [Value.slice.injEq, Option.some.injEq, Addr.mk.injEq] at e
  obtain ⟨⟨rfl, rfl, _⟩, _, rfl⟩ := e
  refine mc_store h.en h.xk h.ka h.kn h.km ?_ (Or.inr ⟨rb, off + 1, cap - 1, cells, by simp, xr, n, hh, by omega, by simp; omega, by omega, fun j hj => ?_⟩) (fun r hr => h.val r (List.mem_of_mem_tail hr))
  · obtain ⟨rv0, h1, _⟩ := h.reg
    exact ⟨rv0, h1⟩
  · have hj2 : j + 1 < regs.length := by simp at hj; omega
    rw [show off + 1 + j = off + (j + 1) by omega, r4 (j + 1) hj2]
    simp
end Go.Proofs.Qxb6500848aGreatDoor
