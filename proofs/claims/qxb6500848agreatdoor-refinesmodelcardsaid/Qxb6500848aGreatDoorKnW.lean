/-
  Known sets and queues of one's own, beside the engine.
-/
import Derived.Test.Qxb6500848aGreatDoorPlainG
import Derived.Test.Qxb6500848aGreatDoorPwW
import Derived.ArgAppend
namespace Go.Proofs.Qxb6500848aGreatDoor
open Go.RowKit Pl Go.Maps
set_option maxRecDepth 100000

theorem nodup_lits : ∀ {l m : List Lit}, l.Nodup → (∀ x ∈ l, x ∈ m) → l.length ≤ m.length
  | [], m, _, _ => Nat.zero_le _
  | a :: l, m, hn, hs => by
    have ha := hs a (List.mem_cons_self ..)
    have hn' := List.nodup_cons.1 hn
    obtain ⟨s, t, rfl⟩ := List.append_of_mem ha
    have := nodup_lits (l := l) (m := s ++ t) hn'.2 (fun x hx => by
      have hne : x ≠ a := fun e => hn'.1 (e ▸ hx)
      have := hs x (List.mem_cons_of_mem _ hx)
      rcases List.mem_append.1 this with h | h
      · exact List.mem_append_left _ h
      · rcases List.mem_cons.1 h with h | h
        · exact absurd h hne
        · exact List.mem_append_right _ h)
    simp only [List.length_cons, List.length_append] at this ⊢
    omega
theorem Mp.len {K : TypeId} {w : World} {b : Nat} {get : Lit → Value} {ks : List Lit} (h : Mp K w b get ks) {t e : TypeId} (ht : Tryz.prog.underlying t = some (.map K e)) (ty : TypeId) : (Builtin.len_ #[t] ty #[.map (some b)]).run Tryz.prog w = .ok (.int .i64 ks.length) w := by
  obtain ⟨D, h1, h2, h3, h4, h5⟩ := h
  have hle := h1.size_le
  obtain ⟨es, ee⟩ := h1.isMap
  have hge : ks.length ≤ Maps.size D := by
    have := nodup_lits (m := es.map Prod.fst) h2 (fun k hk => by
      have hh := (h3 k).2 hk
      rw [ee, Maps.has_eq] at hh
      obtain ⟨p, hp, hq⟩ := List.any_eq_true.1 hh
      exact List.mem_map.2 ⟨p, hp, (WideAt.sameKey_eq hq)⟩)
    rw [ee, Maps.size_eq]
    simpa using this
  have e : Maps.size D = ks.length := by omega
  have := h1.len ht ty
  rw [e] at this
  exact this

theorem Ax.turn {X : Nat → Prop} {w w' : World} {eb mb m : Nat} {A : List Nd} (h : Ax X w eb mb A) (e : Ext w.heap.size (fun b => b = m) w w') (hm : IsMap w m) (n1 : mb + 3 < m) : Ax X w' eb mb A := by
  have k := Turn.one e hm
  obtain ⟨a, b, c, he⟩ := h.eng
  obtain ⟨g1, k1, M1, H1⟩ := h.cu
  obtain ⟨g2, k2, M2, H2⟩ := h.pa
  obtain ⟨g3, k3, M3, H3⟩ := h.pn
  refine ⟨⟨a, b, c, k.block he⟩, h.n1, h.n2, h.n3, ⟨g1, k1, M1.ext e M1.lt (by omega), fun q hq => ?_⟩, ⟨g2, k2, M2.ext e M2.lt (by omega), fun q hq => ?_⟩, ⟨g3, k3, M3.ext e M3.lt (by omega), H3⟩⟩
  · obtain ⟨y, tb, P, r1, r2, r3, r4, r5, r6⟩ := H1 q hq
    exact ⟨y, tb, P, r1, r2, r3, r4.turn k, r5, r6⟩
  · obtain ⟨y, c, l, r1, r2, r3, r4, r5⟩ := H2 q hq
    exact ⟨y, c, l, r1, r2, r3, k.seq r4, r5⟩

/-- A map of one's own has turned. -/
theorem GrX.turnOwn {X X' : Nat → Prop} {w w1 w2 : World} {eb mb ab nb nb' m : Nat} {lim : Int} {A A' : List Nd} (h : GrX X w eb mb ab nb lim A X' w1 nb' A') (e : Ext w1.heap.size (fun b => b = m) w1 w2) (hm : IsMap w1 m) (hb : w.heap.size ≤ m) (h3 : mb + 3 < w.heap.size) : GrX X w eb mb ab nb lim A X' w2 nb' A' :=
  ⟨h.en.turn e hm (by omega), h.ax.turn e hm (by omega), h.le, h.ext.trans e h.ext.size (fun i hi q => by omega), h.nbs, h.sub⟩

/-! ### a known set -/
structure Kn (B : Nat) (X : Nat → Prop) (w : World) (m : Nat) (K : List Int) : Prop where
  base : B ≤ m
  nx : ¬ X m
  mp : ∃ get, Mp 28 w m get (K.map IK) ∧ ∀ k ∈ K, get (IK k) = .bool true

section
variable {B : Nat} {X X' : Nat → Prop} {w w' : World} {m : Nat} {K : List Int}
theorem Kn.ismap (h : Kn B X w m K) : IsMap w m := by obtain ⟨_, h, _⟩ := h.mp; exact h.isMap
theorem Kn.lt (h : Kn B X w m K) : m < w.heap.size := by obtain ⟨_, h, _⟩ := h.mp; exact h.lt
theorem Kn.keep (h : Kn B X w m K) (e : Ext w.heap.size X w w') (sub : ∀ b, b < w.heap.size → (X' b ↔ X b)) : Kn B X' w' m K := by
  have lt := h.lt
  obtain ⟨get, hM, hg⟩ := h.mp
  exact ⟨h.base, fun x => h.nx ((sub m lt).1 x), get, hM.ext e lt h.nx, hg⟩
theorem Kn.below (h : Kn B X w m K) (k : Below w.heap.size w w') : Kn B X w' m K := h.keep (Ext.of_below k _) (fun _ _ => Iff.rfl)
theorem Kn.growX {eb mb ab nb nb' : Nat} {lim : Int} {A A' : List Nd} (h : Kn B X w m K) (hB : mb + 3 < B) (hE : Es X w eb mb ab nb lim A) (g : GrX X w eb mb ab nb lim A X' w' nb' A') : Kn B X' w' m K := by
  have hb := h.base
  obtain ⟨get, hM, hg⟩ := h.mp
  refine ⟨hb, fun x => h.nx ((g.sub m hM.lt).1 x), get, hM.ext g.ext hM.lt (fun e => ?_), hg⟩
  rcases e with e | e | e
  · exact h.nx (by rw [e]; exact hE.en.st.ar.xa)
  · exact h.nx (by rw [e]; exact hE.en.st.ar.xn)
  · have := e.2; omega
theorem Kn.turn (h : Kn B X w m K) {m' : Nat} (e : Ext w.heap.size (fun b => b = m') w w') (hn : m ≠ m') : Kn B X w' m K := by
  obtain ⟨get, hM, hg⟩ := h.mp
  exact ⟨h.base, h.nx, get, hM.ext e hM.lt hn, hg⟩
theorem Kn.new {X : Nat → Prop} (w : World) (hB : B ≤ w.heap.size) (hx : ¬ X w.heap.size) : Kn B X (w.alloc (.map #[] 0)) w.heap.size [] :=
  ⟨hB, hx, fun _ => .bool true, Mp.made _ _ _, fun k hk => absurd hk (by simp)⟩
theorem ik_mem {x : Int} : IK x ∈ K.map IK ↔ x ∈ K := by
  constructor
  · intro h
    obtain ⟨y, hy, e⟩ := List.mem_map.1 h
    have : y = x := by injection e
    rw [← this]; exact hy
  · exact fun h => List.mem_map.2 ⟨x, h, rfl⟩
theorem Kn.look (h : Kn B X w m K) {x : Int} (h0 : 0 ≤ x) (h1 : x ≤ 65536) : (Instr.lookup 82 (.map (some m)) (.int .i64 x) false).run Tryz.prog w = .ok (.bool (decide (x ∈ K))) w := by
  obtain ⟨get, hM, hg⟩ := h.mp
  have hkey := key_int x h0 (by omega)
  by_cases hin : x ∈ K
  · have hl := hM.hit0 law_id Tryz.underlying82 (zero_bool w) hkey (ik_mem.2 hin)
    have eg : get (Lit.int .i64 x) = .bool true := hg x hin
    rw [eg] at hl
    rw [decide_eq_true hin]
    exact hl
  · have hl := hM.miss0 law_id Tryz.underlying82 (zero_bool w) hkey (fun e => hin (ik_mem.1 e))
    rw [decide_eq_false hin]
    exact hl
theorem Kn.put (h : Kn B X w m K) {x : Int} (h0 : 0 ≤ x) (h1 : x ≤ 65536) (hin : x ∉ K) (hl : K.length ≤ 65536) :
    ∃ w', (Instr.mapUpdate 82 (.map (some m)) (.int .i64 x) (.bool true)).run Tryz.prog w = .ok () w' ∧ Kn B X w' m (x :: K) ∧ Ext w.heap.size (fun b => b = m) w w' := by
  obtain ⟨get, hM, hg⟩ := h.mp
  have hkey := key_int x h0 (by omega)
  obtain ⟨w', get', r1, r2, r3, r4, r5⟩ := hM.store law_id Tryz.underlying82 (by unfold maxLen; simp; omega) hkey trivial (fun e => hin (ik_mem.1 e)) (.bool true)
  refine ⟨w', r1, ⟨h.base, h.nx, get', r2, fun k hk => ?_⟩, r5⟩
  rcases List.mem_cons.1 hk with rfl | hk
  · exact r3
  · exact (r4 (IK k) (ik_mem.2 hk)).trans (hg k hk)
theorem Kn.len (h : Kn B X w m K) (ty : TypeId) : (Builtin.len_ #[82] ty #[.map (some m)]).run Tryz.prog w = .ok (.int .i64 K.length) w := by
  obtain ⟨get, hM, hg⟩ := h.mp
  have := hM.len Tryz.underlying82 ty
  rw [List.length_map] at this
  exact this
end

/-! ### a queue -/
structure Qu (B : Nat) (X : Nat → Prop) (ab nb mb : Nat) (w : World) (v : Value) (T : List Int) : Prop where
  at_ : ∃ g off cap cells, v = .slice (some ⟨g, off, none⟩) T.length cap ∧ (B ≤ g ∧ X g ∧ g ≠ ab ∧ g ≠ nb ∧ g ≠ mb) ∧ w.heap[g]? = some (.cells cells 28 (0, 0)) ∧ off + cap ≤ cells.size ∧ T.length ≤ cap ∧ cap ≤ maxLen ∧ ∀ j (h : j < T.length), cells[off + j]? = some (encI T[j])

section
variable {B : Nat} {X X' : Nat → Prop} {ab nb nb' mb eb : Nat} {lim : Int} {A A' : List Nd} {w w' : World} {v : Value} {T : List Int}
theorem Qu.growX (h : Qu B X ab nb mb w v T) (hB : mb + 3 < B) (g : GrX X w eb mb ab nb lim A X' w' nb' A') : Qu B X' ab nb' mb w' v T := by
  obtain ⟨q, off, cap, cells, e, ⟨n0, n1, n2, n3, n4⟩, hh, r⟩ := h.at_
  have lt := heap_lt hh
  refine ⟨q, off, cap, cells, e, ⟨n0, (g.sub q lt).2 n1, n2, ?_, n4⟩, (g.ext.block q lt (fun e => ?_)).trans hh, r⟩
  · rcases g.nbs with e | e
    · rw [e]; exact n3
    · omega
  · rcases e with e | e | e
    · exact n2 e
    · exact n3 e
    · have := e.2; omega
theorem Qu.turn (h : Qu B X ab nb mb w v T) (k : Turn w w') : Qu B X ab nb mb w' v T := by
  obtain ⟨q, off, cap, cells, e, n, hh, r⟩ := h.at_
  exact ⟨q, off, cap, cells, e, n, k.block hh, r⟩
theorem Qu.below (h : Qu B X ab nb mb w v T) (k : Below w.heap.size w w') : Qu B X ab nb mb w' v T := h.turn (Turn.below k)
theorem Qu.shape (h : Qu B X ab nb mb w v T) : ∃ g off cap, v = .slice (some ⟨g, off, none⟩) T.length cap ∧ T.length ≤ cap ∧ cap ≤ maxLen ∧ ∀ j (h : j < T.length), w.cell? ⟨g, off + j, none⟩ = some (encI T[j]) := by
  obtain ⟨q, off, cap, cells, e, n, hh, r1, r2, r3, r4⟩ := h.at_
  exact ⟨q, off, cap, e, r2, r3, fun j hj => by simp only [World.cell?, hh]; exact r4 j hj⟩
theorem Qu.tail {g off cap : Nat} {t : Int} (h : Qu B X ab nb mb w (.slice (some ⟨g, off, none⟩) (t :: T).length cap) (t :: T)) {off' : Nat} (ho : off' = off + 1 ∨ (off' = off ∧ cap = 1)) : Qu B X ab nb mb w (.slice (some ⟨g, off', none⟩) T.length (cap - 1)) T := by
  obtain ⟨q, o, c, cells, e, n, hh, r1, r2, r3, r4⟩ := h.at_
  simp only [Value.slice.injEq, Option.some.injEq, Addr.mk.injEq] at e
  obtain ⟨⟨rfl, rfl, _⟩, _, rfl⟩ := e
  simp only [List.length_cons] at r2 r4
  refine ⟨g, off', cap - 1, cells, rfl, n, hh, by omega, by omega, by omega, fun j hj => ?_⟩
  have := r4 (j + 1) (by omega)
  rcases ho with rfl | ⟨rfl, rfl⟩
  · rw [show off + 1 + j = off + (j + 1) by omega]
    exact this
  · omega
/-- The queue is given away. -/
theorem Qu.give {X0 : Nat → Prop} {w0 : World} {nb0 : Nat} {A0 : List Nd} (h : GrX X0 w0 eb mb ab nb0 lim A0 X w nb A) (hq : Qu w0.heap.size X ab nb mb w v T) : ∃ X5, GrX X0 w0 eb mb ab nb0 lim A0 X5 w nb A ∧ Ints X5 w v T ∧ (∀ b, X5 b → X b) ∧ ∀ b, b < w0.heap.size → (X5 b ↔ X b) := by
  obtain ⟨q, off, cap, cells, rfl, ⟨n0, n1, n2, n3, n4⟩, hh, r1, r2, r3, r4⟩ := hq.at_
  refine ⟨_, h.dropped n0 n2 n3 n4, ⟨_, cap, rfl, r2, r3, fun _ => ⟨q, off, rfl, fun e => e.2 rfl, fun j hj => ?_⟩⟩, fun b e => e.1, fun b hb => ⟨fun e => e.1, fun e => ⟨e, by omega⟩⟩⟩
  simp only [World.cell?, hh]
  exact r4 j hj
/-- A new queue of one. -/
theorem Qu.one {X0 : Nat → Prop} {w0 : World} {nb0 : Nat} {A0 : List Nd} (h : GrX X0 w0 eb mb ab nb0 lim A0 X w nb A) (z : Int) : GrX X0 w0 eb mb ab nb0 lim A0 (fun b => X b ∨ b = w.heap.size) (w.alloc (.cells #[encI z] 28)) nb A ∧ Qu w0.heap.size (fun b => X b ∨ b = w.heap.size) ab nb mb (w.alloc (.cells #[encI z] 28)) (.slice (some ⟨w.heap.size, 0, none⟩) 1 1) [z] := by
  have la := h.en.st.ar.la
  have ln := h.en.st.xlt nb h.en.st.ar.xn
  have lm := h.en.lm
  refine ⟨h.addNew _, ⟨w.heap.size, 0, 1, #[encI z], rfl, ⟨h.ext.size, Or.inr rfl, by omega, by omega, by omega⟩, heap_new _ _, by simp, by simp, by unfold maxLen; omega, fun j hj => ?_⟩⟩
  have : j = 0 := by simp at hj; omega
  subst this
  rfl
end

/-- What an append to a queue gives. -/
def ApR (X : Nat → Prop) (w0 : World) (eb mb ab nb : Nat) (lim : Int) (A : List Nd) (X' : Nat → Prop) (w1 : World) (nb' : Nat) (A' : List Nd) (v' : Value) (w5 : World) (T : List Int) : Prop :=
  ∃ X5, GrX X w0 eb mb ab nb lim A X5 w5 nb' A' ∧ Qu w0.heap.size X5 ab nb' mb w5 v' T ∧ (∀ b, b < w1.heap.size → (X5 b ↔ X' b)) ∧ Ext w1.heap.size X' w1 w5

section
variable {X X' : Nat → Prop} {w0 w1 w2 w5 : World} {eb mb ab nb nb' : Nat} {lim : Int} {A A' : List Nd} {T : List Int} {v v' : Value}
theorem Qu.room {g off cap : Nat} (h : GrX X w0 eb mb ab nb lim A X' w1 nb' A') (hq : Qu w0.heap.size X' ab nb' mb w1 (.slice (some ⟨g, off, none⟩) T.length cap) T) (hb : Below w1.heap.size w1 w2) (hr : T.length + 1 ≤ cap) (d : Int) :
    ApR X w0 eb mb ab nb lim A X' w1 nb' A' (.slice (some ⟨g, off, none⟩) (T.length + 1) cap) (w2.setCell ⟨g, off + T.length, none⟩ (encI d)) (T ++ [d]) := by
  obtain ⟨q, o, c, cells, e, ⟨n0, n1, n2, n3, n4⟩, hh, r1, r2, r3, r4⟩ := hq.at_
  simp only [Value.slice.injEq, Option.some.injEq, Addr.mk.injEq] at e
  obtain ⟨⟨rfl, rfl, _⟩, _, rfl⟩ := e
  have lt := heap_lt hh
  have hh2 := (hb.block g lt).trans hh
  have e1 : Ext w2.heap.size (fun b => b = g) w2 (w2.setCell ⟨g, off + T.length, none⟩ (encI d)) := Ext.setCell (X := fun b => b = g) (p := ⟨g, off + T.length, none⟩) (Ext.refl _ _ _) (Or.inr rfl) _
  have hh3 : (w2.setCell ⟨g, off + T.length, none⟩ (encI d)).heap[g]? = some (.cells (cells.setIfInBounds (off + T.length) (encI d)) 28 (0, 0)) := by
    simp only [World.setCell, Array.getElem?_modify, hh2]
    simp
  refine ⟨X', (h.below hb).scr n1 n0 n2 n3 n4 e1, ⟨g, off, cap, _, by simp, ⟨n0, n1, n2, n3, n4⟩, hh3, by simpa using r1, by simpa using hr, r3, fun j hj => ?_⟩, fun _ _ => Iff.rfl, (Ext.of_below hb _).trans e1 hb.size (fun i _ q => by rw [show i = g from q]; exact n1)⟩
  have hj2 : j < T.length + 1 := by simpa using hj
  by_cases hlt : j < T.length
  · rw [Array.getElem?_setIfInBounds_ne (by omega), r4 j hlt, List.getElem_append_left hlt]
  · have ej : j = T.length := by omega
    subst ej
    rw [Array.getElem?_setIfInBounds_self_of_lt (by omega)]
    simp
theorem Qu.grew (h : GrX X w0 eb mb ab nb lim A X' w1 nb' A') (hb : Below w1.heap.size w1 w2) {d : Int} (hown : w5.ownsRow w2.heap.size 28 1 v' (T.length + 1) (T.map encI ++ [encI d])) (hg : w2.grownBy w5 none) :
    ApR X w0 eb mb ab nb lim A X' w1 nb' A' v' w5 (T ++ [d]) := by
  rcases hown.2 with ⟨_, h0⟩ | ⟨g, cap, cur, rfl, hbg, hh, r1, r2, r3, r4⟩
  · omega
  have hB : Below w1.heap.size w1 w5 := hb.grown hg hb.size (fun k e => by cases e)
  have lg := heap_lt hh
  have s1 := hb.size
  have s0 := h.ext.size
  have la := h.en.st.ar.la
  have ln := h.en.st.xlt nb' h.en.st.ar.xn
  have lm := h.en.lm
  have hm : ∀ b, b < w1.heap.size → (X' b ∨ b = g) → X' b := fun b hb e => e.elim id (fun e => by omega)
  have hE : En (fun b => X' b ∨ b = g) w5 eb mb ab nb' lim A' := h.en.more hB (Nat.le_refl _) (fun b hb => Or.inl hb) hm (fun q hq => hq.elim (fun e => Nat.lt_of_lt_of_le (h.en.st.xlt q e) hB.size) (fun e => by omega))
  have hX : Ax (fun b => X' b ∨ b = g) w5 eb mb A' := (h.ax.more hm).keep (fun x => h.en.xe (hm _ h.en.lb x)) (Ext.of_below hB _) (fun _ _ => Iff.rfl) (Le.refl _) h.en.st.ar.wf h.en.st.ar.wf
  refine ⟨fun b => X' b ∨ b = g, ⟨hE, hX, h.le, h.ext.andThen hB h.ext.size, h.nbs, fun b hb => ⟨fun e => (h.sub b hb).1 (hm b (by omega) e), fun e => Or.inl ((h.sub b hb).2 e)⟩⟩, ⟨g, 0, cap, cur, by simp, ⟨by omega, Or.inr rfl, by omega, by omega, by omega⟩, hh, by omega, by simpa using r1, r2, fun j hj => ?_⟩, fun b hb => ⟨hm b hb, Or.inl⟩, Ext.of_below hB _⟩
  have e : (cur.toList.take ((T.length + 1) * 1))[j]? = (T.map encI ++ [encI d])[j]? := by rw [r4]
  have hj2 : j < T.length + 1 := by simpa using hj
  rw [List.getElem?_take_of_lt (by omega)] at e
  rw [Nat.zero_add]
  have e2 : (T.map encI ++ [encI d])[j]? = some (encI (T ++ [d])[j]) := by
    rw [show T.map encI ++ [encI d] = (T ++ [d]).map encI by simp, List.getElem?_map, List.getElem?_eq_getElem hj]
    rfl
  rw [e2] at e
  simpa using e

/-- append(q, d). -/
theorem wpList_append_qu {ops : Array Oper} {rest : List Oper} {o : Oper} {a : Act} {Q : Exit → Act → World → Prop} (hgd : o.guard = none) (s x : Operand) (hop : o.op = Op.call { callee := Callee.builtin Builtin.append, args := #[s, x], argTypes := #[37, 37] })
    (h : GrX X w0 eb mb ab nb lim A X' w1 nb' A') (hq : Qu w0.heap.size X' ab nb' mb w1 v T) (hb : Below w1.heap.size w1 w2) (hs : a.eval s = v) (ad : Addr) (d : Int) (hx : a.eval x = .slice (some ad) 1 1) (hc : w2.cell? ad = some (encI d)) (hl : T.length ≤ 65536)
    (K : ∀ v' w5, ApR X w0 eb mb ab nb lim A X' w1 nb' A' v' w5 (T ++ [d]) → wpList Tryz.prog ops Q rest (a.put o.dst v') w5) : wpList Tryz.prog ops Q (o :: rest) a w2 := by
  obtain ⟨i0, hi0, hz0, hz1, hz2⟩ := info_parts info_id
  obtain ⟨g, off, cap, cells, rfl, n, hh, r1, r2, r3, r4⟩ := hq.at_
  have lt := heap_lt hh
  have hh2 := (hb.block g lt).trans hh
  refine wpList_append_arg w2 hgd s x 37 hop 28 i0 (.int .i64 0) 1 8 Tryz.underlying37 hi0 hz0 hz1 hz2 rfl (by decide) g off T.length cap (T.map encI) hs (by simp) (fun j u hu => ?_) ad 1 1 [encI d] hx rfl (fun j u hu => ?_) (one_ints [d]) (fun hr j hj => ?_) (by unfold maxLen; omega) (by omega) (fun hr => ?_) (fun hr v' w5 hown hg => ?_)
  · rw [List.getElem?_map] at hu
    obtain ⟨y, hy, rfl⟩ := Option.map_eq_some_iff.1 hu
    obtain ⟨hj, rfl⟩ := List.getElem?_eq_some_iff.1 hy
    simp only [World.cell?, hh2]
    exact r4 j hj
  · cases j with
    | zero =>
      simp at hu
      subst hu
      simpa [Addr.add] using hc
    | succ j => simp at hu
  · have : j = 0 := by simp at hj; omega
    subst this
    constructor
    · simp only [World.cell?, hh2]
      rw [Array.getElem?_eq_getElem (by omega)]
      rfl
    · simp [World.frozen?, hh2]
  · have := K _ _ (Qu.room h hq hb hr d)
    simpa [World.setCells] using this
  · exact K v' w5 (Qu.grew h hb hown hg)
end
end Go.Proofs.Qxb6500848aGreatDoor
