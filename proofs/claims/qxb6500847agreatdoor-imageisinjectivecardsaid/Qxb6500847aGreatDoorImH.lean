/-
  ImageIsInjective: what stands between two steps of the law.
-/
import Derived.Test.Qxb6500847aGreatDoorImD
import Derived.Test.Qxb6500847aGreatDoorImE
import Derived.Test.Qxb6500847aGreatDoorImF
import Derived.Test.Qxb6500847aGreatDoorImG
namespace Go.Proofs.Qxb6500847aGreatDoor.Os
open Go.RowKit FloorA Go.Lib
set_option maxRecDepth 100000
section
variable {w0 w w' : World} {D : Nat → Nat → Prop} {Z : Nat → Prop} {P B : Nat} {M N : Nat → En}
/-- Another part than the arena and the model turns. -/
theorem R2.other (h : R2 w0 D Z P B M N w) (h4 : 4 ≤ w0.heap.size) {c : Nat} (hc0 : c ≠ 0) (hc1 : c ≠ 1) (e : Ext w.heap.size (D c) w w') : R2 w0 D Z P B M N w' :=
  ⟨h.sep.same e.size, h.ar.keep h.sep h4 hc0 e, h.mo.keep h.sep hc1 e, h.bel.trans (sep_bel h.sep e h.bel.size), h.sm, fun b hb => ⟨Nat.lt_of_lt_of_le (h.z b hb).1 e.size, (h.z b hb).2⟩⟩
theorem splI_rng (M : Nat → En) : ∀ x ∈ splI M, 0 ≤ x ∧ x ≤ 255 := fun x hx => by
  unfold splI at hx
  obtain ⟨y, _, rfl⟩ := List.mem_map.1 hx
  have := y.toNat_lt
  omega
theorem splI_inj (hM : SdM M) (hN : SdM N) (h : splI M = splI N) : M = N := by
  refine hM.ext hN (spl_inj hM.num hN.num ?_)
  unfold splI at h
  have q : ∀ {a b : List UInt8}, a.map (fun b => (b.toNat : Int)) = b.map (fun b => (b.toNat : Int)) → a = b := by
    intro a
    induction a with
    | nil => intro b h; cases b with
      | nil => rfl
      | cons y b => simp at h
    | cons x a ih => intro b h; cases b with
      | nil => simp at h
      | cons y b =>
        simp only [List.map_cons, List.cons.injEq] at h
        rw [ih h.2]
        have : x.toNat = y.toNat := by omega
        rw [UInt8.toNat_inj.1 this]
  exact q h
theorem splI_len (hM : SdM M) : (splI M).length ≤ 800000 := by
  unfold splI spl
  rw [List.length_map]
  exact stS_len hM.num 320 (Nat.le_refl _)
theorem Snd.one {im im' : List Int} (h : Snd M im) (h' : Snd M im') : im = im' := by
  obtain ⟨s, tl, ws, L, n, _, _, _, ho, rfl⟩ := h
  exact h'.img ho
/-- One image, one state, in a world where nothing but the globals need lie. -/
theorem Snd.inj0 {im : List Int} (hM : Snd M im) (hN : Snd N im) (hgl : Gl w) (hl : im.length ≤ maxLen) : M = N := by
  have hb : BytesAt (w.alloc (.cells ((im.map (Value.int .u8)).toArray) 5)) w.heap.size 0 im := fun i hi => by
    have r := hM.bytes.1 (im[i]) (List.getElem_mem hi)
    have e : im.getD i 0 = im[i] := by rw [List.getD, List.getElem?_eq_getElem hi]; rfl
    rw [e]
    refine ⟨?_, r⟩
    rw [Nat.zero_add, box_cell (heap_new w _) i, List.getElem?_toArray, List.getElem?_map, List.getElem?_eq_getElem hi]
    rfl
  exact hM.inj hN hb (Nat.le_refl _) hl (by simp) (hgl.below (alloc_below _))
end
/-- The texts of a state and of its image. -/
def sM (M : Nat → En) : ByteArray := strOfNums (splI M)
def sI (im : List Int) : ByteArray := strOfNums im
/-- Blocks that the law has laid ahead of its loops, but for the two maps. -/
def Zl (w w1 : World) (b1 b2 b : Nat) : Prop := w.heap.size ≤ b ∧ b < w1.heap.size ∧ b ≠ b1 ∧ b ≠ b2
/-- The two maps: the states V and their images. -/
structure Mps (b1 b2 : Nat) (V : List ((Nat → En) × List Int)) (W : World) : Prop where
  m1 : Ss W b1 V.length (V.map fun x => (sM x.1, sI x.2))
  m2 : Ss W b2 V.length (V.map fun x => (sI x.2, sM x.1))
  ok : ∀ x ∈ V, Snd x.1 x.2
section
variable {w w1 W W' : World} {D : Nat → Nat → Prop} {b1 b2 P B : Nat} {M N : Nat → En} {V : List ((Nat → En) × List Int)} {im : List Int}
theorem Mps.keep (h : Mps b1 b2 V W) (e1 : W'.heap[b1]? = W.heap[b1]?) (e2 : W'.heap[b2]? = W.heap[b2]?) : Mps b1 b2 V W' := ⟨h.m1.keep e1, h.m2.keep e2, h.ok⟩
theorem Mps.below (h : Mps b1 b2 V W) (k : Below W.heap.size W W') : Mps b1 b2 V W' := h.keep (k.block _ h.m1.lt) (k.block _ h.m2.lt)
theorem Mps.pair1 (h : Mps b1 b2 V W) (hM : Snd M im) {v : ByteArray} (hv : (sM M, v) ∈ V.map fun x => (sM x.1, sI x.2)) : v = sI im := by
  obtain ⟨x, hx, e⟩ := List.mem_map.1 hv
  injection e with e1 e2
  have h1 := h.ok x hx
  have e3 : x.1 = M := splI_inj h1.sd hM.sd (nums_inj (splI_rng _) (splI_rng _) e1)
  rw [e3] at h1
  rw [← e2, h1.one hM]
theorem Mps.pair2 (h : Mps b1 b2 V W) (hM : Snd M im) (hgl : Gl W) (hl : im.length ≤ maxLen) {v : ByteArray} (hv : (sI im, v) ∈ V.map fun x => (sI x.2, sM x.1)) : v = sM M := by
  obtain ⟨x, hx, e⟩ := List.mem_map.1 hv
  injection e with e1 e2
  have h1 := h.ok x hx
  have e3 : x.2 = im := nums_inj h1.bytes.1 hM.bytes.1 e1
  rw [e3] at h1
  rw [← e2, h1.inj0 hM hgl hl]
theorem sM_size (hM : SdM M) : (sM M).size ≤ maxLen := by
  unfold sM
  rw [strOfNums_size]
  have := splI_len hM
  unfold maxLen
  omega
theorem Mps.look1 (h : Mps b1 b2 V W) (hM : Snd M im) : ∃ v ok, (Instr.lookup 72 (.map (some b1)) (.string (sM M)) true).run Tryz.prog W = .ok (.tuple #[.string v, .bool ok]) W ∧ (ok = true → v = sI im) := by
  obtain ⟨v, ok, h1, h2⟩ := h.m1.look (sM_size hM.sd)
  exact ⟨v, ok, h1, fun e => h.pair1 hM (h2 e)⟩
theorem Mps.look2 (h : Mps b1 b2 V W) (hM : Snd M im) (hgl : Gl W) (hl : im.length ≤ maxLen) : ∃ v ok, (Instr.lookup 72 (.map (some b2)) (.string (sI im)) true).run Tryz.prog W = .ok (.tuple #[.string v, .bool ok]) W ∧ (ok = true → v = sM M) := by
  obtain ⟨v, ok, h1, h2⟩ := h.m2.look (s := sI im) (by unfold sI; rw [strOfNums_size]; exact hl)
  exact ⟨v, ok, h1, fun e => h.pair2 hM hgl hl (h2 e)⟩
theorem Mps.store (h : Mps b1 b2 V W) (hM : Snd M im) (hgl : Gl W) (hl : im.length ≤ maxLen) (hn : V.length < maxLen) (hb : b1 ≠ b2) :
    ∃ W1, (Instr.mapUpdate 72 (.map (some b1)) (.string (sM M)) (.string (sI im))).run Tryz.prog W = .ok () W1 ∧ Ext W.heap.size (fun k => k = b1) W W1 ∧
      ∃ W2, (Instr.mapUpdate 72 (.map (some b2)) (.string (sI im)) (.string (sM M))).run Tryz.prog W1 = .ok () W2 ∧ Ext W1.heap.size (fun k => k = b2) W1 W2 ∧ Mps b1 b2 ((M, im) :: V) W2 := by
  obtain ⟨W1, r1, s1, e1⟩ := h.m1.store hn (sM_size hM.sd) (fun v' hv => h.pair1 hM hv)
  have k2 := h.m2.keep (e1.block b2 h.m2.lt (fun e => hb e.symm))
  obtain ⟨W2, r2, s2, e2⟩ := k2.store hn (s := sI im) (v := sM M) (by unfold sI; rw [strOfNums_size]; exact hl) (fun v' hv => h.pair2 hM hgl hl hv)
  refine ⟨W1, r1, e1, W2, r2, e2, s1.keep (e2.block b1 s1.lt hb), s2, fun x hx => ?_⟩
  rcases List.mem_cons.1 hx with rfl | hx
  · exact hM
  · exact h.ok x hx
/-- Between two steps. -/
structure R5 (w w1 : World) (b1 b2 P B : Nat) (M N : Nat → En) (V : List ((Nat → En) × List Int)) (W : World) : Prop where
  ex : ∃ D, R2 w D (Zl w w1 b1 b2) P B M N W ∧ D 2 b1 ∧ D 3 b2
  k : ∀ b, Zl w w1 b1 b2 b → W.heap[b]? = w1.heap[b]?
  mp : Mps b1 b2 V W
  sz : w1.heap.size ≤ W.heap.size
theorem R5.bel (h : R5 w w1 b1 b2 P B M N V W) : Below w.heap.size w W := by
  obtain ⟨D, h, _⟩ := h.ex
  exact h.bel
theorem R5.below (h : R5 w w1 b1 b2 P B M N V W) (k : Below W.heap.size W W') : R5 w w1 b1 b2 P B M N V W' := by
  obtain ⟨⟨D, h1, h2, h3⟩, h4, h5, h7⟩ := h
  exact ⟨⟨D, (h1.below k).weak (fun b hb => Or.inl hb), h2, h3⟩, fun b hb => (k.block b (h1.z b hb).1).trans (h4 b hb), h5.below k, Nat.le_trans h7 k.size⟩
theorem R5.turn (h1 : R2 w D (Zl w w1 b1 b2) P B M N W) {c : Nat} (h2 : D 2 b1) (h3 : D 3 b2) (hc2 : c ≠ 2) (hc3 : c ≠ 3) (h4 : ∀ b, Zl w w1 b1 b2 b → W.heap[b]? = w1.heap[b]?) (h5 : Mps b1 b2 V W) (e : Ext W.heap.size (D c) W W') : (∀ b, Zl w w1 b1 b2 b → W'.heap[b]? = w1.heap[b]?) ∧ Mps b1 b2 V W' :=
  ⟨fun b hb => (h1.zkeep e hb).trans (h4 b hb), h5.keep (e.block b1 (h1.sep.lo 2 b1 h2).2 (fun q => hc2 (h1.sep.di _ _ b1 q h2))) (e.block b2 (h1.sep.lo 3 b2 h3).2 (fun q => hc3 (h1.sep.di _ _ b2 q h3)))⟩
theorem R5.play (h : R5 w w1 b1 b2 P B M N V W) (v : OpV) {C o : Nat} (hv : OpAt W C o v) : Calls Tryz.prog 17 #[.pointer (some ⟨P, 0, none⟩), .agg v.arr] W fun e w' => (∃ r, e = .returned r) ∧ R5 w w1 b1 b2 P B (stepX M v).2 N V w' := by
  obtain ⟨⟨D, h1, h2, h3⟩, h4, h5, h7⟩ := h
  refine (h1.play v hv).mono ?_
  rintro e w' ⟨refs, vals, rfl, _, _, hR, he⟩
  obtain ⟨q1, q2⟩ := R5.turn h1 h2 h3 (by decide) (by decide) h4 h5 he
  exact ⟨⟨_, rfl⟩, ⟨_, hR, Or.inl h2, Or.inl h3⟩, q1, q2, Nat.le_trans h7 he.size⟩
theorem R5.step (h : R5 w w1 b1 b2 P B M N V W) (h4 : 4 ≤ w.heap.size) (v : OpV) {C o : Nat} (hv : OpAt W C o v) (hM : M = (stepX N v).2) : Calls Tryz.prog 19 #[.pointer (some ⟨B, 0, none⟩), .agg v.arr] W fun e w' => (∃ r, e = .returned r) ∧ R5 w w1 b1 b2 P B M M V w' := by
  obtain ⟨⟨D, h1, h2, h3⟩, h6, h5, h7⟩ := h
  refine (h1.step h4 v hv hM).mono ?_
  rintro e w' ⟨refs, vals, rfl, _, _, hR, he⟩
  obtain ⟨q1, q2⟩ := R5.turn h1 h2 h3 (by decide) (by decide) h6 h5 he
  exact ⟨⟨_, rfl⟩, ⟨_, hR, Or.inl h2, Or.inl h3⟩, q1, q2, Nat.le_trans h7 he.size⟩
theorem R5.asks (h : R5 w w1 b1 b2 P B M N V W) : ∃ A, ∀ w', Below W.heap.size W w' → Asks M P A w' := by
  obtain ⟨D, h1, _⟩ := h.ex
  exact h1.asks
theorem R5.md (h : R5 w w1 b1 b2 P B M N V W) : ∃ wb, Md W B wb N := by
  obtain ⟨D, h1, _⟩ := h.ex
  obtain ⟨wb, hm, _⟩ := h1.mo
  exact ⟨wb, hm⟩
theorem R5.sd (h : R5 w w1 b1 b2 P B M N V W) : SdM N := by
  obtain ⟨D, h1, _⟩ := h.ex
  exact h1.sm
theorem R5.store (h : R5 w w1 b1 b2 P B M N V W) (h4 : 4 ≤ w.heap.size) (hM : Snd M im) (hgl : Gl W) (hl : im.length ≤ maxLen) (hn : V.length < maxLen) :
    ∃ W1, (Instr.mapUpdate 72 (.map (some b1)) (.string (sM M)) (.string (sI im))).run Tryz.prog W = .ok () W1 ∧
      ∃ W2, (Instr.mapUpdate 72 (.map (some b2)) (.string (sI im)) (.string (sM M))).run Tryz.prog W1 = .ok () W2 ∧ R5 w w1 b1 b2 P B M N ((M, im) :: V) W2 := by
  obtain ⟨⟨D, h1, h2, h3⟩, h6, h5, h7⟩ := h
  have hb : b1 ≠ b2 := fun e => by
    subst e
    exact absurd (h1.sep.di _ _ _ h2 h3) (by decide)
  obtain ⟨W1, r1, e1, W2, r2, e2, hm⟩ := h5.store hM hgl hl hn hb
  have x1 : Ext W.heap.size (D 2) W W1 := e1.mono (Nat.le_refl _) (fun i _ q => by rw [q]; exact h2)
  have g1 := h1.other h4 (by decide) (by decide) x1
  have x2 : Ext W1.heap.size (D 3) W1 W2 := e2.mono (Nat.le_refl _) (fun i _ q => by rw [q]; exact h3)
  have g2 := g1.other h4 (by decide) (by decide) x2
  exact ⟨W1, r1, W2, r2, ⟨D, g2, h2, h3⟩, fun b hb => (g1.zkeep x2 hb).trans ((h1.zkeep x1 hb).trans (h6 b hb)), hm, Nat.le_trans h7 (Nat.le_trans e1.size e2.size)⟩
/-- An arena and a model are laid. -/
theorem R5.init {W1 : World} (h : R2 W D (fun _ => False) P B M N W1) (hW : Below w.heap.size w W) (hz : w1.heap.size ≤ W.heap.size) (h1 : w.heap.size ≤ b1 ∧ b1 < W.heap.size) (h2 : w.heap.size ≤ b2 ∧ b2 < W.heap.size) (hb : b1 ≠ b2) (hk : ∀ b, Zl w w1 b1 b2 b → W.heap[b]? = w1.heap[b]?) (hm : Mps b1 b2 V W) : R5 w w1 b1 b2 P B M N V W1 := by
  refine ⟨⟨fun c b => D c b ∨ (c = 2 ∧ b = b1) ∨ (c = 3 ∧ b = b2), ⟨⟨fun c b q => ?_, fun c c' b q1 q2 => ?_⟩, h.ar.mono (fun b q => Or.inl q), h.mo.mono (fun b q => Or.inl q), hW.trans (h.bel.mono hW.size), h.sm, fun b q => ⟨?_, fun c r => ?_⟩⟩, Or.inr (Or.inl ⟨rfl, rfl⟩), Or.inr (Or.inr ⟨rfl, rfl⟩)⟩, fun b q => (h.bel.block b (by have := q.2.1; omega)).trans (hk b q), hm.keep (h.bel.block _ h1.2) (h.bel.block _ h2.2), Nat.le_trans hz h.bel.size⟩
  · have hs := h.bel.size
    have hs2 := hW.size
    rcases q with q | ⟨_, rfl⟩ | ⟨_, rfl⟩
    · have := h.sep.lo c b q
      omega
    · omega
    · omega
  · rcases q1 with q1 | ⟨rfl, rfl⟩ | ⟨rfl, rfl⟩ <;> rcases q2 with q2 | ⟨rfl, r2⟩ | ⟨rfl, r2⟩
    · exact h.sep.di c c' b q1 q2
    · have := (h.sep.lo c b q1).1; omega
    · have := (h.sep.lo c b q1).1; omega
    · have := (h.sep.lo _ _ q2).1; omega
    · rfl
    · exact absurd r2 hb
    · have := (h.sep.lo _ _ q2).1; omega
    · exact absurd r2.symm hb
    · rfl
  · have := q.2.1
    have := h.bel.size
    omega
  · rcases r with r | ⟨_, r⟩ | ⟨_, r⟩
    · have := (h.sep.lo c b r).1
      have := q.2.1
      omega
    · exact q.2.2.1 r
    · exact q.2.2.2 r
end
/-- Steps of a script keep lying where cells keep lying. -/
theorem OpAt.keepC {w w' : World} {b o : Nat} {v : OpV} (h : OpAt w b o v) (hs : w.heap.size ≤ w'.heap.size) (hk : ∀ p x, w.cell? p = some x → w'.cell? p = some x) : OpAt w' b o v := by
  obtain ⟨h1, h2, h3, h4, h5, h6, h7, h8, h9, hm, hi, hj⟩ := h
  refine ⟨fun j x hj => hk _ _ (h1 j x hj), h2, h3, h4, h5, h6, h7, h8, h9, ?_, hi, hj⟩
  rcases hm with hm | ⟨b', o', cap, q1, q2, q3, q4, q5⟩
  · exact Or.inl hm
  · exact Or.inr ⟨b', o', cap, q1, q2, q3, Nat.lt_of_lt_of_le q4 hs, fun f hf => ⟨(q5 f hf).1, hk _ _ (q5 f hf).2⟩⟩
theorem cell_not_map {w : World} {p : Addr} {x : Value} {es : Array MapEntry} {cl : Nat} (h : w.cell? p = some x) : w.heap[p.block]? ≠ some (.map es cl) := fun e => by
  simp [World.cell?, e] at h
theorem R5.cells {w w1 W : World} {b1 b2 P B : Nat} {M N : Nat → En} {V : List ((Nat → En) × List Int)} (h : R5 w w1 b1 b2 P B M N V W) (hw1 : Below w.heap.size w w1) (q1 : ∃ es cl, w1.heap[b1]? = some (.map es cl)) (q2 : ∃ es cl, w1.heap[b2]? = some (.map es cl)) : ∀ p x, w1.cell? p = some x → W.cell? p = some x := fun p x hx => by
  obtain ⟨e1, c1, q1⟩ := q1
  obtain ⟨e2, c2, q2⟩ := q2
  have hlt := cell_lt hx
  by_cases hp : p.block < w.heap.size
  · rw [h.bel.cell hp, ← hw1.cell hp]
    exact hx
  · have hb1 : p.block ≠ b1 := fun e => cell_not_map hx (by rw [e]; exact q1)
    have hb2 : p.block ≠ b2 := fun e => cell_not_map hx (by rw [e]; exact q2)
    rw [World.cell?_of_block (h.k p.block ⟨by omega, hlt, hb1, hb2⟩)]
    exact hx
/-- Between two scripts. -/
structure Out (w w1 : World) (b1 b2 : Nat) (V : List ((Nat → En) × List Int)) (W : World) : Prop where
  bel : Below w.heap.size w W
  k : ∀ b, Zl w w1 b1 b2 b → W.heap[b]? = w1.heap[b]?
  mp : Mps b1 b2 V W
  sz : w1.heap.size ≤ W.heap.size
theorem R5.out {w w1 W : World} {b1 b2 P B : Nat} {M N : Nat → En} {V : List ((Nat → En) × List Int)} (h : R5 w w1 b1 b2 P B M N V W) : Out w w1 b1 b2 V W := ⟨h.bel, h.k, h.mp, h.sz⟩
theorem Out.init {w w1 W W1 : World} {D : Nat → Nat → Prop} {b1 b2 P B : Nat} {M N : Nat → En} {V : List ((Nat → En) × List Int)} (h : Out w w1 b1 b2 V W) (h1 : w.heap.size ≤ b1) (h2 : w.heap.size ≤ b2) (hb : b1 ≠ b2) (hR : R2 W D (fun _ => False) P B M N W1) : R5 w w1 b1 b2 P B M N V W1 := R5.init hR h.bel h.sz ⟨h1, h.mp.m1.lt⟩ ⟨h2, h.mp.m2.lt⟩ hb h.k h.mp
end Go.Proofs.Qxb6500847aGreatDoor.Os
