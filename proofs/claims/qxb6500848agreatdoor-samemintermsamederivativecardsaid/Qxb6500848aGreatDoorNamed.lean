/-
  named.
-/
import Derived.Test.Qxb6500848aGreatDoorRunA
namespace Go.Proofs.Qxb6500848aGreatDoor
open Go.RowKit Pl Go.Maps
set_option maxRecDepth 100000

theorem law_int : Keyed Tryz.prog 3 := int_keyed Tryz.underlying3
theorem key_intA (x : Int) (h : (Lit.int .i64 x).wf = true) : keyOf Tryz.prog 3 (.int .i64 x) = some (.int .i64 x) := keyOf_int_mk Tryz.underlying3 h
theorem wf_wrap (t : Int) : (Lit.int .i64 (wrap64 t)).wf = true := by
  apply WalkArith.wf_i64
  unfold wrap64
  omega

/-- What named keeps. -/
structure NS (w0 : World) (w : World) (N : Nat) (get : Lit → Value) (ks : List Lit) (v : Value) (cs : List Int) : Prop where
  below : Below w0.heap.size w0 w
  kM : w.heap[w0.heap.size + 1]? = some (.cells #[.map (some w0.heap.size)] 98 (0, 0))
  kL : w.heap[w0.heap.size + 3]? = some (.cells #[v] 24 (0, 0))
  mp : Mp 3 w w0.heap.size get ks
  keys : ∀ k ∈ ks, get k = .bool true
  row : w.ownsRow (w0.heap.size + 2) 3 1 v cs.length (cs.map encI)
  nb : v.ownBlock ≠ some (w0.heap.size + 3)
  cnt : ks.length ≤ N
  len : cs.length ≤ ks.length

/-- Blocks of the caller's that stay. -/
def Gu (w0 w : World) (v : Value) (G : List (Nat × Obj)) : Prop := ∀ p ∈ G, w0.heap.size + 4 ≤ p.1 ∧ v.ownBlock ≠ some p.1 ∧ w.heap[p.1]? = some p.2
def NP (w0 : World) (w : World) (N : Nat) (G : List (Nat × Obj)) (M : Nat) : Prop := ∃ get ks v cs, NS w0 w N get ks v cs ∧ Gu w0 w v G ∧ M ≤ cs.length ∧ cs.length = ks.length
theorem Gu.move {w0 w w' : World} {v : Value} {G : List (Nat × Obj)} (h : Gu w0 w v G) (k : Below w.heap.size w w') : Gu w0 w' v G := fun p hp => ⟨(h p hp).1, (h p hp).2.1, (k.block _ (heap_lt (h p hp).2.2)).trans (h p hp).2.2⟩
theorem Gu.ext {w0 w w' : World} {v : Value} {G : List (Nat × Obj)} (h : Gu w0 w v G) (k : Ext w.heap.size (fun b => b = w0.heap.size) w w') : Gu w0 w' v G := fun p hp => ⟨(h p hp).1, (h p hp).2.1, (k.block _ (heap_lt (h p hp).2.2) (by have := (h p hp).1; omega)).trans (h p hp).2.2⟩
theorem Gu.cons {w0 w : World} {v : Value} {G : List (Nat × Obj)} (h : Gu w0 w v G) {T : Nat} {o : Obj} (h1 : w0.heap.size + 4 ≤ T) (h2 : v.ownBlock ≠ some T) (h3 : w.heap[T]? = some o) : Gu w0 w v ((T, o) :: G) := fun p hp => by
  rcases List.mem_cons.1 hp with e | e
  · subst e; exact ⟨h1, h2, h3⟩
  · exact h p e
theorem Gu.push {w0 w w1 w2 : World} {v v' : Value} {G : List (Nat × Obj)} (h : Gu w0 w v G) (hb : Below w.heap.size w w1) (hg : w1.grownBy w2 v.ownBlock) (ho : v'.ownBlock = v.ownBlock ∨ v'.ownBlock = some w1.heap.size) (u : Value) : Gu w0 (w2.setCell ⟨w0.heap.size + 3, 0, none⟩ u) v' G := fun p hp => by
  obtain ⟨h1, h2, h3⟩ := h p hp
  have l := heap_lt h3
  have s1 := hb.size
  refine ⟨h1, fun e => ?_, ?_⟩
  · rcases ho with o | o
    · exact h2 (o.symm.trans e)
    · have := Option.some.inj (o.symm.trans e); omega
  · have e1 : w2.heap[p.1]? = some p.2 := (hg.block p.1 (by omega) (fun e => h2 e.symm)).trans ((hb.block _ l).trans h3)
    have e2 : w0.heap.size + 3 ≠ p.1 := by omega
    simp [World.setCell, Array.getElem?_modify, e1, e2]
theorem NP.mono {w0 w : World} {N M L K : Nat} {G : List (Nat × Obj)} (h : NP w0 w N G L) (hN : N ≤ M) (hL : K ≤ L) : NP w0 w M G K := by
  obtain ⟨get, ks, v, cs, h, g⟩ := h
  exact ⟨get, ks, v, cs, ⟨h.below, h.kM, h.kL, h.mp, h.keys, h.row, h.nb, by have := h.cnt; omega, h.len⟩, g.1, by have := g.2.1; omega, g.2.2⟩
theorem NP.tail {w0 w : World} {N L : Nat} {G : List (Nat × Obj)} {p : Nat × Obj} (h : NP w0 w N (p :: G) L) : NP w0 w N G L := by
  obtain ⟨get, ks, v, cs, h, g⟩ := h
  exact ⟨get, ks, v, cs, h, fun q hq => g.1 q (List.mem_cons_of_mem _ hq), g.2⟩
theorem NP.box {w0 w : World} {N L : Nat} {G : List (Nat × Obj)} {T : Nat} {o : Obj} (h : NP w0 w N ((T, o) :: G) L) : w.heap[T]? = some o := by
  obtain ⟨get, ks, v, cs, h, g⟩ := h
  exact (g.1 (T, o) (by simp)).2.2
theorem NS.move {w0 w w' : World} {N : Nat} {get : Lit → Value} {ks : List Lit} {v : Value} {cs : List Int} (h : NS w0 w N get ks v cs) (k : Below w.heap.size w w') : NS w0 w' N get ks v cs :=
  ⟨h.below.trans (k.mono h.below.size), (k.block _ (heap_lt h.kM)).trans h.kM, (k.block _ (heap_lt h.kL)).trans h.kL, h.mp.ext (Ext.of_below k (fun _ => False)) h.mp.lt id, h.keys, ownsRow_ext h.row (Ext.of_below k (fun _ => False)) (fun _ _ => id), h.nb, h.cnt, h.len⟩
/-- A new block of the caller's. -/
theorem NP.alloc {w0 w : World} {N L : Nat} {G : List (Nat × Obj)} (h : NP w0 w N G L) (o : Obj) : NP w0 (w.alloc o) N ((w.heap.size, o) :: G) L := by
  obtain ⟨get, ks, v, cs, h, g⟩ := h
  have l := heap_lt h.kL
  exact ⟨get, ks, v, cs, h.move (alloc_below o), (g.1.move (alloc_below o)).cons (by omega) (fun e => by have := (ownsRow_block h.row e).2; omega) (heap_new _ _), g.2⟩

theorem NS.mark {w0 w : World} {N : Nat} {get : Lit → Value} {ks : List Lit} {v : Value} {cs : List Int} (h : NS w0 w N get ks v cs) (hN : N ≤ 1000000000000) {x : Int} (hx : (Lit.int .i64 x).wf = true) (hin : IK x ∉ ks) :
    ∃ w' get', (Instr.mapUpdate 98 (.map (some w0.heap.size)) (.int .i64 x) (.bool true)).run Tryz.prog w = .ok () w' ∧ NS w0 w' (N + 1) get' (IK x :: ks) v cs ∧ Ext w.heap.size (fun b => b = w0.heap.size) w w' := by
  have hc := h.cnt
  obtain ⟨w', get', r1, r2, r3, r4, r5⟩ := h.mp.store law_int Tryz.underlying98 (by unfold maxLen; omega) (key_intA x hx) trivial hin (.bool true)
  have kp : ∀ b, b < w.heap.size → b ≠ w0.heap.size → w'.heap[b]? = w.heap[b]? := fun b hb hn => r5.block b hb hn
  refine ⟨w', get', r1, ⟨h.below.trans (r5.below' h.below.size (fun k hk e => by omega)), (kp _ (heap_lt h.kM) (by omega)).trans h.kM, (kp _ (heap_lt h.kL) (by omega)).trans h.kL, r2, fun k hk => ?_, ownsRow_ext h.row r5 (fun g hg e => by have := (ownsRow_block h.row hg).1; omega), h.nb, by simp; omega, by simp; have := h.len; omega⟩, r5⟩
  rcases List.mem_cons.1 hk with e | hk
  · subst e; exact r3
  · exact (r4 k hk).trans (h.keys k hk)

theorem NS.push {w0 w w1 w2 : World} {N : Nat} {get : Lit → Value} {ks : List Lit} {v v' : Value} {cs : List Int} (h : NS w0 w N get ks v cs) (hb : Below w.heap.size w w1) {x : Int} (hlt : cs.length < ks.length)
    (hown : w2.ownsRow (w0.heap.size + 2) 3 1 v' (cs.length + 1) ((cs ++ [x]).map encI)) (hg : w1.grownBy w2 v.ownBlock) (ho : v'.ownBlock = v.ownBlock ∨ v'.ownBlock = some w1.heap.size) :
    NS w0 (w2.setCell ⟨w0.heap.size + 3, 0, none⟩ v') N get ks v' (cs ++ [x]) := by
  have l3 := heap_lt h.kL
  have l1 := heap_lt h.kM
  have lm := h.mp.lt
  have ob : ∀ q, v.ownBlock = some q → w0.heap.size + 2 ≤ q ∧ q ≠ w0.heap.size + 3 := fun q hq => ⟨(ownsRow_block h.row hq).1, fun e => h.nb (by rw [← e]; exact hq)⟩
  have e1 : Ext w.heap.size (fun b => v.ownBlock = some b) w w2 := ((Ext.of_below hb _)).grown hg hb.size (fun k e => Or.inr e)
  have e2 : Ext w.heap.size (fun b => v.ownBlock = some b ∨ b = w0.heap.size + 3) w (w2.setCell ⟨w0.heap.size + 3, 0, none⟩ v') := Ext.setCell (X := fun b => v.ownBlock = some b ∨ b = w0.heap.size + 3) (p := ⟨w0.heap.size + 3, 0, none⟩) (e1.mono (Nat.le_refl _) (fun i _ e => Or.inl e)) (Or.inr (Or.inr rfl)) _
  have nb' : v'.ownBlock ≠ some (w0.heap.size + 3) := fun e => by
    rcases ho with o | o
    · exact h.nb (o.symm.trans e)
    · have := Option.some.inj (o.symm.trans e); have := hb.size; omega
  have kp : ∀ b, b < w0.heap.size + 2 → (w2.setCell ⟨w0.heap.size + 3, 0, none⟩ v').heap[b]? = w.heap[b]? := fun b hb => e2.block b (by omega) (fun e => by
    rcases e with e | e
    · have := (ob b e).1; omega
    · omega)
  refine ⟨h.below.trans (e2.below' h.below.size (fun k hk e => by
    rcases e with e | e
    · have := (ob k e).1; omega
    · omega)), (kp _ (by omega)).trans h.kM, ?_, h.mp.ext e2 lm (fun e => by
    rcases e with e | e
    · have := (ob _ e).1; omega
    · omega), h.keys, ?_, nb', h.cnt, by simp; omega⟩
  · have hk : w2.heap[w0.heap.size + 3]? = w.heap[w0.heap.size + 3]? := e1.block _ l3 h.nb
    simp only [World.setCell, Array.getElem?_modify, hk, h.kL]
    simp
  · have e4 : Ext w2.heap.size (fun b => b = w0.heap.size + 3) w2 (w2.setCell ⟨w0.heap.size + 3, 0, none⟩ v') := Ext.setCell (X := fun b => b = w0.heap.size + 3) (p := ⟨w0.heap.size + 3, 0, none⟩) (Ext.refl _ _ _) (Or.inr rfl) _
    have := ownsRow_ext hown e4 (fun q hq e => nb' (by rw [hq, e]))
    simpa using this

theorem NS.pushed {w0 w1 w5 : World} {N : Nat} {G : List (Nat × Obj)} {get : Lit → Value} {ks : List Lit} {v v' : Value} {cs : List Int} {x : Int} {o : Obj} (h : NS w0 w1 N get ks v cs) (g : Gu w0 w1 v G) (hlt : cs.length < ks.length) (hown : w5.ownsRow (w0.heap.size + 2) 3 1 v' (cs.length + 1) (cs.map encI ++ [x].map encI)) (hg : (w1.alloc o).grownBy w5 v.ownBlock) (ho : v'.ownBlock = v.ownBlock ∨ v'.ownBlock = some (w1.alloc o).heap.size) :
    ∃ g cap, v' = .slice (some ⟨g, 0, none⟩) (cs.length + 1) cap ∧ w5.cell? ⟨w0.heap.size + 3, 0, none⟩ = some v ∧ w5.frozen? ⟨w0.heap.size + 3, 0, none⟩ = false ∧ Hid (NS w0 (w5.setCell ⟨w0.heap.size + 3, 0, none⟩ (.slice (some ⟨g, 0, none⟩) (cs.length + 1) cap)) N get ks (.slice (some ⟨g, 0, none⟩) (cs.length + 1) cap) (cs ++ [x]) ∧ Gu w0 (w5.setCell ⟨w0.heap.size + 3, 0, none⟩ (.slice (some ⟨g, 0, none⟩) (cs.length + 1) cap)) (.slice (some ⟨g, 0, none⟩) (cs.length + 1) cap) G) := by
  obtain ⟨g5, cap5, rfl⟩ := own_form hown
  have lL := heap_lt h.kL
  have hz5 := (hg.block (w0.heap.size + 3) (Nat.lt_of_lt_of_le lL (alloc_below _).size) (fun e => h.nb e.symm)).trans ((Deep.blk_alloc_lt w1 _ (w0.heap.size + 3) lL).trans h.kL)
  refine ⟨g5, cap5, rfl, ?_, ?_, h.push (alloc_below _) hlt (by rw [List.map_append]; exact hown) hg ho, g.push (alloc_below _) hg ho _⟩
  · rw [box_cell hz5 0]; rfl
  · simp [World.frozen?, hz5]

def APost (w0 : World) (N : Nat) (G : List (Nat × Obj)) (e : Ending) (w' : World) : Prop := e = .returned (.tuple #[]) ∧ NP w0 w' (N + 3) G 1

set_option maxHeartbeats 4000000 in
theorem add_walk {w0 w : World} {N L : Nat} {G : List (Nat × Obj)} (h : NP w0 w N G L) (hN : N ≤ 500000000000) {c : Int} (hc : (Lit.int .i64 c).wf = true) :
    Calls Tryz.prog 64 #[.int .i64 c, .pointer (some ⟨w0.heap.size + 1, 0, none⟩), .pointer (some ⟨w0.heap.size + 3, 0, none⟩)] w (APost w0 N G) := by
  obtain ⟨i0, hi0, hz0, hz1, hz2⟩ := info_parts info_int
  obtain ⟨p, ep⟩ : ∃ p, p = wrap64 (c - 1) := ⟨_, rfl⟩
  obtain ⟨q, eq⟩ : ∃ q, q = wrap64 (c + 1) := ⟨_, rfl⟩
  have Hw : Hid (∀ j, j < 3 → (Lit.int .i64 ([p, c, q].getD j 0)).wf = true) := fun j hj => by
    have : j = 0 ∨ j = 1 ∨ j = 2 := by omega
    rcases this with rfl | rfl | rfl
    · rw [ep]; exact wf_wrap _
    · exact hc
    · rw [eq]; exact wf_wrap _
  have Hp := hideIt ep
  have Hq := hideIt eq
  have hsz : w0.heap.size + 3 < w.heap.size := by obtain ⟨_, _, _, _, h, _, _⟩ := h; exact heap_lt h.kL
  have H0 := hideIt (h.alloc (.cells #[.int .i64 p, .int .i64 c, .int .i64 q] 3))
  clear h hc ep eq
  go_enter Tryz.func64, Tryz.ntmps64
  go_wp2_with fail
  rw [← Hp.out, ← Hq.out]
  generalize w.alloc (.cells #[.int .i64 p, .int .i64 c, .int .i64 q] 3) = wA at *
  go_loopw [13] (fun i wr => ∃ (k : Nat), k ≤ 3 ∧ i = .int .i64 k ∧ NP w0 wr (N + k) ((w.heap.size, .cells #[.int .i64 p, .int .i64 c, .int .i64 q] 3) :: G) (min k 1)) (fun i _ => 3 - (intOf i).toNat)
  case atStart => exact ⟨0, by omega, rfl, H0.out.mono (by omega) (by omega)⟩
  case round =>
    obtain ⟨k, hk, rfl, hNP⟩ := hrel
    by_cases hlt : k < 3
    · have hlt' : (k : Int) < 3 := by omega
      have hbx := hNP.box
      obtain ⟨get, ks, v, cs, hS, hGu, hM1, hM2⟩ := hNP
      have HM2 := hideIt hM2
      clear hM1 hM2
      have cu : wr.cell? ⟨w.heap.size, k, none⟩ = some (.int .i64 ([p, c, q].getD k 0)) := by
        rw [box_cell hbx]
        have : k = 0 ∨ k = 1 ∨ k = 2 := by omega
        rcases this with rfl | rfl | rfl <;> rfl
      have hwf := Hw.out k hlt
      generalize [p, c, q].getD k 0 = x at *
      have cM := box_cell hS.kM 0
      simp only [List.getElem?_toArray, List.getElem?_cons_zero] at cM
      have hkey := key_intA x hwf
      have HGu := hideIt hGu
      by_cases hin : IK x ∈ ks
      · have hl := hS.mp.hit0 law_int Tryz.underlying98 (zero_bool wr) hkey hin
        have eg : get (Lit.int .i64 x) = .bool true := hS.keys _ hin
        rw [eg] at hl
        have HS : Hid (NS w0 wr (N + (k + 1)) get ks v cs) := ⟨hS.below, hS.kM, hS.kL, hS.mp, hS.keys, hS.row, hS.nb, by have := hS.cnt; omega, hS.len⟩
        have hpos : 1 ≤ cs.length := by have := List.length_pos_of_mem hin; have := HM2.out; omega
        clear hS hbx eg hkey hwf hGu
        go_wp2_with fail
        go_roundw
        case rel => exact ⟨k + 1, by omega, by go_num, _, _, _, _, HS.out, HGu.out, by omega, HM2.out⟩
        case measure => simp [intOf]; omega
      · have hl := hS.mp.miss0 law_int Tryz.underlying98 (zero_bool wr) hkey hin
        obtain ⟨w1, get1, hput, hS1, hx1⟩ := hS.mark (by omega) hwf hin
        have cL1 := box_cell hS1.kL 0
        have cM1 := box_cell hS1.kM 0
        simp only [List.getElem?_toArray, List.getElem?_cons_zero] at cL1 cM1
        have HGu1 := hideIt (hGu.ext hx1)
        have HS1 := hideIt hS1
        have hcs : cs.length ≤ 1000000000000 := by have := hS.len; have := hS.cnt; omega
        have Hlt : Hid (cs.length < (IK x :: ks).length) := by have := hS.len; show _ < _; simp; omega
        have lL := heap_lt hS1.kL
        have HkL := hideIt hS1.kL
        clear hS hS1 hbx hkey hwf hx1 hGu
        go_wp2_with (at_builtin; refine wpList_append_own_at _ rfl (.tmp 23) (.tmp 25) 24 rfl (w0.heap.size + 2) 3 i0 (.int .i64 0) 1 8 Tryz.underlying24 hi0 hz0 hz1 hz2 rfl (by decide) _ _ _ rfl (HS1.out.row.alloc _) ⟨w1.heap.size, 0, none⟩ 1 1 ([x].map encI) rfl rfl (World.news_of_block (cs := #[.int .i64 x]) (t := 3) (fr := (0, 0)) (heap_new _ _)) (one_ints _) (by unfold maxLen; omega) (by omega) (by have := (alloc_below (w := w1) (.cells #[.int .i64 x] 3)).size; omega) ?_; intro v' w5 hown5 hgrow5 _ hloc5; obtain ⟨g5, cap5, rfl, cz5, fz5, HS5⟩ := HS1.out.pushed HGu1.out Hlt.out hown5 hgrow5 hloc5; clear hown5 hgrow5 hloc5)
        go_roundw
        case rel => exact ⟨k + 1, by omega, by go_num, _, _, _, _, HS5.out.1, HS5.out.2, by rw [List.length_append]; simp only [List.length_cons, List.length_nil]; omega, by rw [List.length_append, HM2.out]; rfl⟩
        case measure => simp [intOf]; omega
    · obtain rfl : k = 3 := by omega
      have HN := hideIt hNP.tail
      clear hNP
      go_wp2_with fail
      go_end0
      exact ⟨rfl, HN.out⟩

/-- What named hands back. -/
def NmPost (w : World) (e : Ending) (w' : World) : Prop := ∃ v cs, e = .returned v ∧ Ints (fun b => b < w.heap.size) w' v cs ∧ Nz v ∧ 1 ≤ cs.length ∧ cs.length ≤ 100000000000 ∧ Below w.heap.size w w'

def nw0 (w : World) : World := (((w.alloc (.map #[] 0)).alloc (.cells #[.map (some w.heap.size)] 98)).alloc (.cells #[] 3)).alloc (.cells #[.slice (some ⟨w.heap.size + 1 + 1, 0, none⟩) 0 0] 24)
theorem ns_start (w : World) : NP w (nw0 w) 0 [] 0 := by
  have s1 : ∀ (W : World) (o : Obj), (W.alloc o).heap.size = W.heap.size + 1 := Deep.nblk_alloc
  have lt : ∀ (W : World) (o : Obj) (b : Nat) (q : Obj), W.heap[b]? = some q → (W.alloc o).heap[b]? = some q := fun W o b q h => (Deep.blk_alloc_lt W o b (heap_lt h)).trans h
  unfold nw0
  refine ⟨fun _ => .bool true, [], _, [], ⟨?_, ?_, ?_, ?_, fun k hk => absurd hk (by simp), ⟨by simp, Or.inr ⟨w.heap.size + 2, 0, #[], rfl, by omega, ?_, by simp, by simp [maxLen], by simp, by simp⟩⟩, ?_, by simp, by simp⟩, fun p hp => absurd hp (by simp), by simp, rfl⟩
  · exact (((alloc_below _).trans ((alloc_below _).mono (by rw [s1]; omega))).trans ((alloc_below _).mono (by rw [s1, s1]; omega))).trans ((alloc_below _).mono (by rw [s1, s1, s1]; omega))
  · exact lt _ _ _ _ (lt _ _ _ _ (new_at _ _ (s1 _ _)))
  · exact new_at _ _ (by rw [s1, s1, s1])
  · have m := Mp.made 3 w (fun _ => .bool true)
    have m1 := m.ext (Ext.of_below (alloc_below (.cells #[.map (some w.heap.size)] 98)) (fun _ => False)) m.lt id
    have m2 := m1.ext (Ext.of_below (alloc_below (.cells #[] 3)) (fun _ => False)) m1.lt id
    exact m2.ext (Ext.of_below (alloc_below _) (fun _ => False)) m2.lt id
  · exact lt _ _ _ _ (new_at _ _ (by rw [s1, s1]))
  · intro e
    have : w.heap.size + 1 + 1 = w.heap.size + 3 := Option.some.inj e
    omega

set_option maxHeartbeats 4000000 in
theorem named_walk (w : World) (a0 : Option Addr) (b off n cap : Nat) (f : Nat → OpV) (hn : n ≤ 65536) (ha : 0 < n → a0 = some ⟨b, off, none⟩) (hf : ∀ i, i < n → OpAt w b (off + i * 7) (f i)) (hs : ∀ i, i < n → (f i).wd.length ≤ 65536 ∧ (f i).pd.length ≤ 65536) :
    Calls Tryz.prog 11 #[.slice a0 n cap] w (NmPost w) := by
  have HF : Hid (∀ i, i < n → OpAt w b (off + i * 7) (f i)) := hf
  have HA : Hid (0 < n → a0 = some ⟨b, off, none⟩) := ha
  have HS : Hid (∀ i, i < n → (f i).wd.length ≤ 65536 ∧ (f i).pd.length ≤ 65536) := hs
  have H0 := hideIt (ns_start w)
  have hmm := @run_makeMap Tryz.prog
  have Hw0 : Hid ((Lit.int .i64 0).wf = true) := (by decide : (Lit.int .i64 0).wf = true)
  have Hw1 : Hid ((Lit.int .i64 196607).wf = true) := (by decide : (Lit.int .i64 196607).wf = true)
  clear hf ha hs
  go_enter Tryz.func11, Tryz.ntmps11
  go_wp2_with fail
  go_at_call 64
  refine (add_walk (w := nw0 w) H0.out (by omega) Hw0.out).mono ?_
  rintro e w1 ⟨rfl, h1⟩
  have H1 := hideIt h1
  clear h1
  go_wp2_with fail
  go_at_call 64
  refine (add_walk H1.out (by omega) Hw1.out).mono ?_
  rintro e w2 ⟨rfl, h2⟩
  have H2 := hideIt h2
  clear h2
  go_wp2_with fail
  go_loopw [21] (fun i wr => ∃ (k : Nat), k ≤ n ∧ i = .int .i64 k ∧ NP w wr (6 + k * 400000) [] 1) (fun i _ => n - (intOf i).toNat)
  case atStart => exact ⟨0, by omega, rfl, H2.out⟩
  case round =>
    obtain ⟨k, hk, rfl, hN⟩ := hrel
    by_cases hlt : k < n
    · have hlt' : (k : Int) < (n : Int) := by omega
      obtain rfl := HA.out (by omega)
      have hB : Below w.heap.size w wr := by obtain ⟨_, _, _, _, h, _, _⟩ := hN; exact h.below
      have hO0 := HF.out k hlt
      have hO := hO0.below hB (Nat.le_refl _)
      obtain ⟨z4, z5⟩ := HS.out k hlt
      generalize f k = o at hO hO0 z4 z5
      have c0 := hO.c0
      have c1 := hO.c1
      have c2 := hO.c2
      have c3 := hO.c3
      have c4 := hO.c4
      have c5 := hO.c5
      have c6 := hO.c6
      have Hwi' := hideIt hO0.wi
      have Hpi' := hideIt hO0.pi
      have Hwf := hideIt hO.wf
      obtain ⟨kd, oa, ob, oc, od, wa, wc, wd, pa, pc, pd⟩ := o
      simp only at c0 c1 c2 c3 c4 c5 c6 z4 z5
      have Hfa : Hid ((Lit.int .i64 oa).wf = true) := Hwf.out oa (by simp)
      have Hfb : Hid ((Lit.int .i64 ob).wf = true) := Hwf.out ob (by simp)
      have Hfc : Hid ((Lit.int .i64 oc).wf = true) := Hwf.out oc (by simp)
      have Hfw : Hid (∀ x ∈ wd, (Lit.int .i64 x).wf = true) := fun x hx => Hwf.out x (by simp [hx])
      have Hfp : Hid (∀ x ∈ pd, (Lit.int .i64 x).wf = true) := fun x hx => Hwf.out x (by simp [hx])
      have HB := hideIt hB
      have lw := hB.size
      have H3 := hideIt (hN.alloc (.cells #[.int .i64 kd, .int .i64 oa, .int .i64 ob, .int .i64 oc, .slice wa wd.length wc, .slice pa pd.length pc, .int .i64 od] 31))
      have hlw : wr.heap.size < (wr.alloc (.cells #[.int .i64 kd, .int .i64 oa, .int .i64 ob, .int .i64 oc, .slice wa wd.length wc, .slice pa pd.length pc, .int .i64 od] 31)).heap.size := by rw [Deep.nblk_alloc]; omega
      clear hN hO hO0 hB
      go_wp2_with fail
      generalize wr.alloc (.cells #[.int .i64 kd, .int .i64 oa, .int .i64 ob, .int .i64 oc, .slice wa wd.length wc, .slice pa pd.length pc, .int .i64 od] 31) = w3 at *
      clear HB
      generalize hT : wr.heap.size = T at *
      clear hT c0 c1 c2 c3 c4 c5 c6
      have b3 := H3.out.box
      have d1 := box_cell b3 1
      simp only [List.getElem?_toArray, List.getElem?_cons_zero, List.getElem?_cons_succ] at d1
      clear b3
      go_at_call 64
      refine (add_walk H3.out (by omega) Hfa.out).mono ?_
      rintro e w4 ⟨rfl, hw4⟩
      have Hw4 := hideIt hw4
      have bw4 := hw4.box
      have dw42 := box_cell bw4 2
      simp only [List.getElem?_toArray, List.getElem?_cons_zero, List.getElem?_cons_succ] at dw42
      clear hw4 bw4
      go_wp2_with fail
      go_at_call 64
      refine (add_walk Hw4.out (by omega) Hfb.out).mono ?_
      rintro e w5 ⟨rfl, hw5⟩
      have Hw5 := hideIt hw5
      have bw5 := hw5.box
      have dw53 := box_cell bw5 3
      simp only [List.getElem?_toArray, List.getElem?_cons_zero, List.getElem?_cons_succ] at dw53
      clear hw5 bw5
      go_wp2_with fail
      go_at_call 64
      refine (add_walk Hw5.out (by omega) Hfc.out).mono ?_
      rintro e w6 ⟨rfl, hw6⟩
      have Hw6 := hideIt hw6
      have bw6 := hw6.box
      have dw64 := box_cell bw6 4
      simp only [List.getElem?_toArray, List.getElem?_cons_zero, List.getElem?_cons_succ] at dw64
      clear hw6 bw6
      go_wp2_with fail
      go_loopw [40] (fun i wq => ∃ (j : Nat), j ≤ wd.length ∧ i = .int .i64 j ∧ NP w wq ((6 + k * 400000 + 9) + j * 3) [(T, .cells #[.int .i64 kd, .int .i64 oa, .int .i64 ob, .int .i64 oc, .slice wa wd.length wc, .slice pa pd.length pc, .int .i64 od] 31)] 1) (fun i _ => wd.length - (intOf i).toNat)
      case atStart => exact ⟨0, by omega, rfl, Hw6.out.mono (by omega) (Nat.le_refl _)⟩
      case round =>
        obtain ⟨j, hj, rfl, hNj⟩ := hrel
        by_cases hlj : j < wd.length
        · have hlj' : (j : Int) < (wd.length : Int) := by omega
          have hBj : Below w.heap.size w wr := by obtain ⟨_, _, _, _, h, _, _⟩ := hNj; exact h.below
          obtain ⟨ad, cap', e, _, _, h3⟩ := Hwi'.out.below hBj (Nat.le_refl _)
          cases e
          obtain ⟨g, o, rfl, _, hc⟩ := h3 (fun e => by rw [e] at hlj; cases hlj)
          have cu := hc j hlj
          have Hfx := hideIt (Hfw.out _ (List.getElem_mem hlj))
          generalize wd[j] = x at *
          have HNj := hideIt hNj
          clear hNj h3 hc hBj
          go_wp2_with (go_at_call 64; refine (add_walk HNj.out (by omega) Hfx.out).mono ?_; rintro e w9 ⟨rfl, h9⟩; have H9 := hideIt h9; clear h9)
          go_roundw
          case rel => exact ⟨j + 1, by omega, by go_num, H9.out.mono (by omega) (Nat.le_refl _)⟩
          case measure => simp [intOf]; omega
        · obtain rfl : j = wd.length := by omega
          have bp := hNj.box
          have dp5 := box_cell bp 5
          simp only [List.getElem?_toArray, List.getElem?_cons_zero, List.getElem?_cons_succ] at dp5
          have HNp := hideIt hNj
          clear hNj bp
          go_wp2_with fail
          go_loopw [51] (fun i wq => ∃ (j : Nat), j ≤ pd.length ∧ i = .int .i64 j ∧ NP w wq ((6 + k * 400000 + 9 + wd.length * 3) + j * 3) [(T, .cells #[.int .i64 kd, .int .i64 oa, .int .i64 ob, .int .i64 oc, .slice wa wd.length wc, .slice pa pd.length pc, .int .i64 od] 31)] 1) (fun i _ => pd.length - (intOf i).toNat)
          case atStart => exact ⟨0, by omega, rfl, HNp.out.mono (by omega) (Nat.le_refl _)⟩
          case round =>
            obtain ⟨j, hj, rfl, hNj⟩ := hrel
            by_cases hlj : j < pd.length
            · have hlj' : (j : Int) < (pd.length : Int) := by omega
              have hBj : Below w.heap.size w wr := by obtain ⟨_, _, _, _, h, _, _⟩ := hNj; exact h.below
              obtain ⟨ad, cap', e, _, _, h3⟩ := Hpi'.out.below hBj (Nat.le_refl _)
              cases e
              obtain ⟨g, o, rfl, _, hc⟩ := h3 (fun e => by rw [e] at hlj; cases hlj)
              have cu := hc j hlj
              have Hfx := hideIt (Hfp.out _ (List.getElem_mem hlj))
              generalize pd[j] = x at *
              have HNj := hideIt hNj
              clear hNj h3 hc hBj
              go_wp2_with (go_at_call 64; refine (add_walk HNj.out (by omega) Hfx.out).mono ?_; rintro e w9 ⟨rfl, h9⟩; have H9 := hideIt h9; clear h9)
              go_roundw
              case rel => exact ⟨j + 1, by omega, by go_num, H9.out.mono (by omega) (Nat.le_refl _)⟩
              case measure => simp [intOf]; omega
            · obtain rfl : j = pd.length := by omega
              have HNq := hideIt hNj.tail
              clear hNj
              go_wp2_with fail
              go_roundw
              case rel => exact ⟨k + 1, by omega, by go_num, HNq.out.mono (by omega) (Nat.le_refl _)⟩
              case measure => simp [intOf]; omega
    · obtain rfl : k = n := by omega
      obtain ⟨get, ks, v, cs, hS, _, hp1, _⟩ := hN
      have cL := box_cell hS.kL 0
      simp only [List.getElem?_toArray, List.getElem?_cons_zero] at cL
      have hI := own_intsT hS.row
      have HI := hideIt (hI.1.more (Y := fun b => b < w.heap.size) (fun b _ x => by show b < _; omega))
      have HZ := hideIt hI.2
      have HB := hideIt hS.below
      have hcs : cs.length ≤ 100000000000 := by have := hS.len; have := hS.cnt; omega
      clear hS hI
      go_wp2_with fail
      go_ret
      exact ⟨v, cs, rfl, HI.out, HZ.out, hp1, hcs, HB.out⟩
end Go.Proofs.Qxb6500848aGreatDoor
