/-
  The abstract model: new objects, plainly.
-/
import Derived.Test.Qxb6500847aGreatDoorMdX
import Derived.Test.Qxb6500847aGreatDoorMdO
namespace Go.Proofs.Qxb6500847aGreatDoor.Os
open Go.RowKit FloorA
set_option maxRecDepth 100000
theorem mk34 : (Tryz.prog.info? 34).map (fun i => (i.zero, i.bytes, i.size)) = some (some (.int .u64 0), 8, 1) := by kernel_rfl
/-- make([]uint64, n). -/
theorem make_words (n : Nat) (hn : n ≤ 1000) : ∃ cs : Array Value, cs.size = n ∧ (∀ f, f < n → cs[f]? = some (.int .u64 0)) ∧ ∀ w : World, (Instr.makeSlice 35 (.int .i64 (n : Int)) (.int .i64 (n : Int))).run Tryz.prog w = .ok (.slice (some ⟨w.heap.size, 0, none⟩) n n) (w.alloc (.cells cs 34)) := by
  obtain ⟨i, hi1, hi2⟩ := Option.map_eq_some_iff.1 mk34
  simp only [Prod.mk.injEq] at hi2
  obtain ⟨hz, hb, hs⟩ := hi2
  refine ⟨madeCells (Value.int .u64 0).cells n, size_madeCells _ _, fun f hf => ?_, fun w => ?_⟩
  · unfold madeCells
    have h1 : (Value.int .u64 0).cells = #[.int .u64 0] := rfl
    rw [h1]
    simp [hf, Nat.mod_one]
  · have hm : (i.bytes : Int) * (n : Int) ≤ 281474976710656 := by rw [hb]; omega
    have := run_make (P := Tryz.prog) w 35 34 i (.int .u64 0) Tryz.underlying35 hi1 hz .i64 .i64 n n (by omega) (Int.le_refl _) hm (by omega)
    rw [hs] at this
    simpa using this
theorem zw_len (t : Nat) (h1 : 1 ≤ t) (h7 : t ≤ 7) : ((zw t).length : Int) = fldT t := by
  unfold zw
  by_cases q : t < 2
  · rw [if_pos q, show t = 1 by omega]
    rfl
  · rw [if_neg q, wlist_len, fld_nF (by omega) h7]
theorem zw_get {t f : Nat} (h : f < (zw t).length) : (zw t)[f]? = some 0 := by
  unfold zw at h ⊢
  by_cases q : t < 2
  · rw [if_pos q] at h; exact absurd h (by simp)
  · rw [if_neg q] at h ⊢
    unfold wlist at h ⊢
    rw [List.length_map, List.length_range] at h
    simp [h]
theorem grw_gen (p t z : Nat) : ∀ (l : List Nat) (M : Nat → En) (st x : Nat), (grw p t z M st l x).gen = (M x).gen
  | [], _, _, _ => rfl
  | d :: l, M, st, x => by
    show (grw p t z (updM M d _) (st + z) l x).gen = _
    rw [grw_gen p t z l]
    unfold updM
    by_cases q : x = d
    · rw [if_pos q, q]
    · rw [if_neg q]
theorem UOwn.at {base : Nat} {w : World} {v : Value} {l : List Int} (h : UOwn base w v l) (hn : 0 < l.length) : ∃ g c, v = .slice (some ⟨g, 0, none⟩) l.length c ∧ base ≤ g ∧ g < w.heap.size ∧ ∀ (j : Nat) (x : Int), l[j]? = some x → w.cell? ⟨g, j, none⟩ = some (.int .u64 x) := by
  rcases h.2 with ⟨_, e⟩ | ⟨g, c, cur, e1, e2, e3, _⟩
  · omega
  · refine ⟨g, c, e1, e2, heap_lt e3, fun j x hx => ?_⟩
    have := World.ownsRow.cells h (g := g) (by rw [e1]; rfl) j (.int .u64 x) (by rw [List.getElem?_map, hx]; rfl)
    have ad0 : (⟨g, 0, none⟩ : Addr).add j = ⟨g, j, none⟩ := by unfold Addr.add; by_cases e : j = 0 <;> simp [e]
    rwa [ad0] at this
theorem plL_get {st z k j : Nat} (h : j < k) : (plL st z k)[j]? = some ((st + j * z : Nat) : Int) := by
  unfold plL
  rw [List.getElem?_map, List.getElem?_range h]
  rfl
theorem retX_bad {M : Nat → En} {i t bt k : Nat} {g : Int} (h : mrM M i g t bt k ≠ 0) : retX M i g t bt k = (bad (mrM M i g t bt k), M) := by
  unfold mrM at h ⊢
  unfold retX
  by_cases h1 : plM M i g t bt ≠ 0
  · rw [if_pos h1, if_pos h1]
  · rw [if_neg h1] at h
    rw [if_neg h1, if_neg h1]
    by_cases h2 : k < 1 ∨ 32 < k
    · rw [if_pos h2, if_pos h2]
    · rw [if_neg h2] at h
      rw [if_neg h2, if_neg h2]
      by_cases h3 : spM M i t bt < k
      · rw [if_pos h3, if_pos h3]
      · rw [if_neg h3] at h
        rw [if_neg h3, if_neg h3]
        by_cases h4 : (spr M (loT t) (hiT t)).length < k
        · rw [if_pos h4, if_pos h4]
        · rw [if_neg h4] at h
          rw [if_neg h4, if_neg h4]
          by_cases h5 : rmM M t < (k : Int)
          · rw [if_pos h5, if_pos h5]
          · rw [if_neg h5] at h
            exact absurd rfl h
theorem mrM_facts {M : Nat → En} {i t bt k : Nat} {g : Int} (h : mrM M i g t bt k = 0) : plM M i g t bt = 0 ∧ 1 ≤ k ∧ k ≤ 32 ∧ k ≤ spM M i t bt ∧ k ≤ (spr M (loT t) (hiT t)).length ∧ ¬ rmM M t < (k : Int) := by
  unfold mrM at h
  by_cases h1 : plM M i g t bt ≠ 0
  · rw [if_pos h1] at h; exact absurd h h1
  rw [if_neg h1] at h
  by_cases h2 : k < 1 ∨ 32 < k
  · rw [if_pos h2] at h; omega
  rw [if_neg h2] at h
  by_cases h3 : spM M i t bt < k
  · rw [if_pos h3] at h; omega
  rw [if_neg h3] at h
  by_cases h4 : (spr M (loT t) (hiT t)).length < k
  · rw [if_pos h4] at h; omega
  rw [if_neg h4] at h
  by_cases h5 : rmM M t < (k : Int)
  · rw [if_pos h5] at h; omega
  exact ⟨by simpa using h1, by omega, by omega, by omega, by omega, h5⟩
theorem retX_good {M : Nat → En} {i t bt k : Nat} {g : Int} (h : mrM M i g t bt k = 0) : retX M i g t bt k = (⟨0, ((spr M (loT t) (hiT t)).take k).map (rfM M), []⟩, grw i t (2 ^ szQ t bt) M (stM M i t bt) ((spr M (loT t) (hiT t)).take k)) := by
  obtain ⟨h1, h2, h3, h4, h5, h6⟩ := mrM_facts h
  unfold retX
  rw [if_neg (by rw [h1]; simp), if_neg (by omega), if_neg (by omega), if_neg (by omega), if_neg h6]
  rfl
theorem spr_mem {M : Nat → En} {lo hi c : Nat} (h : c ∈ spr M lo hi) : c < hi ∧ lo ≤ c ∧ (M c).typ = 0 ∧ (M c).gen < 4294967295 := by
  unfold spr at h
  obtain ⟨h1, h2⟩ := List.mem_filter.1 h
  exact ⟨List.mem_range.1 h1, by simpa using h2⟩
theorem hiT_le (t : Nat) : hiT t ≤ 320 := by unfold hiT; split <;> omega
section
variable {w w' : World} {B : Nat} {wb : Nat → Nat} {M : Nat → En}
theorem fz_new {W : World} {q T : Nat} {cs : Array Value} (h : W.heap[q]? = some (.cells cs T (0, 0))) (o : Nat) : W.frozen? ⟨q, o, none⟩ = false := by simp [World.frozen?, h]
/-- A new object is written. -/
theorem Md.newW (h : Md w B wb M) {c : Nat} (hc : c < 320) {cs : Array Value} {t n : Nat} (hcs : cs.size = n) (h0 : ∀ f, f < n → cs[f]? = some (.int .u64 0)) (hn : (zw t).length = n) (hn1 : n ≤ 1000) (g b z p : Int) :
    Md ((w.alloc (.cells cs 34)).setCells B (c * 6) (ent6 ⟨g, (t : Int), b, z, p, zw t⟩ (.slice (some ⟨w.heap.size, 0, none⟩) n n))) B (fun x => if x = c then w.heap.size else wb x) (updM M c ⟨g, (t : Int), b, z, p, zw t⟩) := by
  have hm := h.below (alloc_below (w := w) (.cells cs 34))
  refine hm.put hc ⟨g, (t : Int), b, z, p, zw t⟩ _ (fun j hj => if_neg hj) ?_ (fun _ => by show (if c = c then w.heap.size else wb c) ≠ B; rw [if_pos rfl]; have := h.lt; omega) (fun _ j hj _ hw => by show wb j ≠ (if c = c then w.heap.size else wb c); rw [if_pos rfl]; have := h.wlt hj hw; omega)
  show WdV _ (if c = c then w.heap.size else wb c) (zw t) _
  rw [if_pos rfl]
  by_cases q : zw t = []
  · have : n = 0 := by rw [← hn, q]; rfl
    exact Or.inl ⟨q, _, _, by rw [this]⟩
  · have hnew : (w.alloc (.cells cs 34)).heap[w.heap.size]? = some (.cells cs 34 (0, 0)) := heap_new _ _
    refine Or.inr ⟨q, n, by rw [hn], by omega, by unfold maxLen; omega, fun j x hx => ?_, fun o => fz_new hnew o⟩
    rw [List.getElem?_map] at hx
    obtain ⟨y, hy, rfl⟩ := Option.map_eq_some_iff.1 hx
    have hj : j < (zw t).length := (List.getElem?_eq_some_iff.1 hy).1
    rw [zw_get hj] at hy
    obtain rfl := Option.some.inj hy
    rw [Nat.zero_add, cell_of_row _ _ _ _ _ _ hnew]
    exact h0 j (by omega)
theorem newW_tm {c : Nat} {e : En} {H : Nat} {b : Nat} (h : Tm B (fun x => if x = c then H else wb x) (updM M c e) b) : Tm B wb M b ∨ b = H := by
  rcases h with h | ⟨j, hj, hw, rfl⟩
  · exact Or.inl (Or.inl h)
  · unfold updM at hw
    by_cases q : j = c
    · exact Or.inr (if_pos q)
    · rw [if_neg q] at hw
      exact Or.inl (Or.inr ⟨j, hj, hw, if_neg q⟩)
theorem Grown.ext {a b : World} {r : Option Nat} (hg : a.grownBy b r) : Ext a.heap.size (fun k => r = some k) a b := ⟨hg.os, hg.tape, hg.output, hg.size, fun k hk hx => hg.block k hk (fun e => hx e.symm)⟩
/-- One object more, and its reference is listed. -/
theorem rt_next {W wr w6 w7 w8 : World} {c : Nat} {wq : Nat → Nat} {M1 : Nat → En} {e : En} {u v' : Value} {o : Obj} (hm6 : Md w6 B (fun x => if x = c then wr.heap.size else wq x) (updM M1 c e)) (he6 : Ext W.heap.size (fun b => b = B) W w6) (hsz : W.heap.size ≤ wr.heap.size) (hb7 : Below w6.heap.size w6 w7) (hg : (w7.alloc o).grownBy w8 u.ownBlock) (hh : v'.ownBlock = u.ownBlock ∨ v'.ownBlock = some (w7.alloc o).heap.size) (hu : ∀ b, u.ownBlock = some b → W.heap.size ≤ b ∧ b < wr.heap.size) (hrb : ∀ b, u.ownBlock = some b → ¬ Tm B wq M1 b) (htm : ∀ b, Tm B wq M1 b → Tm B wb M b ∨ W.heap.size ≤ b) :
    Md w8 B (fun x => if x = c then wr.heap.size else wq x) (updM M1 c e) ∧ Ext W.heap.size (fun b => b = B) W w8 ∧ (∀ b, Tm B (fun x => if x = c then wr.heap.size else wq x) (updM M1 c e) b → Tm B wb M b ∨ W.heap.size ≤ b) ∧ (∀ b, v'.ownBlock = some b → ¬ Tm B (fun x => if x = c then wr.heap.size else wq x) (updM M1 c e) b) := by
  have hm7 := (hm6.below hb7).below (alloc_below (w := w7) o)
  have key : ∀ b, Tm B (fun x => if x = c then wr.heap.size else wq x) (updM M1 c e) b → ¬ u.ownBlock = some b := fun b hb q => by
    rcases newW_tm hb with h | h
    · exact hrb b q h
    · have := (hu b q).2
      omega
  refine ⟨hm7.ext (Grown.ext hg) key, ?_, fun b hb => ?_, fun b hb q => ?_⟩
  · have e7 : Ext W.heap.size (fun b => b = B) W (w7.alloc o) := (he6.andThen hb7 he6.size).andThen (alloc_below _) (Nat.le_trans he6.size hb7.size)
    exact e7.trans (Grown.ext hg) e7.size (fun i hi q => by have := (hu i q).1; omega)
  · rcases newW_tm hb with h | h
    · exact htm b h
    · exact Or.inr (by omega)
  · rcases hh with h | h
    · exact key b q (h ▸ hb)
    · have h1 := hm6.tlt q
      rw [h] at hb
      have h2 := Option.some.inj hb
      have h3 : (w7.alloc o).heap.size = w7.heap.size + 1 := by simp
      have := hb7.size
      omega
end
end Go.Proofs.Qxb6500847aGreatDoor.Os
