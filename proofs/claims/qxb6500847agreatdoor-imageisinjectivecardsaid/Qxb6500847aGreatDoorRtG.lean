/-
  RetypeKeepsIntervalsDisjoint: what the law asks the arena.
-/
import Derived.Test.Qxb6500847aGreatDoorRtF
import Derived.Test.Qxb6500847aGreatDoorRtD
import Derived.Test.Qxb6500847aGreatDoorObJ
import Derived.Test.Qxb6500847aGreatDoorOxRl
import Derived.Test.Qxb6500847aGreatDoorOxSt
import Derived.Test.Qxb6500847aGreatDoorDfGb
namespace Go.Proofs.Qxb6500847aGreatDoor.Os
open Go.RowKit FloorA
set_option maxRecDepth 100000
section
variable {w0 w w' : World} {D : Nat → Nat → Prop} {Z : Nat → Prop} {P B : Nat} {M N : Nat → En}
theorem SdM.snd (h : SdM M) : ∃ im, Snd M im := by
  obtain ⟨s, tl, ws, L, n, hS, ho⟩ := h
  exact ⟨_, s, tl, ws, L, n, hS.iv, hS.ix, hS.wr, ho, rfl⟩
theorem SdM.geo (h : SdM M) : Geo2 M := by
  obtain ⟨s, tl, ws, L, n, hS, rfl⟩ := h
  exact hS.geo2
theorem SdM.room (h : SdM M) {i t bt k : Nat} {g : Int} (hc : (retX M i g t bt k).1.code = 0) : szC t bt = 0 ∧ k ≤ (spr M (loT t) (hiT t)).length ∧ ∃ F : Nat, (M i).bas + (M i).siz - topM M i = (F : Int) ∧ F ≤ 281474976710656 ∧ k ≤ F / 2 ^ szQ t bt := by
  obtain ⟨s, tl, ws, L, n, hS, rfl⟩ := h
  obtain ⟨h1, _, h2, h3⟩ := ret_room hS hc
  exact ⟨h1, h2, h3⟩
/-- What Stats answers: the fields 3 and 4. -/
def StG (M : Nat → En) (w : World) (e : Ending) (w' : World) : Prop := ∃ (o a b c d : Int) (l : Nat → Int) (p q : Int), e = .returned (.agg (st17 o a b ((spr M 0 256).length : Int) ((spr M 256 320).length : Int) c d l p q).toArray) ∧ Below w.heap.size w w'
/-- The room that Region says. -/
theorem SdM.free (h : SdM M) {i : Nat} {g : Int} {R : List (Nat × Int)} {b z a f d : Int} (hX : regX M i g = ⟨0, R, [b, z, a, f, d]⟩) : ∃ F : Nat, f = (F : Int) ∧ F ≤ 281474976710656 ∧ (M i).bas + (M i).siz - topM M i = (F : Int) := by
  obtain ⟨s, tl, ws, L, n, hS, rfl⟩ := h
  unfold regX at hX
  by_cases hc : chkR (ob s ws) i g ≠ 0
  · rw [if_pos hc] at hX
    have e : chkR (ob s ws) i g = 0 := congrArg Rs.code hX
    exact absurd e hc
  · rw [if_neg hc] at hX
    have hv := congrArg Rs.vals hX
    injection hv with _ hv
    injection hv with _ hv
    injection hv with _ hv
    injection hv with hf _
    have hl : Live s i g ∧ (s.hd i).typ = 1 := by
      by_cases q : Live s i g ∧ (s.hd i).typ = 1
      · exact q
      · rw [chkR_bad q] at hc
        exfalso
        apply hc
        by_cases q2 : Live s i g
        · rw [if_pos q2]; decide
        · rw [if_neg q2]; exact stale_ne i g
    obtain ⟨kk, ek, k7, kr⟩ := hS.iv.ge.typ i hl.1.1
    have ht := hl.2
    obtain ⟨T, E, eT, eE, hTE, hE⟩ := hS.ends ⟨(kr (by omega)).1 (by omega), hl.1.1, hl.2⟩
    exact ⟨E - T, by omega, by omega, by omega⟩
structure Asks (M : Nat → En) (P A : Nat) (w : World) : Prop where
  pc : w.cell? ⟨P, 0, none⟩ = some (.pointer (some ⟨A, 0, none⟩))
  plt : P < w.heap.size
  enc : ∀ im, Snd M im → Calls Tryz.prog 13 #[.pointer (some ⟨A, 0, none⟩)] w (EnPost im w)
  reg : ∀ (i : Nat) (g : Int), Calls Tryz.prog 14 #[.pointer (some ⟨A, 0, none⟩), .agg #[.int .u16 (i : Int), .int .u32 g]] w (ReXP (regX M i g) w)
  sts : Calls Tryz.prog 16 #[.pointer (some ⟨A, 0, none⟩)] w (StG M w)
  obs : Calls Tryz.prog 21 #[.pointer (some ⟨A, 0, none⟩)] w (ObP M w)
  gl : Gl w
theorem R2.asks (h : R2 w0 D Z P B M N w) : ∃ A, ∀ w', Below w.heap.size w w' → Asks M P A w' := by
  obtain ⟨A, rb, sb, s, tl, ws, L, n, hx, ho, hd⟩ := h.ar
  subst ho
  refine ⟨A, fun w' k => ?_⟩
  have hm := hx.ms.below k
  have hg := hx.gl.below k
  have hS : Sd s tl ws L n := ⟨hx.iv, hx.ix, hx.wr⟩
  refine ⟨(k.cell (p := ⟨P, 0, none⟩) (cell_lt hx.pc)).trans hx.pc, Nat.lt_of_lt_of_le hx.plt k.size, fun im hs => ?_, fun i g => Region_x hm hx.iv hx.ix i g, (Stats_walk hm hx.iv).mono ?_, observe_x hm hS hg.kd hg.kl, hg⟩
  · rw [← hs.img rfl]
    exact encode_walk hm hx.iv hx.wr hg.gd hg.gl hg.kd hg.kl
  · rintro e w2 ⟨rfl, hb⟩
    rw [← spr_len (ws := ws) hx.ix hx.iv (by omega), ← spr_len (ws := ws) hx.ix hx.iv (by omega)]
    exact ⟨_, _, _, _, _, _, _, _, rfl, hb⟩
/-- The arena and the model are laid. -/
theorem R2.init {w1 w2 w3 w4 : World} {A : Nat} {rb sb : Nat → Nat} {s : Av} {Bm : Nat} (hg : Gl w1) (hF2 : Fresh s rb sb 320) (hb2 : Below w1.heap.size w1 w2) (hz2 : ∀ b, Tz A rb sb b → w1.heap.size ≤ b) (hM2 : Ms w2 A rb sb s tl0 (fun _ _ _ => 0))
    (hb3 : Below w2.heap.size w2 w3) (hB : Bm = w2.heap.size) (hm3 : Md w3 Bm (fun _ => 0) M00) (e4 : w4 = w3.alloc (.cells #[.pointer (some ⟨A, 0, none⟩)] 24)) :
    ∃ D, R2 w1 D (fun _ => False) w3.heap.size Bm M00 M00 w4 := by
  subst e4 hB
  have h4 := hg.sz
  have n1 : (w3.alloc (.cells #[.pointer (some ⟨A, 0, none⟩)] 24)).heap.size = w3.heap.size + 1 := by simp
  have q1 : (w3.alloc (.cells #[.pointer (some ⟨A, 0, none⟩)] 24)).heap[w3.heap.size]? = some (.cells #[.pointer (some ⟨A, 0, none⟩)] 24 (0, 0)) := heap_new _ _
  have b4 : Below w3.heap.size w3 (w3.alloc (.cells #[.pointer (some ⟨A, 0, none⟩)] 24)) := alloc_below _
  have b24 := Below.thr hb3 b4
  have b14 := Below.thr hb2 b24
  have t1 := fun b hb => hM2.tzlt b hb
  have s2 := hb2.size
  have s3 := hb3.size
  have s5 := hm3.lt
  generalize w3.alloc (.cells #[.pointer (some ⟨A, 0, none⟩)] 24) = w4 at *
  have f1 : w4.frozen? ⟨w3.heap.size, 0, none⟩ = false := by simp [World.frozen?, q1]
  have hx : Hx w3.heap.size A rb sb s tl0 (fun _ _ _ => 0) (fun _ => []) 0 w4 := ⟨⟨hM2.below b24, hF2.iv, wr0, hg.below b14, cell_of_one q1, f1, fun q => by have := t1 _ q; omega, by omega, fun b hb => by have := hz2 b hb; omega⟩, hF2.ix⟩
  have har : ArL (fun c b => (c = 0 ∧ ((w1.heap.size ≤ b ∧ b < w2.heap.size) ∨ b = w3.heap.size)) ∨ (c = 1 ∧ b = w2.heap.size)) 0 w3.heap.size M00 w4 := ⟨A, rb, sb, s, tl0, _, _, _, hx, hF2.ob _, fun b hb => Or.inl ⟨rfl, by
    rcases hb with hb | hb
    · exact Or.inl ⟨hz2 b hb, t1 b hb⟩
    · exact Or.inr hb⟩⟩
  refine ⟨_, ⟨fun c b hb => by omega, fun c c' b h1 h2 => by omega⟩, har, ⟨_, hm3.below b4, fun b hb => Or.inr ⟨rfl, ?_⟩⟩, b14, har.sd, fun b hb => hb.elim⟩
  rcases hb with rfl | ⟨i, _, hi, _⟩
  · rfl
  · exact absurd (by unfold M00; split <;> rfl) hi
end
end Go.Proofs.Qxb6500847aGreatDoor.Os
