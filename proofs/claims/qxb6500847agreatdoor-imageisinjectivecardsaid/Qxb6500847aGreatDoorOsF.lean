/-
  The tables turn: take, give.
-/
import Derived.Test.Qxb6500847aGreatDoorOsE
namespace Go.Proofs.Qxb6500847aGreatDoor.Os
open Go.RowKit FloorA
set_option maxRecDepth 100000

def updT (tl : Nat → List Int) (t : Nat) (l : List Int) : Nat → List Int := fun u => if u = t then l else tl u
def updW (ws : Nat → Nat → Nat → Int) (t r : Nat) (W : Nat → Int) : Nat → Nat → Nat → Int := fun u q => if u = t ∧ q = r then W else ws u q
section
variable {A : Nat} {rb sb : Nat → Nat} {s s' : Av} {tl : Nat → List Int} {ws : Nat → Nat → Nat → Int} {w w' : World}
theorem frz_set (w : World) (p q : Addr) (v : Value) (h : w.frozen? q = false) : (w.setCell p v).frozen? q = false := by rw [World.frozen?_setCell]; exact h
/-- A cell of the arena's block turns. -/
theorem Ms.setA (h : Ms w A rb sb s tl ws) {o : Nat} {v : Value} (hA : Am (w.setCell ⟨A, o, none⟩ v) A s') {tl' : Nat → List Int} (e1 : s'.tr = s.tr) (e2 : ∀ t, t < 6 → s'.ti t = .slice (some ⟨sb t, 0, none⟩) (tl' t).length (nR t)) (e3 : ∀ t, t < 6 → (tl' t).length ≤ nR t) (e4 : ∀ t, t < 6 → ∀ j x, (tl t)[j]? = some x → ∀ h : j < (tl' t).length, x = (tl' t)[j]) (e5 : ∀ t, t < 6 → (tl' t).length ≤ (tl t).length) : Ms (w.setCell ⟨A, o, none⟩ v) A rb sb s' tl' ws := by
  have n1 : ∀ t, t < 6 → ∀ p, (⟨A, o, none⟩ : Addr) ≠ ⟨rb t, p, none⟩ := fun t ht p e => (h.ar t ht).1 (congrArg Addr.block e).symm
  have n2 : ∀ t, t < 6 → ∀ p, (⟨A, o, none⟩ : Addr) ≠ ⟨sb t, p, none⟩ := fun t ht p e => (h.ar t ht).2 (congrArg Addr.block e).symm
  refine ⟨hA, fun t ht => by rw [e1]; exact h.tr t ht, e2, e3, fun t ht r hr j x hx => (set_other (n1 t ht _)).trans (h.row t ht r hr j x hx), fun t ht p => frz_set _ _ _ _ (h.rfz t ht p), fun t ht j hj => ?_, fun t ht p => frz_set _ _ _ _ (h.sfz t ht p), h.ar, h.rs, h.rr, h.ss⟩
  obtain ⟨x, hx, k⟩ := h.idc t ht j hj
  refine ⟨x, (set_other (n2 t ht _)).trans hx, fun hj' => ?_⟩
  have l2 : j < (tl t).length := Nat.lt_of_lt_of_le hj' (e5 t ht)
  exact e4 t ht j x (by rw [List.getElem?_eq_getElem l2, k l2]) hj'
/-- Nothing of the tables turns. -/
theorem Ms.setS (h : Ms w A rb sb s tl ws) {o : Nat} {v : Value} (hA : Am (w.setCell ⟨A, o, none⟩ v) A s') (e1 : s'.tr = s.tr) (e2 : s'.ti = s.ti) : Ms (w.setCell ⟨A, o, none⟩ v) A rb sb s' tl ws :=
  h.setA hA e1 (fun t ht => by rw [e2]; exact h.ti t ht) h.tn (fun t _ j x hx hj => by rw [List.getElem?_eq_getElem hj] at hx; exact (Option.some.inj hx).symm) (fun _ _ => Nat.le_refl _)
/-- The topmost free row is taken off. -/
theorem Ms.pop (h : Ms w A rb sb s tl ws) {t : Nat} (ht : t < 6) {l : List Int} {x : Int} (hl : tl t = l ++ [x]) : Ms (w.setCell ⟨A, 2886 + t * 2 + 1, none⟩ (.slice (some ⟨sb t, 0, none⟩) l.length (nR t))) A rb sb (s.setTi t (.slice (some ⟨sb t, 0, none⟩) l.length (nR t))) (updT tl t l) ws := by
  have hn := h.tn t ht
  rw [hl] at hn
  simp at hn
  refine h.setA (h.am.setTi _ ht) rfl (fun u hu => ?_) (fun u hu => ?_) (fun u hu j y hy hj => ?_) (fun u hu => ?_)
  · by_cases e : u = t
    · subst e; simp [Av.setTi, updT]
    · simp [Av.setTi, updT, e]; exact h.ti u hu
  · by_cases e : u = t
    · subst e; simp [updT]; omega
    · simp [updT, e]; exact h.tn u hu
  · by_cases e : u = t
    · subst e
      have hj' : j < l.length := by simpa [updT] using hj
      rw [hl, List.getElem?_append_left hj', List.getElem?_eq_getElem hj'] at hy
      simp [updT]
      exact (Option.some.inj hy).symm
    · simp only [updT, e, if_false] at hj ⊢
      rw [List.getElem?_eq_getElem hj] at hy
      exact (Option.some.inj hy).symm
  · by_cases e : u = t
    · subst e; simp [updT, hl]
    · simp [updT, e]
/-- A row turns. -/
theorem Ms.setRow (h : Ms w A rb sb s tl ws) {t r : Nat} (ht : t < 6) (hr : r < nR t) (W : Nat → Int) : Ms (w.setCells (rb t) (r * nC t) (rowL t W)) A rb sb s tl (updW ws t r W) := by
  have out : ∀ (p : Addr), p.block ≠ rb t → (w.setCells (rb t) (r * nC t) (rowL t W)).cell? p = w.cell? p := fun p hp => World.cell?_setCells_out _ _ _ _ _ (fun e => absurd e hp)
  have fz : ∀ (p : Addr), (w.setCells (rb t) (r * nC t) (rowL t W)).frozen? p = w.frozen? p := fun p => World.frozen?_setCells _ _ _ _ _
  refine ⟨⟨fun o ho => (out _ (h.ar t ht).1.symm).trans (h.am.cell o ho), fun o => (fz _).trans (h.am.free o)⟩, h.tr, h.ti, h.tn, fun u hu q hq => ?_, fun u hu o => (fz _).trans (h.rfz u hu o), fun u hu j hj => ?_, fun u hu o => (fz _).trans (h.sfz u hu o), h.ar, h.rs, h.rr, h.ss⟩
  · by_cases e : u = t ∧ q = r
    · obtain ⟨rfl, rfl⟩ := e
      simp only [updW, and_self, if_true]
      refine World.rangeAt_setCells_same _ _ _ _ (fun j hj => ?_)
      rw [rowL_len] at hj
      have := h.row u hu q hq
      refine ⟨this.isSome j (by rw [rowL_len]; exact hj), h.rfz u hu _⟩
    · simp only [updW, e, if_false]
      refine World.rangeAt_setCells_apart (h.row u hu q hq) _ _ _ ?_
      rw [rowL_len, rowL_len]
      by_cases e2 : u = t
      · subst e2
        have hqr : q ≠ r := fun k => e ⟨rfl, k⟩
        right
        rcases Nat.lt_or_gt_of_ne hqr with k | k
        · left
          have : (q + 1) * nC u ≤ r * nC u := Nat.mul_le_mul_right _ k
          rw [Nat.add_mul] at this; omega
        · right
          have : (r + 1) * nC u ≤ q * nC u := Nat.mul_le_mul_right _ k
          rw [Nat.add_mul] at this; omega
      · exact Or.inl (fun k => e2 (h.rr u t hu ht k))
  · obtain ⟨x, hx, k⟩ := h.idc u hu j hj
    exact ⟨x, (out _ (fun k => h.rs t u ht hu k.symm)).trans hx, k⟩
theorem cells_ext (w : World) (b : Nat) : ∀ (vs : List Value) (o : Nat), Ext w.heap.size (fun x => x = b) w (w.setCells b o vs) := by
  intro vs
  induction vs generalizing w with
  | nil => intro o; exact Ext.refl _ _ _
  | cons v r ih =>
    intro o
    have h1 : Ext w.heap.size (fun x => x = b) w (w.setCell ⟨b, o, none⟩ v) := self_ext w b o v
    exact h1.trans (ih (w.setCell ⟨b, o, none⟩ v) (o + 1)) h1.size (fun _ _ q => q)

def TkPost (t r : Nat) (l : List Int) (A : Nat) (rb sb : Nat → Nat) (s : Av) (tl : Nat → List Int) (ws : Nat → Nat → Nat → Int) (w : World) (e : Ending) (w' : World) : Prop :=
  e = .returned (.int .u16 (r : Int)) ∧ Ms w' A rb sb (s.setTi t (.slice (some ⟨sb t, 0, none⟩) l.length (nR t))) (updT tl t l) (updW ws t r (fun _ => 0)) ∧ Ext w.heap.size (Tz A rb sb) w w'
theorem tk_end {t r : Nat} {l : List Int} (h : Ms w A rb sb s tl ws) (ht : t < 6) (hr : r < nR t) {x : Int} (hl : tl t = l ++ [x]) (o : Obj) : Ms (((w.setCell ⟨A, 2886 + t * 2 + 1, none⟩ (.slice (some ⟨sb t, 0, none⟩) l.length (nR t))).setCells (rb t) (r * nC t) (rowL t (fun _ => 0))).alloc o).drew.drew.drew A rb sb (s.setTi t (.slice (some ⟨sb t, 0, none⟩) l.length (nR t))) (updT tl t l) (updW ws t r (fun _ => 0)) ∧ Ext w.heap.size (Tz A rb sb) w (((w.setCell ⟨A, 2886 + t * 2 + 1, none⟩ (.slice (some ⟨sb t, 0, none⟩) l.length (nR t))).setCells (rb t) (r * nC t) (rowL t (fun _ => 0))).alloc o).drew.drew.drew := by
  have h1 := (h.pop ht hl).setRow ht hr (fun _ => 0)
  have h2 := ((((h1.below (alloc_below o))).below (below_d _)).below (below_d _)).below (below_d _)
  refine ⟨h2, ?_⟩
  have e1 : Ext w.heap.size (Tz A rb sb) w (w.setCell ⟨A, 2886 + t * 2 + 1, none⟩ (.slice (some ⟨sb t, 0, none⟩) l.length (nR t))) := (Ext.refl _ _ _).setCell (Or.inr (Or.inl rfl)) _
  have e3 := e1.trans (cells_ext _ (rb t) (rowL t (fun _ => 0)) (r * nC t)) e1.size (fun i _ q => Or.inr ⟨t, ht, Or.inl q⟩)
  exact (((e3.andThen (alloc_below o) e3.size).drew).drew).drew

set_option maxHeartbeats 4000000 in
theorem take_walk2 (h : Ms w A rb sb s tl ws) {l : List Int} {r : Nat} (hl : tl 2 = l ++ [(r : Int)]) (hr : r < nR 2) :
    Calls Tryz.prog 291 #[.pointer (some ⟨A, 2890, none⟩)] w (TkPost 2 r l A rb sb s tl ws w) := by
  have hc := h.tic (t := 2) (by omega)
  have hd := h.trc (t := 2) (by omega)
  have hn := h.tn 2 (by omega)
  have hL : (tl 2).length = l.length + 1 := by rw [hl]; simp
  have hx : w.cell? ⟨sb 2, l.length, none⟩ = some (.int .u16 (r : Int)) := by
    obtain ⟨x, hx, k⟩ := h.idc 2 (by omega) l.length (by omega)
    rw [hx, k (by omega)]
    have : (tl 2)[l.length]'(by omega) = (r : Int) := by simp [hl]
    rw [this]
  have HE := hideIt (tk_end h (t := 2) (by omega) hr hl)
  have hz := h.am.free 2891
  have la := h.am.lt
  have ne := (h.ar 2 (by omega)).1
  have hrow := h.row 2 (by omega) r hr
  have hfz := h.rfz 2 (by omega)
  have cells : ∀ j, j < nC 2 → ∃ v, w.cell? ⟨rb 2, r * nC 2 + j, none⟩ = some v := fun j hj => by
    have := hrow.isSome j (by rw [rowL_len]; exact hj)
    exact Option.isSome_iff_exists.1 this
  have lr : rb 2 < w.heap.size := by obtain ⟨v, hv⟩ := cells 0 (by decide); exact cell_lt hv
  obtain ⟨v0, c0⟩ := cells 0 (by decide)
  have f0 := hfz (r * nC 2 + 0)
  obtain ⟨v1, c1⟩ := cells 1 (by decide)
  have f1 := hfz (r * nC 2 + 1)
  obtain ⟨v2, c2⟩ := cells 2 (by decide)
  have f2 := hfz (r * nC 2 + 2)
  rw [hL] at hc
  simp only [nR, nC, Nat.reduceMul, Nat.reduceAdd, Nat.add_zero] at hc hd hr c0 f0 c1 f1 c2 f2
  have hln : l.length + 1 ≤ 128 := by rw [hL] at hn; simpa [nR] using hn
  have e1 : (r : Int) < 128 := by omega
  clear hrow hfz cells h hn hL hl
  go_enter Tryz.func291, Tryz.ntmps291
  go_wp2_with fail
  go_region
  go_wp2_with fail
  go_region
  go_wp2_with fail
  go_region
  go_wp2_with fail
  go_ret
  exact ⟨rfl, HE.out _⟩

set_option maxHeartbeats 4000000 in
theorem take_walk3 (h : Ms w A rb sb s tl ws) {l : List Int} {r : Nat} (hl : tl 3 = l ++ [(r : Int)]) (hr : r < nR 3) :
    Calls Tryz.prog 292 #[.pointer (some ⟨A, 2892, none⟩)] w (TkPost 3 r l A rb sb s tl ws w) := by
  have hc := h.tic (t := 3) (by omega)
  have hd := h.trc (t := 3) (by omega)
  have hn := h.tn 3 (by omega)
  have hL : (tl 3).length = l.length + 1 := by rw [hl]; simp
  have hx : w.cell? ⟨sb 3, l.length, none⟩ = some (.int .u16 (r : Int)) := by
    obtain ⟨x, hx, k⟩ := h.idc 3 (by omega) l.length (by omega)
    rw [hx, k (by omega)]
    have : (tl 3)[l.length]'(by omega) = (r : Int) := by simp [hl]
    rw [this]
  have HE := hideIt (tk_end h (t := 3) (by omega) hr hl)
  have hz := h.am.free 2893
  have la := h.am.lt
  have ne := (h.ar 3 (by omega)).1
  have hrow := h.row 3 (by omega) r hr
  have hfz := h.rfz 3 (by omega)
  have cells : ∀ j, j < nC 3 → ∃ v, w.cell? ⟨rb 3, r * nC 3 + j, none⟩ = some v := fun j hj => by
    have := hrow.isSome j (by rw [rowL_len]; exact hj)
    exact Option.isSome_iff_exists.1 this
  have lr : rb 3 < w.heap.size := by obtain ⟨v, hv⟩ := cells 0 (by decide); exact cell_lt hv
  obtain ⟨v0, c0⟩ := cells 0 (by decide)
  have f0 := hfz (r * nC 3 + 0)
  obtain ⟨v1, c1⟩ := cells 1 (by decide)
  have f1 := hfz (r * nC 3 + 1)
  obtain ⟨v2, c2⟩ := cells 2 (by decide)
  have f2 := hfz (r * nC 3 + 2)
  obtain ⟨v3, c3⟩ := cells 3 (by decide)
  have f3 := hfz (r * nC 3 + 3)
  obtain ⟨v4, c4⟩ := cells 4 (by decide)
  have f4 := hfz (r * nC 3 + 4)
  rw [hL] at hc
  simp only [nR, nC, Nat.reduceMul, Nat.reduceAdd, Nat.add_zero] at hc hd hr c0 f0 c1 f1 c2 f2 c3 f3 c4 f4
  have hln : l.length + 1 ≤ 64 := by rw [hL] at hn; simpa [nR] using hn
  have e1 : (r : Int) < 64 := by omega
  clear hrow hfz cells h hn hL hl
  go_enter Tryz.func292, Tryz.ntmps292
  go_wp2_with fail
  go_region
  go_wp2_with fail
  go_region
  go_wp2_with fail
  go_region
  go_wp2_with fail
  go_ret
  exact ⟨rfl, HE.out _⟩

set_option maxHeartbeats 4000000 in
theorem take_walk4 (h : Ms w A rb sb s tl ws) {l : List Int} {r : Nat} (hl : tl 4 = l ++ [(r : Int)]) (hr : r < nR 4) :
    Calls Tryz.prog 293 #[.pointer (some ⟨A, 2894, none⟩)] w (TkPost 4 r l A rb sb s tl ws w) := by
  have hc := h.tic (t := 4) (by omega)
  have hd := h.trc (t := 4) (by omega)
  have hn := h.tn 4 (by omega)
  have hL : (tl 4).length = l.length + 1 := by rw [hl]; simp
  have hx : w.cell? ⟨sb 4, l.length, none⟩ = some (.int .u16 (r : Int)) := by
    obtain ⟨x, hx, k⟩ := h.idc 4 (by omega) l.length (by omega)
    rw [hx, k (by omega)]
    have : (tl 4)[l.length]'(by omega) = (r : Int) := by simp [hl]
    rw [this]
  have HE := hideIt (tk_end h (t := 4) (by omega) hr hl)
  have hz := h.am.free 2895
  have la := h.am.lt
  have ne := (h.ar 4 (by omega)).1
  have hrow := h.row 4 (by omega) r hr
  have hfz := h.rfz 4 (by omega)
  have cells : ∀ j, j < nC 4 → ∃ v, w.cell? ⟨rb 4, r * nC 4 + j, none⟩ = some v := fun j hj => by
    have := hrow.isSome j (by rw [rowL_len]; exact hj)
    exact Option.isSome_iff_exists.1 this
  have lr : rb 4 < w.heap.size := by obtain ⟨v, hv⟩ := cells 0 (by decide); exact cell_lt hv
  obtain ⟨v0, c0⟩ := cells 0 (by decide)
  have f0 := hfz (r * nC 4 + 0)
  obtain ⟨v1, c1⟩ := cells 1 (by decide)
  have f1 := hfz (r * nC 4 + 1)
  obtain ⟨v2, c2⟩ := cells 2 (by decide)
  have f2 := hfz (r * nC 4 + 2)
  rw [hL] at hc
  simp only [nR, nC, Nat.reduceMul, Nat.reduceAdd, Nat.add_zero] at hc hd hr c0 f0 c1 f1 c2 f2
  have hln : l.length + 1 ≤ 64 := by rw [hL] at hn; simpa [nR] using hn
  have e1 : (r : Int) < 64 := by omega
  clear hrow hfz cells h hn hL hl
  go_enter Tryz.func293, Tryz.ntmps293
  go_wp2_with fail
  go_region
  go_wp2_with fail
  go_region
  go_wp2_with fail
  go_region
  go_wp2_with fail
  go_ret
  exact ⟨rfl, HE.out _⟩

set_option maxHeartbeats 4000000 in
theorem take_walk5 (h : Ms w A rb sb s tl ws) {l : List Int} {r : Nat} (hl : tl 5 = l ++ [(r : Int)]) (hr : r < nR 5) :
    Calls Tryz.prog 294 #[.pointer (some ⟨A, 2896, none⟩)] w (TkPost 5 r l A rb sb s tl ws w) := by
  have hc := h.tic (t := 5) (by omega)
  have hd := h.trc (t := 5) (by omega)
  have hn := h.tn 5 (by omega)
  have hL : (tl 5).length = l.length + 1 := by rw [hl]; simp
  have hx : w.cell? ⟨sb 5, l.length, none⟩ = some (.int .u16 (r : Int)) := by
    obtain ⟨x, hx, k⟩ := h.idc 5 (by omega) l.length (by omega)
    rw [hx, k (by omega)]
    have : (tl 5)[l.length]'(by omega) = (r : Int) := by simp [hl]
    rw [this]
  have HE := hideIt (tk_end h (t := 5) (by omega) hr hl)
  have hz := h.am.free 2897
  have la := h.am.lt
  have ne := (h.ar 5 (by omega)).1
  have hrow := h.row 5 (by omega) r hr
  have hfz := h.rfz 5 (by omega)
  have cells : ∀ j, j < nC 5 → ∃ v, w.cell? ⟨rb 5, r * nC 5 + j, none⟩ = some v := fun j hj => by
    have := hrow.isSome j (by rw [rowL_len]; exact hj)
    exact Option.isSome_iff_exists.1 this
  have lr : rb 5 < w.heap.size := by obtain ⟨v, hv⟩ := cells 0 (by decide); exact cell_lt hv
  obtain ⟨v0, c0⟩ := cells 0 (by decide)
  have f0 := hfz (r * nC 5 + 0)
  obtain ⟨v1, c1⟩ := cells 1 (by decide)
  have f1 := hfz (r * nC 5 + 1)
  obtain ⟨v2, c2⟩ := cells 2 (by decide)
  have f2 := hfz (r * nC 5 + 2)
  obtain ⟨v3, c3⟩ := cells 3 (by decide)
  have f3 := hfz (r * nC 5 + 3)
  obtain ⟨v4, c4⟩ := cells 4 (by decide)
  have f4 := hfz (r * nC 5 + 4)
  rw [hL] at hc
  simp only [nR, nC, Nat.reduceMul, Nat.reduceAdd, Nat.add_zero] at hc hd hr c0 f0 c1 f1 c2 f2 c3 f3 c4 f4
  have hln : l.length + 1 ≤ 32 := by rw [hL] at hn; simpa [nR] using hn
  have e1 : (r : Int) < 32 := by omega
  clear hrow hfz cells h hn hL hl
  go_enter Tryz.func294, Tryz.ntmps294
  go_wp2_with fail
  go_region
  go_wp2_with fail
  go_region
  go_wp2_with fail
  go_region
  go_wp2_with fail
  go_ret
  exact ⟨rfl, HE.out _⟩
end
end Go.Proofs.Qxb6500847aGreatDoor.Os
