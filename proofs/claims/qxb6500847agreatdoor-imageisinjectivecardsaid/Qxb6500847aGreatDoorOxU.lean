/-
  Reclaim, exactly.
-/
import Derived.Test.Qxb6500847aGreatDoorOxT
import Derived.Test.Qxb6500847aGreatDoorOxB
import Derived.Test.Qxb6500847aGreatDoorOxC
import Derived.Test.Qxb6500847aGreatDoorOsUa
import Derived.Deep.LoopGhost
namespace Go.Proofs.Qxb6500847aGreatDoor.Os
open Go.RowKit FloorA
set_option maxRecDepth 100000
/-- The entry was carved out of p, through any number of regions. -/
inductive Bl (M : Nat → En) (p : Nat) : Nat → Prop
  | one {j : Nat} (h : (M j).par = (p : Int)) : Bl M p j
  | up {j q : Nat} (h : (M j).par = (q : Int)) (h2 : q < 320) (h3 : Bl M p q) : Bl M p j
/-- All below p is free. -/
noncomputable def emp (M : Nat → En) (p : Nat) : Nat → En := fun x => open Classical in if (M x).typ ≠ 0 ∧ Bl M p x then enF ((M x).gen + 1) else M x
noncomputable def cntB (M : Nat → En) (p : Nat) : Int := sumF (fun x => siF ((M x).typ ≠ 0 ∧ Bl M p x) 1) 320
/-- Reclaim. -/
noncomputable def recX (M : Nat → En) (i : Nat) (g : Int) : Rs × (Nat → En) :=
  if chkR M i g ≠ 0 then (bad (chkR M i g), M) else (⟨0, [], [cntB M i]⟩, emp M i)
theorem recX_ok {s : Av} {ws : Nat → Nat → Nat → Int} {i : Nat} {g : Int} (h : Live s i g) (h1 : (s.hd i).typ = 1) : recX (ob s ws) i g = (⟨0, [], [cntB (ob s ws) i]⟩, emp (ob s ws) i) := by
  unfold recX
  rw [chkR_reg h h1, if_neg (by simp)]
theorem chkR_bad {s : Av} {ws : Nat → Nat → Nat → Int} {i : Nat} {g : Int} (h : ¬ (Live s i g ∧ (s.hd i).typ = 1)) : chkR (ob s ws) i g = (if Live s i g then 3 else stale i g) := by
  by_cases q : Live s i g
  · rw [if_pos q, chkR_obj q (fun z => h ⟨q, z⟩)]
  · rw [if_neg q, chkR_dead q]
theorem bad_nz (i : Nat) (g : Int) (s : Av) : (if Live s i g then 3 else stale i g) ≠ 0 := by
  split
  · decide
  · exact stale_ne i g
theorem recX_bad {s : Av} {ws : Nat → Nat → Nat → Int} {i : Nat} {g : Int} (h : ¬ (Live s i g ∧ (s.hd i).typ = 1)) : recX (ob s ws) i g = (bad (if Live s i g then 3 else stale i g), ob s ws) := by
  unfold recX
  rw [chkR_bad h, if_pos (bad_nz i g s)]
/-- What has been freed so far. -/
def RcF (s : Av) (ws : Nat → Nat → Nat → Int) (g : Nat) (s1 : Av) : Prop := ∀ x, x < 320 → ((s1.hd x).gen = (s.hd x).gen ∧ (s1.hd x).typ = (s.hd x).typ ∧ (s1.hd x).row = (s.hd x).row ∧ (s1.hd x).par = (s.hd x).par ∧ (s1.hd x).bas = (s.hd x).bas ∧ (s1.hd x).siz = (s.hd x).siz) ∨ ((s.hd x).typ ≠ 0 ∧ Bl (ob s ws) g x ∧ (s1.hd x).typ = 0 ∧ (s1.hd x).gen = (s.hd x).gen + 1 ∧ (s1.hd x).bas = 0 ∧ (s1.hd x).siz = 0 ∧ (s1.hd x).par = 65535)
theorem RcF.refl (s : Av) (ws : Nat → Nat → Nat → Int) (g : Nat) : RcF s ws g s := fun _ _ => Or.inl ⟨rfl, rfl, rfl, rfl, rfl, rfl⟩
theorem RcF.par {s s1 : Av} {ws : Nat → Nat → Nat → Int} {g x : Nat} (h : RcF s ws g s1) (hx : x < 320) (hl : (s1.hd x).typ ≠ 0) : (s1.hd x).par = (s.hd x).par := by
  rcases h x hx with q | q
  · exact q.2.2.2.1
  · exact absurd q.2.2.1 hl
theorem RcF.rel {s s1 s2 : Av} {ws : Nat → Nat → Nat → Int} {g t : Nat} (h : RcF s ws g s1) (ht : t < 320) (hl : (s1.hd t).typ ≠ 0) (h4 : Rel s1 s2 t) (h6 : (s2.hd t).bas = 0 ∧ (s2.hd t).siz = 0 ∧ (s2.hd t).par = 65535) (hb : Bl (ob s ws) g t) : RcF s ws g s2 := fun x hx => by
  by_cases e : x = t
  · subst e
    rcases h x ht with q | q
    · exact Or.inr ⟨by rw [← q.2.1]; exact hl, hb, h4.typ, by rw [h4.gen, q.1], h6⟩
    · exact absurd q.2.2.1 hl
  · obtain ⟨a1, a2, a3, a4, a5, a6⟩ := h4.oth x e
    rw [a1, a2, a3, a4, a5, a6]
    exact h x hx
/-- How many have been freed. -/
def rcN (s s1 : Av) : Int := sumF (fun x => one ((s.hd x).typ ≠ 0 ∧ (s1.hd x).typ = 0)) 320
theorem rcN_self (s : Av) : rcN s s = 0 := by
  unfold rcN
  have : ∀ n, sumF (fun x => one ((s.hd x).typ ≠ 0 ∧ (s.hd x).typ = 0)) n = 0 := fun n => by
    induction n with
    | zero => rfl
    | succ n ih =>
      show sumF _ n + one ((s.hd n).typ ≠ 0 ∧ (s.hd n).typ = 0) = 0
      rw [ih, one_neg (fun q => q.1 q.2)]
      rfl
  exact this 320
theorem rcN_bound (s s1 : Av) : 0 ≤ rcN s s1 ∧ rcN s s1 ≤ 320 := sumF_one (fun _ _ => one_01 _)
theorem rcN_rel {s s1 s2 : Av} {t : Nat} (ht : t < 320) (hl : (s1.hd t).typ ≠ 0) (h4 : Rel s1 s2 t) (hs : (s.hd t).typ ≠ 0) : rcN s s2 = rcN s s1 + 1 := by
  unfold rcN
  rw [sumF_upd (f := fun x => one ((s.hd x).typ ≠ 0 ∧ (s1.hd x).typ = 0)) (c := t) ht (fun x _ e => by show one _ = one _; rw [(h4.oth x e).2.1])]
  show _ - one ((s.hd t).typ ≠ 0 ∧ (s1.hd t).typ = 0) + one ((s.hd t).typ ≠ 0 ∧ (s2.hd t).typ = 0) = _
  rw [one_neg (p := (s.hd t).typ ≠ 0 ∧ (s1.hd t).typ = 0) (fun q => hl q.2), one_pos ⟨hs, h4.typ⟩]
  omega
theorem rcN_room (s s1 : Av) {t : Nat} (_ht : t < 320) (_hs : (s.hd t).typ ≠ 0) (_hl : (s1.hd t).typ ≠ 0) : rcN s s1 ≤ 320 := (rcN_bound s s1).2
section
variable {A : Nat} {rb sb : Nat → Nat} {s : Av} {tl : Nat → List Int} {ws : Nat → Nat → Nat → Int} {w : World} {L : Nat → List Nat} {n p c i : Nat}
/-- Between two rounds. -/
structure RcX (A : Nat) (rb sb : Nat → Nat) (s : Av) (ws : Nat → Nat → Nat → Int) (g : Nat) (r : Nat → Nat) (B : Nat) (w : World) (s1 : Av) (tl1 : Nat → List Int) (L1 : Nat → List Nat) (n1 c : Nat) (wr : World) : Prop where
  ms : Ms wr A rb sb s1 tl1 ws
  ext : Ext w.heap.size (Tz A rb sb) w wr
  size : w.heap.size ≤ wr.heap.size
  iv : IV s1 tl1 L1 n1
  adv : Adv s s1
  rk : Rk s1 r
  reg : IsReg s1 c
  pth : ∃ q, Pth s1 L1 g c q
  ix : IX s1 tl1 L1 n1
  fx : RcF s ws g s1
  cb : c = g ∨ Bl (ob s ws) g c
def RcXP (A : Nat) (rb sb : Nat → Nat) (s : Av) (ws : Nat → Nat → Nat → Int) (X : Rs × (Nat → En)) (w : World) (e : Ending) (w' : World) : Prop :=
  (∃ v c, X = (bad c, ob s ws) ∧ e = .returned (.tuple #[.int .i64 0, v]) ∧ Refu w v w' c) ∨
  (∃ x M, X = (⟨0, [], [x]⟩, M) ∧ 0 ≤ x ∧ x ≤ 320 ∧ e = .returned (.tuple #[.int .i64 x, .nilIface]) ∧ SuX A rb sb M w w')
/-- The entry lies below a region that is to be emptied. -/
theorem RcX.child {g B : Nat} {r : Nat → Nat} {w1 wr : World} {s1 : Av} {tl1 : Nat → List Int} {L1 : Nat → List Nat} {n1 c t : Nat} (h : RcX A rb sb s ws g r B w1 s1 tl1 L1 n1 c wr) (hm : t ∈ L1 c) : Bl (ob s ws) g t := by
  obtain ⟨m1, m2, m3⟩ := h.iv.tr.mem h.reg hm
  have e := h.fx.par m1 m2
  rw [m3] at e
  rcases h.cb with q | q
  · exact Bl.one (by rw [ob_at _ _ m1, ← q]; exact e.symm)
  · exact Bl.up (q := c) (by rw [ob_at _ _ m1]; exact e.symm) h.reg.2.1 q
theorem RcX.parent {g B : Nat} {r : Nat → Nat} {w1 wr : World} {s1 : Av} {tl1 : Nat → List Int} {L1 : Nat → List Nat} {n1 c p : Nat} (h : RcX A rb sb s ws g r B w1 s1 tl1 L1 n1 c wr) (hc : c ≠ g) (hp : (s1.hd c).par = (p : Int)) : p = g ∨ Bl (ob s ws) g p := by
  have e := h.fx.par h.reg.2.1 (by rw [h.reg.2.2]; decide)
  rw [hp] at e
  have e' : (ob s ws c).par = (p : Int) := by rw [ob_at _ _ h.reg.2.1]; exact e.symm
  cases h.cb.resolve_left hc with
  | one h1 => exact Or.inl (by rw [e'] at h1; omega)
  | up h1 h2 h3 =>
    rw [e'] at h1
    have : _ = p := (Int.ofNat.inj h1).symm
    subst this
    exact Or.inr h3
theorem RcX.alive {g B : Nat} {r : Nat → Nat} {w1 wr : World} {s1 : Av} {tl1 : Nat → List Int} {L1 : Nat → List Nat} {n1 c t : Nat} (h : RcX A rb sb s ws g r B w1 s1 tl1 L1 n1 c wr) (ht : t < 320) (hl : (s1.hd t).typ ≠ 0) : (s.hd t).typ ≠ 0 := by
  rcases h.fx t ht with q | q
  · rw [← q.2.1]; exact hl
  · exact q.1
/-- The region is empty: all that lay below it has been freed. -/
theorem RcX.done {g B : Nat} {r : Nat → Nat} {w1 wr : World} {s1 : Av} {tl1 : Nat → List Int} {L1 : Nat → List Nat} {n1 : Nat} (h : RcX A rb sb s ws g r B w1 s1 tl1 L1 n1 g wr) (hE : L1 g = []) : rcN s s1 = cntB (ob s ws) g ∧ ob s1 ws = emp (ob s ws) g := by
  have key : ∀ x, Bl (ob s ws) g x → x < 320 → (s1.hd x).typ = 0 := by
    intro x hx
    induction hx with
    | one h1 =>
      rename_i x
      intro hlt
      refine Classical.byContradiction fun q => ?_
      rw [ob_at _ _ hlt] at h1
      have e := h.fx.par hlt q
      have e2 : (s1.hd x).par = (g : Int) := e.trans h1
      rcases (h.iv.tr.all x hlt q).2 with z | ⟨y, hy, ey, hm⟩
      · have := h.reg.2.1
        omega
      · have : y = g := by omega
        subst this
        rw [hE] at hm
        simp at hm
    | up h1 h2 h3 ih =>
      rename_i x y
      intro hlt
      refine Classical.byContradiction fun q => ?_
      rw [ob_at _ _ hlt] at h1
      have e := h.fx.par hlt q
      have e2 : (s1.hd x).par = (y : Int) := e.trans h1
      rcases (h.iv.tr.all x hlt q).2 with z | ⟨y', hy, ey, hm⟩
      · omega
      · have : y' = y := by omega
        subst this
        have := ih h2
        rw [hy.2.2] at this
        exact absurd this (by decide)
  have iff : ∀ x, x < 320 → ((s.hd x).typ ≠ 0 ∧ (s1.hd x).typ = 0 ↔ (ob s ws x).typ ≠ 0 ∧ Bl (ob s ws) g x) := fun x hx => by
    rw [ob_at _ _ hx]
    constructor
    · rintro ⟨a, b⟩
      rcases h.fx x hx with q | q
      · exact absurd (q.2.1.symm.trans b) a
      · exact ⟨a, q.2.1⟩
    · rintro ⟨a, b⟩
      exact ⟨a, key x b hx⟩
  refine ⟨?_, ?_⟩
  · unfold rcN cntB
    refine sumF_congr (fun x hx => ?_)
    by_cases q : (s.hd x).typ ≠ 0 ∧ (s1.hd x).typ = 0
    · rw [one_pos q, siF_pos ((iff x hx).1 q)]
    · rw [one_neg q, siF_neg (fun z => q ((iff x hx).2 z))]
  · funext x
    unfold emp
    by_cases hx : x < 320
    · by_cases q : (ob s ws x).typ ≠ 0 ∧ Bl (ob s ws) g x
      · rw [if_pos q]
        have z := (iff x hx).2 q
        rcases h.fx x hx with y | ⟨y1, y2, y3, y4, y5, y6, y7⟩
        · exact absurd (y.2.1.symm.trans z.2) z.1
        · rw [ob_at _ _ hx, ob_at _ _ hx]
          unfold enF wdsOf
          rw [y3, y4, y5, y6, y7]
          rfl
      · rw [if_neg q]
        rcases h.fx x hx with ⟨y1, y2, y3, y4, y5, y6⟩ | y
        · rw [ob_at _ _ hx, ob_at _ _ hx]
          unfold wdsOf
          rw [y1, y2, y3, y4, y5, y6]
        · exact absurd ⟨by rw [ob_at _ _ hx]; exact y.1, y.2.1⟩ q
    · rw [if_neg (fun q => q.1 (by rw [ob_out _ _ hx]; rfl)), ob_out _ _ hx, ob_out _ _ hx]
theorem RcX.step {g B : Nat} {r : Nat → Nat} {w1 wr w2 : World} {s1 s2 : Av} {tl1 tl2 : Nat → List Int} {L1 : Nat → List Nat} {n1 n2 c t : Nat} {l : List Nat} (h : RcX A rb sb s ws g r B w1 s1 tl1 L1 n1 c wr) (hl : L1 c = l ++ [t])
    (h1 : Ms w2 A rb sb s2 tl2 ws) (h2 : Ext wr.heap.size (Tz A rb sb) wr w2) (h3 : IV s2 tl2 (fun q => (L1 q).erase t) n2) (h5 : IX s2 tl2 (fun q => (L1 q).erase t) n2) (h4 : Rel s1 s2 t) (h6 : (s2.hd t).bas = 0 ∧ (s2.hd t).siz = 0 ∧ (s2.hd t).par = 65535) : RcX A rb sb s ws g r B w1 s2 tl2 (fun q => (L1 q).erase t) n2 c w2 := by
  have hm : t ∈ L1 c := by rw [hl]; simp
  obtain ⟨m1, m2, m3⟩ := h.iv.tr.mem h.reg hm
  have rc := h.rk t c m1 m2 m3 h.reg.2.1
  have ct : c ≠ t := fun e => by rw [e] at rc; omega
  obtain ⟨q, hq⟩ := h.pth
  have hk := Pth.rk h.rk h.reg hq
  refine ⟨h1, h.ext.trans h2 h.size (fun _ _ q => q), Nat.le_trans h.size h2.size, h3, h.adv.trans h4.adv, h.rk.rel h4, h.reg.rel h4 ct, ⟨q, hq.rel (n := c) h4 (fun p hp hm' => ?_) ct (fun x hx => ?_)⟩, h5, h.fx.rel m1 m2 h4 h6 (h.child hm), h.cb⟩
  · by_cases e : p = c
    · exact e
    · exact absurd rfl (h.iv.tr.par_ne h.reg hp e hm' hm)
  · have := hk x hx
    exact ⟨fun e => by rw [e] at this; omega, fun e => by rw [e] at this; omega⟩
set_option maxHeartbeats 24000000 in
theorem Reclaim_x (h : Ms w A rb sb s tl ws) (hI : IV s tl L n) (hX : IX s tl L n) (hW : Wr ws) (i : Nat) (g : Int) :
    Calls Tryz.prog 54 #[.pointer (some ⟨A, 0, none⟩), .agg #[.int .u16 (i : Int), .int .u32 g]] w (RcXP A rb sb s ws (recX (ob s ws) i g) w) := by
  have bB := alloc_below (w := w) (.cells #[.int .u16 (i : Int), .int .u32 g] 32)
  have hz : (w.alloc (.cells #[.int .u16 (i : Int), .int .u32 g] 32)).heap[w.heap.size]? = some (.cells #[.int .u16 (i : Int), .int .u32 g] 32 (0, 0)) := heap_new _ _
  have HN := hideIt h.ntz
  have HM := hideIt (h.below bB)
  have HB := hideIt bB
  have HI := hideIt hI
  have HXx := hideIt hX
  have HW : Hid (Wr ws) := hW
  clear h hI bB hX hW
  go_enter Tryz.func54, Tryz.ntmps54
  go_wp2_with fail
  go_at_call 44
  refine (resolveRegion_x HM.out.am i g _).mono ?_
  rintro e w1 ⟨hb1, hh⟩
  have HB1 := hideIt (Below.thr HB.out hb1)
  have HM1 := hideIt (HM.out.below hb1)
  have l0 : w.heap.size < w1.heap.size := Nat.lt_of_lt_of_le (heap_lt hz) hb1.size
  have hx := (hb1.block w.heap.size (heap_lt hz)).trans hz
  have x0 := box_cell hx 0
  simp only [List.getElem?_toArray, List.getElem?_cons_zero] at x0
  clear hb1 hz hx
  rcases hh with ⟨hl, h1, rfl⟩ | ⟨hl, v, rfl, code, hc, hv, hs⟩
  · have HL := hideIt hl
    obtain ⟨r, hr⟩ := HI.out.rk
    obtain ⟨B, hB⟩ := bound_of r 320
    have i1 : 256 ≤ i := by
      obtain ⟨k, ek, k7, kk⟩ := HI.out.ge.typ i hl.1
      have : k = 1 := by omega
      exact (kk (by omega)).1 this
    have HR : Hid (RcX A rb sb s ws i r B w1 s tl L n i w1) := ⟨HM1.out, Ext.refl _ _ _, Nat.le_refl _, HI.out, Adv.refl _, hr, ⟨i1, hl.1, h1⟩, ⟨[], rfl⟩, HXx.out, RcF.refl s ws i, Or.inl rfl⟩
    have HX1 : Hid ((s.hd i).typ = 1) := h1
    have HMr : Hid (Mr s L r B i (nLv s * (B + 2) + 1 + B)) := Mr.any (by omega)
    have HBd : Hid (∀ x, x < 320 → r x ≤ B) := hB
    clear hl h1 hr hB i1
    go_wp2_with fail
    go_loopg [8, 9] (nLv s * (B + 2) + 1 + B) (fun gk v8 v9 wr => ∃ (x : Int) (c : Nat) (s1 : Av) (tl1 : Nat → List Int) (L1 : Nat → List Nat) (n1 : Nat), v8 = .int .i64 x ∧ x = rcN s s1 ∧ v9 = .int .u16 (c : Int) ∧ RcX A rb sb s ws i r B w1 s1 tl1 L1 n1 c wr ∧ Mr s1 L1 r B c gk ∧ wr.cell? ⟨w.heap.size, 0, none⟩ = some (.int .u16 (i : Int)))
    case atStart => exact ⟨0, i, s, tl, L, n, rfl, (rcN_self s).symm, rfl, HR.out, HMr.out, x0⟩
    case round =>
      clear HR HMr x0
      obtain ⟨x, c, s1, tl1, L1, n1, rfl, hxN, rfl, hR, hMr, x0⟩ := hrel
      have HXN := hideIt hxN
      clear hxN
      have HR := hideIt hR
      have HMr := hideIt hMr
      have lw : w.heap.size < wr.heap.size := Nat.lt_of_lt_of_le l0 hR.size
      have c1 := hR.reg.1
      have c2 := hR.reg.2.1
      have c2' : (c : Int) < 320 := by omega
      have e1 := hR.ms.am.rgc (i := c - 256) (f := 1) (by omega) (by omega)
      simp only [rgC] at e1
      rw [hR.iv.tr.lst c hR.reg] at e1
      rcases snoc_cases (L1 c) with hE | ⟨l, t, hE⟩
      · rw [hE] at e1
        simp only [lOr] at e1
        by_cases hci : c = i
        · subst hci
          have HF : Hid (RcXP A rb sb s ws (recX (ob s ws) c g) w (.returned (.tuple #[.int .i64 x, .nilIface])) wr) := by
            obtain ⟨y1, y2⟩ := HR.out.done hE
            have yb := rcN_bound s s1
            exact Or.inr ⟨x, ob s1 ws, by rw [recX_ok HL.out HX1.out, HXN.out, y1, y2], by rw [HXN.out]; exact yb.1, by rw [HXN.out]; exact yb.2, rfl, s1, tl1, ws, L1, n1, HR.out.ms, (Ext.of_below HB1.out _).trans HR.out.ext (Nat.le_of_lt l0) (fun _ _ q => q), HR.out.iv, HR.out.ix, HW.out, rfl⟩
          clear hR hMr hE
          go_wp2_with (go_at_call 45; refine (body_walk A c1 c2 _).mono ?_; rintro e w' ⟨rfl, hw'⟩; obtain rfl := hw'.symm)
          exact bodyPost_ret (v := .tuple #[.int .i64 x, .nilIface]) (by simp [results, Tryz.results54]) rfl HF.out
        · obtain ⟨q, hq⟩ := hR.pth
          cases q with
          | nil => exact absurd hq hci
          | cons p q =>
            obtain ⟨_, q1, q2, q3, q4⟩ := hq
            have e2 := hR.ms.am.par hR.reg.2.1
            rw [q2] at e2
            obtain ⟨m1, m2⟩ := hMr.up hE q3
            have kn : ((c : Int) == (i : Int)) = false := by rw [beq_eq_false_iff_ne]; omega
            have HF : Hid (∃ (x' : Int) (c' : Nat) (s1' : Av) (tl1' : Nat → List Int) (L1' : Nat → List Nat) (n1' : Nat), (.int .i64 x : Value) = .int .i64 x' ∧ x' = rcN s s1' ∧ (.int .u16 (p : Int) : Value) = .int .u16 (c' : Int) ∧ RcX A rb sb s ws i r B w1 s1' tl1' L1' n1' c' wr ∧ Mr s1' L1' r B c' (gk - 1) ∧ wr.cell? ⟨w.heap.size, 0, none⟩ = some (.int .u16 (i : Int))) := ⟨x, p, s1, tl1, L1, n1, rfl, HXN.out, rfl, ⟨HR.out.ms, HR.out.ext, HR.out.size, HR.out.iv, HR.out.adv, HR.out.rk, q1, ⟨q, q4⟩, HR.out.ix, HR.out.fx, HR.out.parent hci q2⟩, m2, x0⟩
            clear hR hMr hE q1 q2 q3 q4 m2 hci
            go_wp2_with (go_at_call 45; refine (body_walk A c1 c2 _).mono ?_; rintro e w' ⟨rfl, hw'⟩; obtain rfl := hw'.symm)
            go_roundg (gk - 1)
            case measure => omega
            case rel => exact HF.out
      · rw [hE, lOr_snoc] at e1
        have hm : t ∈ L1 c := by rw [hE]; simp
        obtain ⟨t1, t2, t3⟩ := hR.iv.tr.mem hR.reg hm
        have t1' : (t : Int) < 320 := by omega
        have kn : ((t : Int) == 65535) = false := by rw [beq_eq_false_iff_ne]; omega
        have e2 := hR.ms.am.typ t1
        have rt := hR.rk t c t1 t2 t3 hR.reg.2.1
        have HT : Hid (((s1.hd t).typ = 1 ∧ 256 ≤ t) ∨ ((s1.hd t).typ ≠ 1 ∧ t < 256)) := by
          obtain ⟨k, ek, k7, kk⟩ := hR.iv.ge.typ t t1
          have k0 : k ≠ 0 := fun e => t2 (by rw [ek, e]; rfl)
          have := kk k0
          by_cases h1 : k = 1
          · exact Or.inl ⟨by rw [ek, h1]; rfl, this.1 h1⟩
          · exact Or.inr ⟨by rw [ek]; omega, by omega⟩
        have HRel : Hid (¬ (IsReg s1 t ∧ L1 t ≠ []) → Calls Tryz.prog 136 #[.pointer (some ⟨A, 0, none⟩), .int .u16 (t : Int)] wr (fun e w' => e = .returned (.tuple #[]) ∧ w.heap.size < w'.heap.size ∧ ∀ y : Int, y = wrap64 (x + 1) → ∃ (x' : Int) (c' : Nat) (s1' : Av) (tl1' : Nat → List Int) (L1' : Nat → List Nat) (n1' : Nat), (.int .i64 y : Value) = .int .i64 x' ∧ x' = rcN s s1' ∧ (.int .u16 (c : Int) : Value) = .int .u16 (c' : Int) ∧ RcX A rb sb s ws i r B w1 s1' tl1' L1' n1' c' w' ∧ Mr s1' L1' r B c' (gk - 1) ∧ w'.cell? ⟨w.heap.size, 0, none⟩ = some (.int .u16 (i : Int)))) := fun hn => by
          refine (release_x HR.out.ms HR.out.iv HR.out.ix t1 t2 (fun q => ?_)).mono ?_
          · by_cases e : L1 t = []
            · exact e
            · exact absurd ⟨q, e⟩ hn
          · rintro e w2 ⟨rfl, s2, tl2, n2, a1, a2, a3, a5, a4, a6⟩
            exact ⟨rfl, Nat.lt_of_lt_of_le lw a2.size, fun y hy => ⟨y, c, s2, tl2, _, n2, rfl, by rw [hy, HXN.out, rcN_rel t1 t2 a4 (HR.out.alive t1 t2)]; have := rcN_bound s s1; have := rcN_room s s1 t1 (HR.out.alive t1 t2) t2; unfold wrap64; omega, rfl, HR.out.step hE a1 a2 a3 a5 a4 a6, (HMr.out.rel hE (nLv_rel a4 t1 t2)).2, (a2.cell (p := ⟨w.heap.size, 0, none⟩) lw HN.out).trans x0⟩⟩
        have HG : Hid (¬ (IsReg s1 t ∧ L1 t ≠ []) → 0 < gk) := fun hn => by
          rcases hMr with q | ⟨_, _, _, _, q⟩ | ⟨_, _, _, _, _, q⟩
          · rw [hE] at q; simp at q
          · have : 0 < nLv s1 := by
              unfold nLv
              rw [List.countP_pos_iff]
              exact ⟨t, by simpa using t1, by simpa using t2⟩
            have : 1 * 1 ≤ nLv s1 * (B + 2) := Nat.mul_le_mul this (by omega)
            omega
          · omega
        rcases HT.out with ⟨h1, i1⟩ | ⟨h1, i1⟩
        · rw [h1] at e2
          have hreg : IsReg s1 t := ⟨i1, t1, h1⟩
          have e3 := hR.ms.am.rgc (i := t - 256) (f := 2) (by omega) (by omega)
          simp only [rgC] at e3
          rw [hR.iv.tr.kds t hreg] at e3
          by_cases hE2 : L1 t = []
          · have HC := hideIt (HRel.out (fun q => q.2 hE2))
            have hg := HG.out (fun q => q.2 hE2)
            rw [hE2] at e3
            simp only [List.length_nil] at e3
            clear hR hMr hE hm HT HRel HG hreg hE2 h1 t2 t3 rt
            go_wp2_with (go_at_call 45; first | (refine (body_walk A c1 c2 _).mono ?_; rintro e w' ⟨rfl, hw'⟩; obtain rfl := hw'.symm) | (refine (body_walk A i1 t1 _).mono ?_; rintro e w' ⟨rfl, hw'⟩; obtain rfl := hw'.symm))
            go_at_call 136
            refine HC.out.mono ?_
            rintro e w2 ⟨rfl, lw2, hf⟩
            have HF := hideIt hf
            clear hf e1 e2 e3 x0
            go_wp2_with fail
            go_roundg (gk - 1)
            case measure => omega
            case rel => exact HF.out _ rfl
          · have c3 : ((L1 t).length : Int) > 0 := by
              have := List.length_pos_iff.2 hE2
              omega
            obtain ⟨m1, m2⟩ := hMr.down hE hreg hE2 rt (HBd.out t t1)
            obtain ⟨q, hq⟩ := hR.pth
            have hti : t ≠ i := fun e => by
              cases q with
              | nil =>
                have : c = i := hq
                rw [e, this] at rt
                omega
              | cons p q =>
                have h5 := Pth.rk hR.rk hR.reg hq
                have h6 : ∀ (q : List Nat) (c : Nat), Pth s1 L1 i c q → c ≠ i → i ∈ q := by
                  intro q
                  induction q with
                  | nil => intro c h1 h2; exact absurd h1 h2
                  | cons a q ih =>
                    intro c h1 h2
                    by_cases e : a = i
                    · rw [e]; simp
                    · exact List.mem_cons_of_mem _ (ih a h1.2.2.2.2 e)
                have := h5 i (h6 _ _ hq hq.1)
                rw [← e] at this
                omega
            have HF : Hid (∃ (x' : Int) (c' : Nat) (s1' : Av) (tl1' : Nat → List Int) (L1' : Nat → List Nat) (n1' : Nat), (.int .i64 x : Value) = .int .i64 x' ∧ x' = rcN s s1' ∧ (.int .u16 (t : Int) : Value) = .int .u16 (c' : Int) ∧ RcX A rb sb s ws i r B w1 s1' tl1' L1' n1' c' wr ∧ Mr s1' L1' r B c' (gk - 1) ∧ wr.cell? ⟨w.heap.size, 0, none⟩ = some (.int .u16 (i : Int))) := ⟨x, t, s1, tl1, L1, n1, rfl, HXN.out, rfl, ⟨HR.out.ms, HR.out.ext, HR.out.size, HR.out.iv, HR.out.adv, HR.out.rk, hreg, ⟨c :: q, ⟨hti, HR.out.reg, t3, ⟨l, hE⟩, hq⟩⟩, HR.out.ix, HR.out.fx, Or.inr (HR.out.child hm)⟩, m2, x0⟩
            clear hR hMr hE hm HT HRel HG hreg hE2 h1 t2 t3 rt m2 hti hq
            generalize (L1 t).length = ln at *
            go_wp2_with (go_at_call 45; first | (refine (body_walk A c1 c2 _).mono ?_; rintro e w' ⟨rfl, hw'⟩; obtain rfl := hw'.symm) | (refine (body_walk A i1 t1 _).mono ?_; rintro e w' ⟨rfl, hw'⟩; obtain rfl := hw'.symm))
            go_roundg (gk - 1)
            case measure => omega
            case rel => exact HF.out
        · have c3 : ((s1.hd t).typ == 1) = false := by rw [beq_eq_false_iff_ne]; exact h1
          have HC := hideIt (HRel.out (fun q => h1 q.1.2.2))
          have hg := HG.out (fun q => h1 q.1.2.2)
          clear hR hMr hE hm HT HRel HG h1 t2 t3 rt
          go_wp2_with (go_at_call 45; refine (body_walk A c1 c2 _).mono ?_; rintro e w' ⟨rfl, hw'⟩; obtain rfl := hw'.symm)
          go_at_call 136
          refine HC.out.mono ?_
          rintro e w2 ⟨rfl, lw2, hf⟩
          have HF := hideIt hf
          clear hf e1 e2 x0
          go_wp2_with fail
          go_roundg (gk - 1)
          case measure => omega
          case rel => exact HF.out _ rfl
  · obtain ⟨b, rfl, hbc⟩ := hv
    have HF : Hid (RcXP A rb sb s ws (recX (ob s ws) i g) w (.returned (.tuple #[.int .i64 0, .iface 212 (.pointer (some ⟨b, 0, none⟩))])) w1) := Or.inl ⟨_, code, by rw [recX_bad hl, hs], rfl, ⟨⟨b, rfl, hbc⟩, hc, HB1.out⟩⟩
    clear hbc hl hs hc
    go_wp2_with fail
    exact bodyPost_ret (v := .tuple #[.int .i64 0, .iface 212 (.pointer (some ⟨b, 0, none⟩))]) (by simp [results, Tryz.results54]) rfl HF.out
end
end Go.Proofs.Qxb6500847aGreatDoor.Os
