/-
  AntimirovAgrees: the check.
-/
import Derived.Test.Qxb6500848aGreatDoorAmH
import Derived.Test.Qxb6500848aGreatDoorIs
namespace Go.Proofs.Qxb6500848aGreatDoor
open Go.RowKit Pl Go.Maps
set_option maxRecDepth 100000

theorem Pl.ParP.set {A : List Nd} (hA : Wf A) {x : Int} (hx : Valid A x) {u : Word} {l : List Int} (h : ParP A x u l) : l.Pairwise (· < ·) ∧ ∀ q ∈ l, q ≠ 0 := by
  cases h with
  | start =>
    split
    · exact ⟨List.Pairwise.nil, (fun q hq => by cases hq)⟩
    · rename_i h0
      exact ⟨by simp, (fun q hq => by rw [List.mem_singleton.1 hq]; exact h0)⟩
  | step h hc hs =>
    refine ⟨?_, fun q hq => ?_⟩
    · obtain ⟨ls, _, _, rfl⟩ := hs
      exact setOf_rising2 _
    · obtain ⟨p, hp, m, h1, h2⟩ := hs.mem hq
      exact (h1.facts hA (h.valid hA hx p hp)).2.1 q h2

def lvB : Nat → Nat
  | 0 => 18
  | k + 1 => lvB k * (19 + k)
theorem lvB_le {k : Nat} (h : k ≤ 5) : lvB k ≤ 1000000000 := by
  have : k = 0 ∨ k = 1 ∨ k = 2 ∨ k = 3 ∨ k = 4 ∨ k = 5 := by omega
  rcases this with rfl | rfl | rfl | rfl | rfl | rfl <;> decide
theorem lvB_step {k a d z : Nat} (h1 : a ≤ lvB k) (h2 : d ≤ 18 + k) (h3 : z ≤ a * (1 + d)) : z ≤ lvB (k + 1) := by
  have : a * (1 + d) ≤ lvB k * (19 + k) := Nat.mul_le_mul h1 (by omega)
  show z ≤ lvB k * (19 + k)
  omega

theorem Pl.IsCut.some {A : List Nd} {r : Int} {P : List (List Nat)} (h : IsCut tabC A r P) : P ≠ [] := by
  obtain ⟨F, _, _, hC⟩ := h
  obtain ⟨p, hp, _⟩ := hC.mt.cover 0 (by omega) (by omega)
  intro e
  rw [e] at hp
  cases hp

theorem MD.repsD {kb eb mb ab : Nat} {lim : Int} {regs : List Int} {ad : Addr} {X : Nat → Prop} {w : World} {nb : Nat} {A : List Nd} (h : MD kb eb mb ab lim regs ad X w nb A) {W : World} (k : Below w.heap.size w W) {x : Int} (hx : Valid A x) :
    Calls Tryz.prog 29 #[.pointer (some ⟨kb, 0, none⟩), .int .i64 x] W (fun e w' => ∃ v P, e = .returned v ∧ Ints X w' v (P.map (minF tabC)) ∧ P.length ≤ 196608 ∧ IsCut tabC A x P ∧ Below W.heap.size W w') := by
  refine (h.reps k hx).mono ?_
  rintro e w' ⟨v, P, h1, h2, h3, h4, h5⟩
  exact ⟨v, P, h1, h2, h3, isCut_of tabC_ok h4, h5⟩

/-- What the check holds on to. -/
structure AQ (kb eb mb ab : Nat) (lim : Int) (regs : List Int) (ad : Addr) (bm : Nat) (a0 a1 a2 a3 : Int) (wv pv : Value) (a6 : Int) (wd pd : Word) (rv : Value) (cs : List Int) (X : Nat → Prop) (w : World) (nb : Nat) (A : List Nd) : Prop where
  md : MD kb eb mb ab lim regs ad X w nb A
  m0 : w.heap[bm]? = some (.cells #[.pointer (some ⟨kb, 0, none⟩)] 27 (0, 0))
  xm : ¬ X bm
  b0 : w.heap[bm + 1]? = some (.cells #[.int .i64 a0, .int .i64 a1, .int .i64 a2, .int .i64 a3, wv, pv, .int .i64 a6] 31 (0, 0))
  xb : ¬ X (bm + 1)
  rp : Ints X w rv cs
  iw : Ints X w wv wd
  ip : Ints X w pv pd
section
variable {kb eb mb ab : Nat} {lim : Int} {regs : List Int} {ad : Addr} {bm : Nat} {a0 a1 a2 a3 a6 : Int} {wv pv rv : Value} {wd pd : Word} {cs : List Int} {X X' : Nat → Prop} {w w' : World} {nb nb' : Nat} {A A' : List Nd}
theorem AQ.step (h : AQ kb eb mb ab lim regs ad bm a0 a1 a2 a3 wv pv a6 wd pd rv cs X w nb A) (g : GrX X w eb mb ab nb lim A X' w' nb' A') : AQ kb eb mb ab lim regs ad bm a0 a1 a2 a3 wv pv a6 wd pd rv cs X' w' nb' A' :=
  ⟨h.md.step g, g.block h.md.es h.m0 h.xm, fun x => h.xm ((g.sub _ (heap_lt h.m0)).1 x), g.block h.md.es h.b0 h.xb, fun x => h.xb ((g.sub _ (heap_lt h.b0)).1 x), g.seq h.md.es h.rp, g.seq h.md.es h.iw, g.seq h.md.es h.ip⟩
theorem AQ.below (h : AQ kb eb mb ab lim regs ad bm a0 a1 a2 a3 wv pv a6 wd pd rv cs X w nb A) (k : Below w.heap.size w w') : AQ kb eb mb ab lim regs ad bm a0 a1 a2 a3 wv pv a6 wd pd rv cs X w' nb A := h.step ((GrX.refl h.md.es).below k)
theorem AQ.facts (h : AQ kb eb mb ab lim regs ad bm a0 a1 a2 a3 wv pv a6 wd pd rv cs X w nb A) : w.cell? ⟨bm, 0, none⟩ = some (.pointer (some ⟨kb, 0, none⟩)) ∧ w.cell? ⟨kb, 1, none⟩ = some (.pointer (some ⟨eb, 0, none⟩)) ∧ w.cell? ⟨bm + 1, 4, none⟩ = some wv ∧ w.cell? ⟨bm + 1, 5, none⟩ = some pv := by
  obtain ⟨_, h0, h1, _, _⟩ := h.md.mc.cells
  exact ⟨box_cell h.m0 0, h1, box_cell h.b0 4, box_cell h.b0 5⟩
theorem AQ.first {g o n c : Nat} (h : AQ kb eb mb ab lim regs ad bm a0 a1 a2 a3 wv pv a6 wd pd (.slice (some ⟨g, o, none⟩) n c) cs X w nb A) (hp : 0 < cs.length) : w.cell? ⟨g, o, none⟩ = some (.int .i64 cs[0]) := by
  obtain ⟨a4, c4, e4, _, _, h4⟩ := h.rp
  cases e4
  obtain ⟨g4, o4, e5, _, hc4⟩ := h4 (fun e => by rw [e] at hp; cases hp)
  cases e5
  exact hc4 0 hp
theorem AQ.pwN {r : Int} (h : AQ kb eb mb ab lim regs ad bm a0 a1 a2 a3 wv pv a6 wd pd rv cs X w nb A) (hlim : lim ≤ 65536) (hr : Valid A r) (hn : ¬ PlainR A r) {W : World} (k : Below w.heap.size w W) {u : Value} (hu : Wrd X w u 5) :
    Calls Tryz.prog 32 #[.pointer (some ⟨eb, 0, none⟩), .int .i64 r, u] W fun e w' => e = .returned (.tuple #[.slice none 0 0, .iface 216 (.pointer (some ad))]) ∧ ∃ X' nb' A', GrX X w eb mb ab nb lim A X' w' nb' A' := by
  obtain ⟨wd, h1, h2, _⟩ := hu
  refine (PartialWord_walk hlim (h.below k).md.es (h.below k).md.gn (h.below k).md.xn hr (h2.below k (Nat.le_refl _)) (by omega)).mono ?_
  rintro e w' ⟨X', nb', A', v, ev, hg, rfl, ⟨_, rfl, rfl⟩ | ⟨hp, _⟩ | ⟨hp, _⟩⟩
  · exact ⟨rfl, X', nb', A', GrX.after k hg⟩
  · exact absurd hp hn
  · exact absurd hp hn
theorem AQ.mpN {r : Int} (h : AQ kb eb mb ab lim regs ad bm a0 a1 a2 a3 wv pv a6 wd pd rv cs X w nb A) (hlim : lim ≤ 65536) (hr : Valid A r) (hn : ¬ PlainR A r) {W : World} (k : Below w.heap.size w W) {u : Value} (hu : Wrd X w u 5) :
    Calls Tryz.prog 33 #[.pointer (some ⟨eb, 0, none⟩), .int .i64 r, u] W fun e w' => e = .returned (.tuple #[.bool false, .iface 216 (.pointer (some ad))]) ∧ ∃ X' nb' A', GrX X w eb mb ab nb lim A X' w' nb' A' := by
  obtain ⟨wd, h1, h2, _⟩ := hu
  refine (MatchesPartial_walk hlim (h.below k).md.es (h.below k).md.gn (h.below k).md.xn hr (h2.below k (Nat.le_refl _)) (by omega)).mono ?_
  rintro e w' ⟨X', nb', A', v, ev, hg, rfl, ⟨_, rfl, rfl⟩ | ⟨hp, _⟩ | ⟨hp, _⟩⟩
  · exact ⟨rfl, X', nb', A', GrX.after k hg⟩
  · exact absurd hp hn
  · exact absurd hp hn
def PwQ (X : Nat → Prop) (w : World) (eb mb ab nb : Nat) (lim : Int) (A : List Nd) (e : Ending) (w' : World) : Prop :=
  ∃ X' nb' A' v ev, e = .returned (.tuple #[v, ev]) ∧ GrX X w eb mb ab nb lim A X' w' nb' A' ∧ ((ev = .nilIface ∧ ∃ l, Ints X' w' v l ∧ Nz v ∧ l.length ≤ 65536 ∧ l.Pairwise (· < ·) ∧ ∀ q ∈ l, q ≠ 0) ∨ ((∃ t u, ev = .iface t u) ∧ v = .slice none 0 0 ∧ lim ≤ A'.length))
theorem AQ.pwP {r : Int} (h : AQ kb eb mb ab lim regs ad bm a0 a1 a2 a3 wv pv a6 wd pd rv cs X w nb A) (hlim : lim ≤ 65536) (hr : Valid A r) (hp : PlainR A r) {W : World} (k : Below w.heap.size w W) {u : Value} (hu : Wrd X w u 5) :
    Calls Tryz.prog 32 #[.pointer (some ⟨eb, 0, none⟩), .int .i64 r, u] W (PwQ X w eb mb ab nb lim A) := by
  obtain ⟨wd, h1, h2, _⟩ := hu
  refine (PartialWord_walk hlim (h.below k).md.es (h.below k).md.gn (h.below k).md.xn hr (h2.below k (Nat.le_refl _)) (by omega)).mono ?_
  rintro e w' ⟨X', nb', A', v, ev, hg, rfl, ⟨hn, _⟩ | ⟨_, h3, l, h4, h5, h6, _, h7⟩ | ⟨_, h3, h4, h5⟩⟩
  · exact absurd hp hn
  · refine ⟨X', nb', A', v, ev, rfl, GrX.after k hg, Or.inl ⟨h3, l, h4, h5, h6, ?_⟩⟩
    rcases h7 with ⟨_, h7⟩ | ⟨_, rfl⟩
    · exact h7.set hg.en.st.ar.wf (hg.le.valid hr)
    · exact ⟨List.Pairwise.nil, fun q hq => by cases hq⟩
  · exact ⟨X', nb', A', v, ev, rfl, GrX.after k hg, Or.inr ⟨h3, h4, h5⟩⟩
end

set_option maxHeartbeats 16000000 in
theorem anti_check {kb eb mb ab : Nat} {lim : Int} {regs : List Int} {ad : Addr} {X : Nat → Prop} {w : World} {nb : Nat} {A : List Nd} (hC : MD kb eb mb ab lim regs ad X w nb A) (hlim : lim ≤ 65536) {r : Int} (hr : Sm A r)
    {o0 o1 o2 o3 o6 : Int} {wv pv : Value} {wd pd : Word} (hw : Ints X w wv wd) (hwz : Nz wv) (hwl : wd.length ≤ 65536) (hp : Ints X w pv pd) (hpz : Nz pv) (hpl : pd.length ≤ 65536) :
    Calls Tryz.prog 28 #[.pointer (some ⟨kb, 0, none⟩), .int .i64 r, .agg #[.int .i64 o0, .int .i64 o1, .int .i64 o2, .int .i64 o3, wv, pv, .int .i64 o6]] w (SPost X w eb mb ab nb lim A) := by
  have HC0 := hideIt hC
  have Hr : Hid (Valid A r) := hr.1
  have Hsm : Hid (lv A r ≤ 18 ∧ dp A r ≤ 18) := by have h1 := lv_sz hC.mc.en.st.ar.wf _ r rfl hr.1; have h2 := hr.2; exact ⟨by omega, by omega⟩
  have Hw := hideIt hw
  have Hwz := hideIt hwz
  have Hpp := hideIt hp
  have Hpz := hideIt hpz
  obtain ⟨wa, wcp, rfl, _, _, _⟩ := hw
  obtain ⟨pa, pcp, rfl, _, _, _⟩ := hp
  have lk := hC.mc.lk
  have sM : (w.alloc (.cells #[.pointer (some ⟨kb, 0, none⟩)] 27)).heap.size = w.heap.size + 1 := Deep.nblk_alloc _ _
  have HB0 : Hid (Below w.heap.size w ((w.alloc (.cells #[.pointer (some ⟨kb, 0, none⟩)] 27)).alloc (.cells #[.int .i64 o0, .int .i64 o1, .int .i64 o2, .int .i64 o3, .slice wa wd.length wcp, .slice pa pd.length pcp, .int .i64 o6] 31))) := (alloc_below _).alloc (by omega) _
  have HbM : Hid (((w.alloc (.cells #[.pointer (some ⟨kb, 0, none⟩)] 27)).alloc (.cells #[.int .i64 o0, .int .i64 o1, .int .i64 o2, .int .i64 o3, .slice wa wd.length wcp, .slice pa pd.length pcp, .int .i64 o6] 31)).heap[w.heap.size]? = some (.cells #[.pointer (some ⟨kb, 0, none⟩)] 27)) := ((alloc_below (w := w.alloc (.cells #[.pointer (some ⟨kb, 0, none⟩)] 27)) (.cells #[.int .i64 o0, .int .i64 o1, .int .i64 o2, .int .i64 o3, .slice wa wd.length wcp, .slice pa pd.length pcp, .int .i64 o6] 31)).block w.heap.size (by omega)).trans (heap_new _ _)
  have HbB : Hid (((w.alloc (.cells #[.pointer (some ⟨kb, 0, none⟩)] 27)).alloc (.cells #[.int .i64 o0, .int .i64 o1, .int .i64 o2, .int .i64 o3, .slice wa wd.length wcp, .slice pa pd.length pcp, .int .i64 o6] 31)).heap[w.heap.size + 1]? = some (.cells #[.int .i64 o0, .int .i64 o1, .int .i64 o2, .int .i64 o3, .slice wa wd.length wcp, .slice pa pd.length pcp, .int .i64 o6] 31)) := by have := heap_new (w.alloc (.cells #[.pointer (some ⟨kb, 0, none⟩)] 27)) (.cells #[.int .i64 o0, .int .i64 o1, .int .i64 o2, .int .i64 o3, .slice wa wd.length wcp, .slice pa pd.length pcp, .int .i64 o6] 31); rw [sM] at this; exact this
  have HxM : Hid (¬ X w.heap.size) := fun x => by have := hC.mc.en.st.xlt _ x; omega
  have HxB : Hid (¬ X (w.heap.size + 1)) := fun x => by have := hC.mc.en.st.xlt _ x; omega
  clear hC hr sM hwz hpz
  go_enter Tryz.func28, Tryz.ntmps28
  go_wp2_with fail
  go_at_call 29
  refine (HC0.out.repsD HB0.out Hr.out).mono ?_
  rintro e w0 ⟨v2, P, rfl, hi2, hl2, hic, hb2⟩
  have HB1 := hideIt (HB0.out.trans (hb2.mono HB0.out.size))
  have HbM1 := hideIt ((hb2.block _ (heap_lt HbM.out)).trans HbM.out)
  have HbB1 := hideIt ((hb2.block _ (heap_lt HbB.out)).trans HbB.out)
  obtain ⟨cs, ecs⟩ : ∃ cs, cs = P.map (minF tabC) := ⟨_, rfl⟩
  rw [← ecs] at hi2
  have hcs1 : 0 < cs.length := by rw [ecs, List.length_map]; exact List.length_pos_iff.2 hic.some
  have hcs2 : cs.length ≤ 196608 := by rw [ecs, List.length_map]; exact hl2
  have Hi2 := hideIt hi2
  obtain ⟨va, vc, rfl, _, _, _⟩ := hi2
  have z0 := box_cell HbM1.out 0
  simp only [List.getElem?_toArray, List.getElem?_cons_zero] at z0
  have HC1 := hideIt (HC0.out.below HB1.out)
  obtain ⟨_, k0, k1, _, _⟩ := HC1.out.mc.cells
  clear hb2 hic ecs HbM HbB hl2
  go_wp2_with fail
  go_at_call 30
  refine (mplain_walk _ r rfl _ HC1.out.mc.en.st Hr.out).mono ?_
  rintro e w1 ⟨bp, rfl, hbp, hb1⟩
  have HBp := hideIt (HB1.out.trans (hb1.mono HB1.out.size))
  have HC2 := hideIt (HC1.out.below hb1)
  have Hi3 := hideIt (Hi2.out.below hb1 (Nat.le_refl _))
  have HbM2 := hideIt ((hb1.block _ (heap_lt HbM1.out)).trans HbM1.out)
  have HbB2 := hideIt ((hb1.block _ (heap_lt HbB1.out)).trans HbB1.out)
  have Hw2 := hideIt (Hw.out.below HBp.out (Nat.le_refl _))
  have Hpp2 := hideIt (Hpp.out.below HBp.out (Nat.le_refl _))
  have HQ : Hid (AQ kb eb mb ab lim regs ad w.heap.size o0 o1 o2 o3 (.slice wa wd.length wcp) (.slice pa pd.length pcp) o6 wd pd (.slice va cs.length vc) cs X w1 nb A) := ⟨HC2.out, HbM2.out, HxM.out, HbB2.out, HxB.out, Hi3.out, Hw2.out, Hpp2.out⟩
  have HGp : Hid (GrX X w eb mb ab nb lim A X w1 nb A) := (GrX.refl HC0.out.es).below HBp.out
  clear hb1 HC1 Hi2 HbM1 HbB1 HB1 z0 k0 k1 Hw Hpp HC2 Hi3 HbM2 HbB2 HxM HxB Hw2 Hpp2 HBp HB0 lk
  obtain ⟨f1, f2, f3, f4⟩ := HQ.out.facts
  cases bp
  · have Hnp : Hid (¬ PlainR A r) := fun h => absurd (hbp.2 h) (by simp)
    clear hbp
    obtain ⟨g, o, rfl⟩ : ∃ g o, va = some ⟨g, o, none⟩ := by
      obtain ⟨a4, c4, e4, _, _, h4⟩ := HQ.out.rp
      cases e4
      obtain ⟨g4, o4, e5, _, hc4⟩ := h4 (fun e => by rw [e] at hcs1; cases hcs1)
      exact ⟨g4, o4, e5⟩
    have hcs1' : (0 : Int) < (cs.length : Int) := by omega
    have f5 := HQ.out.first hcs1
    obtain ⟨c0, hc0⟩ : ∃ c0, c0 = cs[0] := ⟨_, rfl⟩
    rw [← hc0] at f5
    have Hc0 := hideIt hc0
    clear hc0
    have KP : Hid (∀ W : World, Below w1.heap.size w1 W → W.cell? ⟨w.heap.size, 0, none⟩ = some (.pointer (some ⟨kb, 0, none⟩)) ∧ W.cell? ⟨kb, 1, none⟩ = some (.pointer (some ⟨eb, 0, none⟩)) ∧ W.cell? ⟨g, o, none⟩ = some (.int .i64 c0)) := fun W hW => ⟨(hW.cell (p := ⟨w.heap.size, 0, none⟩) (heap_lt HQ.out.m0)).trans f1, (hW.cell (p := ⟨kb, 1, none⟩) HQ.out.md.mc.lk).trans f2, (hW.cell (p := ⟨g, o, none⟩) (cell_lt f5)).trans f5⟩
    have KQ : Hid (∀ W : World, GrX X w1 eb mb ab nb lim A X W nb A → W.cell? ⟨w.heap.size, 0, none⟩ = some (.pointer (some ⟨kb, 0, none⟩)) ∧ W.cell? ⟨kb, 1, none⟩ = some (.pointer (some ⟨eb, 0, none⟩)) ∧ W.cell? ⟨g, o, none⟩ = some (.int .i64 c0)) := fun W hW => by have q := HQ.out.step hW; obtain ⟨q1, q2, _, _⟩ := q.facts; exact ⟨q1, q2, Hc0.out ▸ q.first hcs1⟩
    go_upto_region 3 with fail
    go_cut [9] (fun v wx => v = .iface 216 (.pointer (some ad)) ∧ GrX X w1 eb mb ab nb lim A X wx nb A)
    case first =>
      go_region_held3 (fun w' => w'.cell? ⟨w.heap.size, 0, none⟩ = some (.pointer (some ⟨kb, 0, none⟩)) ∧ w'.cell? ⟨kb, 1, none⟩ = some (.pointer (some ⟨eb, 0, none⟩)) ∧ w'.cell? ⟨g, o, none⟩ = some (.int .i64 c0)) (first | (exact KQ.out _ hg1) | (exact KP.out _ hbQ) | (exact KP.out _ (below_d _)) | go_keep)
        (first | (go_at_call 31; have hbQ : Below w1.heap.size w1 w1.drew := below_d _; refine (Partial_not (HQ.out.below hbQ).md.es (HQ.out.below hbQ).md.gn (HQ.out.below hbQ).md.xn c0 Hr.out Hnp.out).mono ?_; rintro e w2 ⟨rfl, hg2⟩; have hg1 := GrX.after hbQ hg2))
      all_goals (try go_wp2_with fail)
      all_goals go_meet
      all_goals exact ⟨rfl, hg1⟩
    case rest =>
      obtain ⟨e9, hg1⟩ := hcut
      subst e9
      obtain ⟨w2, hW2⟩ : ∃ W, W = wc := ⟨_, rfl⟩
      subst hW2
      have HQ1 := hideIt (HQ.out.step hg1)
      have HG1 := hideIt (HGp.out.trans hg1)
      obtain ⟨q1, q2, q3, _⟩ := HQ1.out.facts
      have KP1 : Hid (∀ W : World, Below w2.heap.size w2 W → W.cell? ⟨w.heap.size, 0, none⟩ = some (.pointer (some ⟨kb, 0, none⟩)) ∧ W.cell? ⟨kb, 1, none⟩ = some (.pointer (some ⟨eb, 0, none⟩)) ∧ W.cell? ⟨w.heap.size + 1, 4, none⟩ = some (.slice wa wd.length wcp)) := fun W hW => by obtain ⟨z1, z2, z3, _⟩ := (HQ1.out.below hW).facts; exact ⟨z1, z2, z3⟩
      have KQ1 : Hid (∀ (W : World) (X' : Nat → Prop) (nb' : Nat) (A' : List Nd), GrX X w2 eb mb ab nb lim A X' W nb' A' → W.cell? ⟨w.heap.size, 0, none⟩ = some (.pointer (some ⟨kb, 0, none⟩)) ∧ W.cell? ⟨kb, 1, none⟩ = some (.pointer (some ⟨eb, 0, none⟩)) ∧ W.cell? ⟨w.heap.size + 1, 4, none⟩ = some (.slice wa wd.length wcp)) := fun W X' nb' A' hW => by obtain ⟨z1, z2, z3, _⟩ := (HQ1.out.step hW).facts; exact ⟨z1, z2, z3⟩
      clear f1 f2 f3 f4 f5 KP KQ HQ HGp hg1
      go_upto_region 4 with fail
      go_cut [11] (fun v wx => v = .iface 216 (.pointer (some ad)) ∧ ∃ X' nb' A', GrX X w2 eb mb ab nb lim A X' wx nb' A')
      case first =>
        go_region_held3 (fun w' => w'.cell? ⟨w.heap.size, 0, none⟩ = some (.pointer (some ⟨kb, 0, none⟩)) ∧ w'.cell? ⟨kb, 1, none⟩ = some (.pointer (some ⟨eb, 0, none⟩)) ∧ w'.cell? ⟨w.heap.size + 1, 4, none⟩ = some (.slice wa wd.length wcp)) (first | (exact KQ1.out _ _ _ _ hg2) | (exact KP1.out _ (below_d _)) | go_keep)
          (first
            | (go_at_call 15; refine (cut_walk2 HQ1.out.iw Hwz.out hwl).mono ?_; rintro e w1' ⟨ua, un, uc, rfl, hu1, hw1'⟩; obtain rfl := hw1'.symm)
            | (go_at_call 32; have hbQ : Below w2.heap.size w2 w2.drew := below_d _; refine (HQ1.out.pwN hlim Hr.out Hnp.out hbQ hu1).mono ?_; rintro e w3 ⟨rfl, X', nb', A', hg2⟩))
        all_goals (try go_wp2_with fail)
        all_goals go_meet
        all_goals exact ⟨rfl, X', nb', A', hg2⟩
      case rest =>
        obtain ⟨e11, X3, nb3, A3, hg2⟩ := hcut
        subst e11
        obtain ⟨w3, hW3⟩ : ∃ W, W = wc := ⟨_, rfl⟩
        subst hW3
        have HQ2 := hideIt (HQ1.out.step hg2)
        have HG2 := hideIt (HG1.out.trans hg2)
        have Hr3 := hideIt (hg2.le.valid Hr.out)
        have Hnp3 : Hid (¬ PlainR A3 r) := fun h => Hnp.out ((PlainR.le HQ1.out.md.es.en.st.ar.wf hg2.le Hr.out).1 h)
        obtain ⟨p1, p2, p3, _⟩ := HQ2.out.facts
        have KP2 : Hid (∀ W : World, Below w3.heap.size w3 W → W.cell? ⟨w.heap.size, 0, none⟩ = some (.pointer (some ⟨kb, 0, none⟩)) ∧ W.cell? ⟨kb, 1, none⟩ = some (.pointer (some ⟨eb, 0, none⟩)) ∧ W.cell? ⟨w.heap.size + 1, 4, none⟩ = some (.slice wa wd.length wcp)) := fun W hW => by obtain ⟨z1, z2, z3, _⟩ := (HQ2.out.below hW).facts; exact ⟨z1, z2, z3⟩
        have KQ2 : Hid (∀ (W : World) (X' : Nat → Prop) (nb' : Nat) (A' : List Nd), GrX X3 w3 eb mb ab nb3 lim A3 X' W nb' A' → W.cell? ⟨w.heap.size, 0, none⟩ = some (.pointer (some ⟨kb, 0, none⟩)) ∧ W.cell? ⟨kb, 1, none⟩ = some (.pointer (some ⟨eb, 0, none⟩)) ∧ W.cell? ⟨w.heap.size + 1, 4, none⟩ = some (.slice wa wd.length wcp)) := fun W X' nb' A' hW => by obtain ⟨z1, z2, z3, _⟩ := (HQ2.out.step hW).facts; exact ⟨z1, z2, z3⟩
        clear q1 q2 q3 KP1 KQ1 HQ1 HG1 hg2
        go_upto_region 5 with fail
        go_cut [13] (fun v wx => v = .iface 216 (.pointer (some ad)) ∧ ∃ X' nb' A', GrX X3 w3 eb mb ab nb3 lim A3 X' wx nb' A')
        case first =>
          go_region_held3 (fun w' => w'.cell? ⟨w.heap.size, 0, none⟩ = some (.pointer (some ⟨kb, 0, none⟩)) ∧ w'.cell? ⟨kb, 1, none⟩ = some (.pointer (some ⟨eb, 0, none⟩)) ∧ w'.cell? ⟨w.heap.size + 1, 4, none⟩ = some (.slice wa wd.length wcp)) (first | (exact KQ2.out _ _ _ _ hg2) | (exact KP2.out _ (below_d _)) | go_keep)
            (first
              | (go_at_call 15; refine (cut_walk2 HQ2.out.iw Hwz.out hwl).mono ?_; rintro e w1' ⟨ua, un, uc, rfl, hu1, hw1'⟩; obtain rfl := hw1'.symm)
              | (go_at_call 33; have hbQ : Below w3.heap.size w3 w3.drew := below_d _; refine (HQ2.out.mpN hlim Hr3.out Hnp3.out hbQ hu1).mono ?_; rintro e w4 ⟨rfl, X', nb', A', hg2⟩))
          all_goals (try go_wp2_with fail)
          all_goals go_meet
          all_goals exact ⟨rfl, X', nb', A', hg2⟩
        case rest =>
          obtain ⟨e13, X4, nb4, A4, hg2⟩ := hcut
          subst e13
          obtain ⟨w4, hW4⟩ : ∃ W, W = wc := ⟨_, rfl⟩
          subst hW4
          have HQ3 := hideIt (HQ2.out.step hg2)
          have HG3 := hideIt (HG2.out.trans hg2)
          have Hr4 := hideIt (hg2.le.valid Hr3.out)
          have Hnp4 : Hid (¬ PlainR A4 r) := fun h => Hnp3.out ((PlainR.le HQ2.out.md.es.en.st.ar.wf hg2.le Hr3.out).1 h)
          obtain ⟨q1, q2, _, _⟩ := HQ3.out.facts
          clear p1 p2 p3 KP2 KQ2 HQ2 HG2 hg2
          go_wp2_with fail
          go_at_call 34
          refine (States_not HQ3.out.md.es HQ3.out.md.gn HQ3.out.md.xn 120 Hr4.out Hnp4.out).mono ?_
          rintro e w5 ⟨rfl, hg5⟩
          have HQ5 := hideIt (HQ3.out.step hg5)
          have HG5 := hideIt (HG3.out.trans hg5)
          obtain ⟨p1, p2, _, _⟩ := HQ5.out.facts
          clear q1 q2 HQ3 HG3 hg5
          go_wp2_with fail
          go_at_call 35
          refine (Plain_walk _ r rfl _ HQ5.out.md.es Hr4.out).mono ?_
          rintro e w6 ⟨b6, rfl, hb6, hg6⟩
          have HQ6 := hideIt (HQ5.out.step hg6)
          have HG6 := hideIt (HG5.out.trans hg6)
          have gn6 : w6.cell? ⟨1, 0, none⟩ = some (.iface 216 (.pointer (some ad))) := HQ6.out.md.gn
          have HP : Hid (SPost X w eb mb ab nb lim A (.returned (.bool true)) w6) := ⟨X4, nb4, A4, true, HG6.out, rfl, (fun e => by cases e)⟩
          clear p1 p2 hg6
          cases b6
          · clear hb6
            go_wp2_with (go_at_call 27; refine (is_same ad _).mono ?_; rintro e w' ⟨rfl, hw'⟩; obtain rfl := hw'.symm)
            go_ret
            exact HP.out
          · exact absurd (hb6.1 rfl) Hnp4.out
  · have Hpl : Hid (PlainR A r) := hbp.1 rfl
    have Hxl : Hid (∀ z, X z → z < w1.heap.size) := HQ.out.md.mc.en.st.xlt
    clear hbp
    go_wp2_with fail
    go_at_call 15
    refine (cut_walk2 HQ.out.ip Hpz.out hpl).mono ?_
    rintro e w1' ⟨ua, un, uc, rfl, hu1, hw1'⟩
    obtain rfl := hw1'.symm
    have HWu := hideIt hu1
    clear hu1
    go_wp2_with fail
    go_at_call 36
    refine (probes_walk (fun z hz => Nat.lt_of_lt_of_le (Hxl.out z hz) (alloc_below _).size) (HQ.out.rp.below (alloc_below _) (Nat.le_refl _)) hcs2 (HWu.out.below (alloc_below _)) (box_cell (heap_new _ _) 0)).mono ?_
    rintro e w3 ⟨v3, us, rfl, hlw, hus, hb3⟩
    have hB13 : Below w1.heap.size w1 w3 := (alloc_below _).trans (hb3.mono (alloc_below _).size)
    have hB14 : Below w1.heap.size w1 (w3.alloc (.cells #[v3] 74)) := hB13.alloc hB13.size _
    have HQ3 := hideIt (HQ.out.below hB14)
    have Hx3 : Hid (¬ X w3.heap.size) := fun x => by have h1 := Hxl.out _ x; have h2 := hB13.size; omega
    have HA3 : Hid (AH kb eb mb ab lim regs ad w.heap.size w3.heap.size v3 us X (w3.alloc (.cells #[v3] 74)) nb A) := ⟨HQ3.out.md, HQ3.out.m0, HQ3.out.xm, heap_new _ _, Hx3.out, hlw.below (alloc_below _)⟩
    have HG3 := hideIt (HGp.out.below hB14)
    obtain ⟨xa, xc, ev3, _, _, _⟩ := hlw.1
    subst ev3
    clear hlw hb3 hB13 hB14 f1 f2 f3 f4 HWu
    go_wp2_with fail
    go_loopw [121] (fun i wr => ∃ (k : Nat) (X' : Nat → Prop) (nb' : Nat) (A' : List Nd), k ≤ cs.length ∧ i = .int .i64 k ∧ GrX X w eb mb ab nb lim A X' wr nb' A' ∧ AQ kb eb mb ab lim regs ad w.heap.size o0 o1 o2 o3 (.slice wa wd.length wcp) (.slice pa pd.length pcp) o6 wd pd (.slice va cs.length vc) cs X' wr nb' A' ∧ AH kb eb mb ab lim regs ad w.heap.size w3.heap.size (.slice xa us.length xc) us X' wr nb' A') (fun i _ => cs.length - (intOf i).toNat)
    case atStart => exact ⟨0, X, nb, A, by omega, rfl, HG3.out, HQ3.out, HA3.out⟩
    case round =>
      clear HG3 HQ3 HA3 HQ HGp
      obtain ⟨k, X1, nb1, A1, hk, rfl, hG, hQ, hA⟩ := hrel
      have HG := hideIt hG
      have HQ := hideIt hQ
      have HA := hideIt hA
      have Hr1 := hideIt (hG.le.valid Hr.out)
      have Hpl1 := hideIt ((PlainR.le HC0.out.es.en.st.ar.wf hG.le Hr.out).2 Hpl.out)
      have Hsm1 : Hid (lv A1 r ≤ 18 ∧ dp A1 r ≤ 18) := by rw [lv_le HC0.out.es.en.st.ar.wf hG.en.st.ar.wf hG.le _ r rfl Hr.out, dp_le HC0.out.es.en.st.ar.wf hG.en.st.ar.wf hG.le _ r rfl Hr.out]; exact Hsm.out
      by_cases hlt : k < cs.length
      · have hlt' : (k : Int) < (cs.length : Int) := by omega
        obtain ⟨a4, c4, e4, _, _, h4⟩ := hQ.rp
        cases e4
        obtain ⟨g4, o4, rfl, _, hc4⟩ := h4 (fun e => by rw [e] at hlt; cases hlt)
        have ck := hc4 k hlt
        generalize cs[k] = c at *
        clear h4 hc4 hG hQ hA
        go_wp2_with fail
        go_at_call 37
        refine (holdsA_walk HA.out hlim hus Hr1.out Hpl1.out (by have := Hsm1.out.1; omega) c).mono ?_
        rintro e w5 ⟨X5, nb5, A5, d5, b5, hg5, rfl, hh5⟩
        rcases hh5 with ⟨rfl, _⟩ | ⟨rfl, hf5⟩
        · have HG5 := hideIt (HG.out.trans hg5)
          have HQ5 := hideIt (HQ.out.step hg5)
          have HA5 := hideIt (HA.out.step hg5)
          clear hg5
          go_wp2_with fail
          go_roundw
          case rel => exact ⟨k + 1, X5, nb5, A5, by omega, by go_num, HG5.out, HQ5.out, HA5.out⟩
          case measure => simp [intOf]; omega
        · have HP : Hid (SPost X w eb mb ab nb lim A (.returned (.bool false)) w5) := ⟨X5, nb5, A5, false, HG.out.trans hg5, rfl, fun _ => hf5⟩
          clear hf5 hg5
          go_wp2_with fail
          go_ret
          exact HP.out
      · obtain rfl : k = cs.length := by omega
        obtain ⟨w4, hW4⟩ : ∃ W, W = wr := ⟨_, rfl⟩
        subst hW4
        obtain ⟨q1, q2, q3, _⟩ := HQ.out.facts
        have KP1 : Hid (∀ W : World, Below w4.heap.size w4 W → W.cell? ⟨w.heap.size, 0, none⟩ = some (.pointer (some ⟨kb, 0, none⟩)) ∧ W.cell? ⟨kb, 1, none⟩ = some (.pointer (some ⟨eb, 0, none⟩)) ∧ W.cell? ⟨w.heap.size + 1, 4, none⟩ = some (.slice wa wd.length wcp)) := fun W hW => by obtain ⟨z1, z2, z3, _⟩ := (HQ.out.below hW).facts; exact ⟨z1, z2, z3⟩
        have KQ1 : Hid (∀ (W : World) (X' : Nat → Prop) (nb' : Nat) (A' : List Nd), GrX X1 w4 eb mb ab nb1 lim A1 X' W nb' A' → W.cell? ⟨w.heap.size, 0, none⟩ = some (.pointer (some ⟨kb, 0, none⟩)) ∧ W.cell? ⟨kb, 1, none⟩ = some (.pointer (some ⟨eb, 0, none⟩)) ∧ W.cell? ⟨w.heap.size + 1, 4, none⟩ = some (.slice wa wd.length wcp)) := fun W X' nb' A' hW => by obtain ⟨z1, z2, z3, _⟩ := (HQ.out.step hW).facts; exact ⟨z1, z2, z3⟩
        clear hG hQ hA
        go_upto_region 17 with fail
        go_cut [23, 24] (fun v ev wx => ∃ X' nb' A', GrX X1 w4 eb mb ab nb1 lim A1 X' wx nb' A' ∧ ((ev = .nilIface ∧ ∃ l, Ints X' wx v l ∧ Nz v ∧ l.length ≤ 65536 ∧ l.Pairwise (· < ·) ∧ ∀ q ∈ l, q ≠ 0) ∨ ((∃ t u, ev = .iface t u) ∧ v = .slice none 0 0 ∧ lim ≤ A'.length)))
        case first =>
          go_region_held3 (fun w' => w'.cell? ⟨w.heap.size, 0, none⟩ = some (.pointer (some ⟨kb, 0, none⟩)) ∧ w'.cell? ⟨kb, 1, none⟩ = some (.pointer (some ⟨eb, 0, none⟩)) ∧ w'.cell? ⟨w.heap.size + 1, 4, none⟩ = some (.slice wa wd.length wcp)) (first | (exact KQ1.out _ _ _ _ hg2) | (exact KP1.out _ (below_d _)) | go_keep)
            (first
              | (go_at_call 15; refine (cut_walk2 HQ.out.iw Hwz.out hwl).mono ?_; rintro e w1' ⟨ya, yn, yc, rfl, hu1, hw1'⟩; obtain rfl := hw1'.symm)
              | (go_at_call 32; have hbQ : Below w4.heap.size w4 w4.drew := below_d _; refine (HQ.out.pwP hlim Hr1.out Hpl1.out hbQ hu1).mono ?_; rintro e w5 ⟨X', nb', A', v5, ev5, rfl, hg2, hh5⟩))
          all_goals (try go_wp2_with fail)
          all_goals go_meet
          all_goals exact ⟨X', nb', A', hg2, hh5⟩
        case rest =>
          obtain ⟨X2, nb2, A2, hg2, hh2⟩ := hcut
          obtain ⟨w5, hW5⟩ : ∃ W, W = wc := ⟨_, rfl⟩
          subst hW5
          have HG2 := hideIt (HG.out.trans hg2)
          have HQ2 := hideIt (HQ.out.step hg2)
          have HA2 := hideIt (HA.out.step hg2)
          have Hr2 := hideIt (hg2.le.valid Hr1.out)
          have Hpl2 := hideIt ((PlainR.le HQ.out.md.es.en.st.ar.wf hg2.le Hr1.out).2 Hpl1.out)
          have Hsm2 : Hid (lv A2 r ≤ 18 ∧ dp A2 r ≤ 18) := by rw [lv_le HQ.out.md.es.en.st.ar.wf hg2.en.st.ar.wf hg2.le _ r rfl Hr1.out, dp_le HQ.out.md.es.en.st.ar.wf hg2.en.st.ar.wf hg2.le _ r rfl Hr1.out]; exact Hsm1.out
          clear hg2 q1 q2 q3 KP1 KQ1 HG HQ HA Hr1 Hpl1 Hsm1
          rcases hh2 with ⟨rfl, l, hI, hz, hl6, hpw, hq0⟩ | ⟨⟨t2, u2, rfl⟩, rfl, hf2⟩
          · have HI := hideIt hI
            have Hz := hideIt hz
            have Hpw := hideIt hpw
            have Hq0 := hideIt hq0
            obtain ⟨la, lc, rfl, _, _, _⟩ := hI
            clear hz hpw hq0
            go_wp2_with fail
            go_at_call 39
            refine (isSet_walk HI.out Hz.out hl6 Hpw.out Hq0.out).mono ?_
            rintro e w6 ⟨rfl, hb6⟩
            have HG6 := hideIt (HG2.out.below hb6)
            have HQ6 := hideIt (HQ2.out.below hb6)
            have HA6 := hideIt (HA2.out.below hb6)
            obtain ⟨_, _, p3, _⟩ := HQ6.out.facts
            clear hb6 HI Hz HG2 HQ2 HA2
            go_wp2_with fail
            go_at_call 15
            refine (cut_walk2 HQ6.out.iw Hwz.out hwl).mono ?_
            rintro e w1' ⟨ya, yn, yc, rfl, hu1, hw1'⟩
            obtain rfl := hw1'.symm
            obtain ⟨cw, hcw, hiw, _⟩ := hu1
            have Hiw := hideIt hiw
            obtain ⟨ya', yc', ey, _, _, _⟩ := hiw
            cases ey
            clear p3
            go_wp2_with fail
            go_loopw [1, 158] (fun rv i wr => ∃ (k : Nat) (x : Int) (X' : Nat → Prop) (nb' : Nat) (A' : List Nd), k ≤ cw.length ∧ i = .int .i64 k ∧ rv = .int .i64 x ∧ (Valid A' x ∧ PlainR A' x ∧ lv A' x ≤ lvB k ∧ dp A' x ≤ 18 + k) ∧ GrX X w eb mb ab nb lim A X' wr nb' A' ∧ Ints X' wr (.slice ya cw.length yc) cw ∧ AH kb eb mb ab lim regs ad w.heap.size w3.heap.size (.slice xa us.length xc) us X' wr nb' A') (fun _ i _ => cw.length - (intOf i).toNat)
            case atStart => exact ⟨0, r, X2, nb2, A2, by omega, rfl, rfl, ⟨Hr2.out, Hpl2.out, Hsm2.out.1, Hsm2.out.2⟩, HG6.out, Hiw.out, HA6.out⟩
            case round =>
              clear HG6 HQ6 HA6 Hiw
              obtain ⟨k, x, X7, nb7, A7, hk, rfl, rfl, hx, hG, hI, hA⟩ := hrel
              have HG := hideIt hG
              have HI := hideIt hI
              have HA := hideIt hA
              have Hx := hideIt hx
              by_cases hlt : k < cw.length
              · have hlt' : (k : Int) < (cw.length : Int) := by omega
                obtain ⟨a4, c4, e4, _, _, h4⟩ := hI
                cases e4
                obtain ⟨g4, o4, rfl, _, hc4⟩ := h4 (fun e => by rw [e] at hlt; cases hlt)
                have ck := hc4 k hlt
                generalize cw[k] = c at *
                have hk5 : k ≤ 5 := by omega
                clear h4 hc4 hG hA hx
                go_wp2_with fail
                go_at_call 37
                refine (holdsA_walk HA.out hlim hus Hx.out.1 Hx.out.2.1 (by have h1 := Hx.out.2.2.1; have h2 := lvB_le hk5; omega) c).mono ?_
                rintro e w7 ⟨X5, nb5, A5, d5, b5, hg5, rfl, hh5⟩
                rcases hh5 with ⟨rfl, hd1, hd2, hd3, hd4⟩ | ⟨rfl, hf5⟩
                · have HG5 := hideIt (HG.out.trans hg5)
                  have HI5 := hideIt (hg5.seq HA.out.md.es HI.out)
                  have HA5 := hideIt (HA.out.step hg5)
                  have Hd : Hid (Valid A5 d5 ∧ PlainR A5 d5 ∧ lv A5 d5 ≤ lvB (k + 1) ∧ dp A5 d5 ≤ 18 + (k + 1)) := ⟨hd1, hd2, lvB_step Hx.out.2.2.1 Hx.out.2.2.2 hd3, by have := Hx.out.2.2.2; omega⟩
                  clear hg5 hd1 hd2 hd3 hd4
                  go_wp2_with fail
                  go_roundw
                  case rel => exact ⟨k + 1, d5, X5, nb5, A5, by omega, by go_num, rfl, Hd.out, HG5.out, HI5.out, HA5.out⟩
                  case measure => simp [intOf]; omega
                · have HP : Hid (SPost X w eb mb ab nb lim A (.returned (.bool false)) w7) := ⟨X5, nb5, A5, false, HG.out.trans hg5, rfl, fun _ => hf5⟩
                  clear hf5 hg5
                  go_wp2_with fail
                  go_ret
                  exact HP.out
              · obtain rfl : k = cw.length := by omega
                have HP : Hid (SPost X w eb mb ab nb lim A (.returned (.bool true)) wr) := ⟨X7, nb7, A7, true, HG.out, rfl, (fun e => by cases e)⟩
                clear hG hI hA hx
                go_wp2_with fail
                go_ret
                exact HP.out
          · have HP : Hid (SPost X w eb mb ab nb lim A (.returned (.bool false)) w5) := ⟨X2, nb2, A2, false, HG2.out, rfl, fun _ => hf2⟩
            clear hf2
            go_wp2_with fail
            go_ret
            exact HP.out
end Go.Proofs.Qxb6500848aGreatDoor
