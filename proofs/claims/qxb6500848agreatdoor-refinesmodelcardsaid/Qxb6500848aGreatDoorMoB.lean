/-
  keep.
-/
import Derived.Test.Qxb6500848aGreatDoorMoA
namespace Go.Proofs.Qxb6500848aGreatDoor
open Go.RowKit Pl Go.Maps
set_option maxRecDepth 100000

/-- What keep hands back for a regex z. -/
def Kend (B : List Nd) (z : Int) (regs regs' : List Int) (f0 f2 : Bool) : Prop := f2 = false ∧ ((sz B z ≤ 18 ∧ f0 = true ∧ regs' = push regs z) ∨ (18 < sz B z ∧ f0 = false ∧ regs' = regs))
def KpPost (R : List Int → Bool → Bool → Prop) (Y : Nat → Prop) (w : World) (hb ab nb : Nat) (B : List Nd) (e : Ending) (w' : World) : Prop :=
  ∃ Y' regs' f0 f2, e = .returned (.agg #[.bool f0, .bool false, .bool f2, .bool false, .int .i64 0]) ∧ R regs' f0 f2 ∧ Mo Y' w' hb ab nb B regs' ∧ regs'.length ≤ 8 ∧ Ext w.heap.size (Th w hb) w w' ∧ (∀ b, b < w.heap.size → (Y' b ↔ Y b)) ∧ ∀ rb off n cap, w'.cell? ⟨hb, 1, none⟩ = some (.slice (some ⟨rb, off, none⟩) n cap) → rb < w.heap.size → Th w hb rb

section
variable {Y Y1 Y' : Nat → Prop} {w w1 w2 w3 W : World} {hb ab nb : Nat} {B : List Nd} {regs : List Int} {z : Int}

theorem KT.rcells (h : KT Y w hb ab nb B regs Y1 w1) :
    ∃ p0 p1 p2 p3 p4, (w1.cell? ⟨w.heap.size, 0, none⟩ = some p0 ∧ w1.cell? ⟨w.heap.size, 1, none⟩ = some p1 ∧ w1.cell? ⟨w.heap.size, 2, none⟩ = some p2 ∧ w1.cell? ⟨w.heap.size, 3, none⟩ = some p3 ∧ w1.cell? ⟨w.heap.size, 4, none⟩ = some p4) ∧ (∀ i, w1.frozen? ⟨w.heap.size, i, none⟩ = false) := by
  obtain ⟨p0, p1, p2, p3, p4, hr⟩ := h.res
  exact ⟨p0, p1, p2, p3, p4, ⟨box_cell hr 0, box_cell hr 1, box_cell hr 2, box_cell hr 3, box_cell hr 4⟩, fun i => by simp [World.frozen?, hr]⟩
theorem KT.kfz (h : KT Y w hb ab nb B regs Y1 w1) : w1.frozen? ⟨hb, 1, none⟩ = false := by
  obtain ⟨rv, h1, _⟩ := h.mo.reg
  simp [World.frozen?, h1]
/-- A step that writes hb and a row. -/
theorem KT.step {regs3 : List Int} {Y3 : Nat → Prop} {rb : Nat} (h : KT Y w hb ab nb B regs Y1 w1) (hM : Mo Y3 w3 hb ab nb B regs3) (hY : ∀ b, Y3 b → Y1 b ∨ w1.heap.size ≤ b) (hY' : ∀ b, Y1 b → Y3 b) (hrb : w1.heap.size ≤ rb ∨ rb = hb ∨ (rb ≠ w.heap.size ∧ (rb < w.heap.size → Th w hb rb))) (e : Ext w1.heap.size (fun b => b = hb ∨ b = rb) w1 w3)
    (hc : ∀ rb' off n cap, w3.cell? ⟨hb, 1, none⟩ = some (.slice (some ⟨rb', off, none⟩) n cap) → w1.heap.size ≤ rb' ∨ ∃ off' n' cap', w1.cell? ⟨hb, 1, none⟩ = some (.slice (some ⟨rb', off', none⟩) n' cap')) : KT Y w hb ab nb B regs3 Y3 w3 := by
  obtain ⟨p0, p1, p2, p3, p4, hres⟩ := h.res
  have lt := h.lt
  refine ⟨hM, ⟨p0, p1, p2, p3, p4, (e.block _ lt (fun q => ?_)).trans hres⟩, hY' _ h.xres, h.na, h.nn, h.nh, fun rb' off n cap f => ?_, h.ext.trans e h.ext.size (fun i hi q => ?_), fun b hl => ⟨fun x => (h.sub b hl).1 ((hY b x).elim id (fun q => by omega)), fun x => hY' b ((h.sub b hl).2 x)⟩, fun rb' off n cap f hl => ?_⟩
  · rcases q with q | q
    · exact h.nh q
    · rcases hrb with r | r | r
      · omega
      · exact h.nh (q.trans r)
      · exact r.1 q.symm
  · rcases hc rb' off n cap f with r | ⟨o2, n2, c2, r⟩
    · omega
    · exact h.nr rb' o2 n2 c2 r
  · rcases q with q | q
    · exact Or.inl q
    · rcases hrb with r | r | r
      · omega
      · exact Or.inl (q.trans r)
      · rw [q]; exact r.2 (by omega)
  · rcases hc rb' off n cap f with r | ⟨o2, n2, c2, r⟩
    · omega
    · exact h.tr rb' o2 n2 c2 r hl
theorem KT.appended {v' : Value} (h : KT Y w hb ab nb B regs Y1 w1) (hbl : Below w1.heap.size w1 w2) {m : Nat} (hm : m = regs.length) (hown : w3.ownsRow w2.heap.size 28 1 v' (m + 1) (regs.map encI ++ [encI z])) (hg : w2.grownBy w3 none) (hz : Sm B z) :
    ∃ g cap Y', v' = .slice (some ⟨g, 0, none⟩) (m + 1) cap ∧ m + 1 ≤ cap ∧ cap ≤ maxLen ∧ Below w1.heap.size w1 w3 ∧ Hid (KT Y w hb ab nb B (regs ++ [z]) Y' (w3.setCell ⟨hb, 1, none⟩ (.slice (some ⟨g, 0, none⟩) (m + 1) cap))) := by
  subst hm
  have hB : Below w1.heap.size w1 w3 := hbl.grown hg hbl.size (fun k e => by cases e)
  obtain ⟨Y', hM, hY, hY'⟩ := h.mo.moved hbl hown hg hz
  rcases hown.2 with ⟨_, h0⟩ | ⟨g, cap, cur, rfl, hbg, hh, r1, r2, r3⟩
  · omega
  obtain ⟨rv, q1, _⟩ := h.mo.reg
  have k3 : w3.cell? ⟨hb, 1, none⟩ = some rv := (hB.cell (p := ⟨hb, 1, none⟩) h.mo.lh).trans (box_cell q1 1)
  refine ⟨g, cap, Y', rfl, r1, r2, hB, h.step hM hY hY' (rb := hb) (Or.inr (Or.inl rfl)) (Ext.setCell (X := fun b => b = hb ∨ b = hb) (p := ⟨hb, 1, none⟩) (Ext.of_below hB _) (Or.inr (Or.inl rfl)) _) (fun rb' off n cap' f => Or.inl ?_)⟩
  rw [World.cell?_setCell_same _ _ _ k3] at f
  simp only [Option.some.injEq, Value.slice.injEq, Addr.mk.injEq] at f
  have := hbl.size
  omega
theorem KT.roomed {rb off cap m : Nat} (h : KT Y w hb ab nb B regs Y1 w1) (hbl : Below w1.heap.size w1 w2) (hm : m = regs.length) (hk2 : w1.cell? ⟨hb, 1, none⟩ = some (.slice (some ⟨rb, off, none⟩) m cap)) (hr : Reg Y1 w1 hb ab nb hb (.slice (some ⟨rb, off, none⟩) m cap) regs) (hroom : m + 1 ≤ cap) (hz : Sm B z) :
    Hid (KT Y w hb ab nb B (regs ++ [z]) Y1 ((w2.setCell ⟨rb, off + m, none⟩ (encI z)).setCell ⟨hb, 1, none⟩ (.slice (some ⟨rb, off, none⟩) (m + 1) cap))) := by
  subst hm
  have hn : rb ≠ hb := by
    rcases hr with ⟨e, _⟩ | ⟨rb', off', cap', cells, e, xr, n, _⟩
    · cases e
    · simp only [Value.slice.injEq, Option.some.injEq, Addr.mk.injEq] at e
      obtain ⟨⟨rfl, rfl, _⟩, _, rfl⟩ := e
      exact n.1
  have k3 : (w2.setCell ⟨rb, off + regs.length, none⟩ (encI z)).cell? ⟨hb, 1, none⟩ = some (.slice (some ⟨rb, off, none⟩) regs.length cap) := by
    rw [World.cell?_setCell_other _ _ _ _ (by intro e; exact hn (congrArg Addr.block e))]
    exact (hbl.cell (p := ⟨hb, 1, none⟩) h.mo.lh).trans hk2
  refine h.step (h.mo.room hbl hr hroom hz) (fun b q => Or.inl q) (fun b q => q) (rb := rb) (Or.inr (Or.inr ⟨h.nr rb off _ cap hk2, h.tr rb off _ cap hk2⟩)) (Ext.setCell (X := fun b => b = hb ∨ b = rb) (p := ⟨hb, 1, none⟩) (Ext.setCell (X := fun b => b = hb ∨ b = rb) (p := ⟨rb, off + regs.length, none⟩) (Ext.of_below hbl _) (Or.inr (Or.inr rfl)) _) (Or.inr (Or.inl rfl)) _) (fun rb' off' n cap' f => Or.inr ?_)
  rw [World.cell?_setCell_same _ _ _ k3] at f
  simp only [Option.some.injEq, Value.slice.injEq, Addr.mk.injEq] at f
  obtain ⟨⟨rfl, _⟩, _⟩ := f
  exact ⟨off, _, cap, hk2⟩
theorem KT.forgot {rb off cap m : Nat} (hm : m = regs.length) (h : KT Y w hb ab nb B (regs ++ [z]) Y1 (W.setCell ⟨hb, 1, none⟩ (.slice (some ⟨rb, off, none⟩) (m + 1) cap))) (hn : 0 < m) (hk : ∃ u, W.cell? ⟨hb, 1, none⟩ = some u) :
    Hid (KT Y w hb ab nb B (regs ++ [z]).tail Y1 ((W.setCell ⟨hb, 1, none⟩ (.slice (some ⟨rb, off, none⟩) (m + 1) cap)).setCell ⟨hb, 1, none⟩ (.slice (some ⟨rb, off + 1, none⟩) m (cap - 1)))) := by
  subst hm
  obtain ⟨u, hu⟩ := hk
  have k3 := World.cell?_setCell_same _ _ (.slice (some ⟨rb, off, none⟩) (regs.length + 1) cap) hu
  obtain ⟨rv, q1, q2⟩ := h.mo.reg
  have erv : rv = .slice (some ⟨rb, off, none⟩) (regs ++ [z]).length cap := by
    have := (box_cell q1 1).symm.trans k3
    simpa using this
  rw [erv] at q2
  have hM := h.mo.forget q2 (by simp; omega)
  rw [show (regs ++ [z]).length - 1 = regs.length by simp] at hM
  refine h.step hM (fun b q => Or.inl q) (fun b q => q) (rb := hb) (Or.inr (Or.inl rfl)) (Ext.setCell (X := fun b => b = hb ∨ b = hb) (p := ⟨hb, 1, none⟩) (Ext.refl _ _ _) (Or.inr (Or.inl rfl)) _) (fun rb' off' n cap' f => Or.inr ?_)
  rw [World.cell?_setCell_same _ _ _ k3] at f
  simp only [Option.some.injEq, Value.slice.injEq, Addr.mk.injEq] at f
  obtain ⟨⟨rfl, _⟩, _⟩ := f
  exact ⟨off, _, cap, k3⟩
theorem KT.done {R : List Int → Bool → Bool → Prop} (h : KT Y w hb ab nb B regs Y1 w1) (hl : regs.length ≤ 8) (f0 f2 : Bool) (hR : R regs f0 f2) :
    KpPost R Y w hb ab nb B (.returned (.agg #[.bool f0, .bool false, .bool f2, .bool false, .int .i64 0])) (five w1 w.heap.size (.bool f0) (.bool false) (.bool f2) (.bool false) (.int .i64 0)) ∧ (five w1 w.heap.size (.bool f0) (.bool false) (.bool f2) (.bool false) (.int .i64 0)).heap[w.heap.size]? = some (.cells #[.bool f0, .bool false, .bool f2, .bool false, .int .i64 0] 95 (0, 0)) := by
  obtain ⟨p0, p1, p2, p3, p4, hr⟩ := h.res
  have e := five_ext w1 w.heap.size (.bool f0) (.bool false) (.bool f2) (.bool false) (.int .i64 0)
  refine ⟨⟨Y1, regs, f0, f2, rfl, hR, h.mo.keepT e (fun b hb q => ?_) (fun _ _ => Iff.rfl) (fun b hb => Nat.lt_of_lt_of_le (h.mo.st.xlt b hb) e.size), hl, h.ext.trans e h.ext.size (fun i hi q => by omega), h.sub, fun rb off n cap f => h.tr rb off n cap ((e.cell (p := ⟨hb, 1, none⟩) h.mo.lh (fun q => h.nh q.symm)).symm.trans f)⟩, five_heap hr _ _ _ _ _⟩
  have q' : b = w.heap.size := q
  subst q'
  exact ⟨h.xres, h.na, h.nn, h.nh, fun off n cap f => h.nr _ off n cap f rfl⟩
theorem KT.fin {R : List Int → Bool → Bool → Prop} (h : KT Y w hb ab nb B regs Y1 w1) (hl : regs.length ≤ 8) (f0 f2 : Bool) (hR : R regs f0 f2) :
    KpPost R Y w hb ab nb B (.returned (.agg #[.bool f0, .bool false, .bool f2, .bool false, .int .i64 0])) w1 := ⟨Y1, regs, f0, f2, rfl, hR, h.mo, hl, h.ext, h.sub, h.tr⟩
end

set_option maxHeartbeats 1000000 in
theorem keep_full {Y : Nat → Prop} {w : World} {hb ab nb : Nat} {B : List Nd} {regs : List Int} (h : Mo Y w hb ab nb B regs) (hl : regs.length ≤ 8) (z : Int) (t : TypeId) (v : Value) :
    Calls Tryz.prog 99 #[.pointer (some ⟨hb, 0, none⟩), .int .i64 z, .iface t v] w (KpPost (fun regs' f0 f2 => f2 = true ∧ f0 = false ∧ regs' = regs) Y w hb ab nb B) := by
  have HT0 := hideIt (KT.start5 h (.bool false) (.bool false) (.bool true) (.bool false) (.int .i64 0))
  clear h
  go_enter Tryz.func99, Tryz.ntmps99
  go_wp2_with fail
  have Hd := hideIt ((HT0.out).fin (R := fun regs' f0 f2 => f2 = true ∧ f0 = false ∧ regs' = regs) hl false true ⟨rfl, rfl, rfl⟩)
  refine bodyPost_ret (v := .agg #[.bool false, .bool false, .bool true, .bool false, .int .i64 0]) ?_ rfl (by exact Hd.out)
  exact results_cell_row (by exact Tryz.results99) _ _ w.heap.size _ _ _ _ (by rfl) (by exact heap_new _ _) Tryz.underlying95 rfl (by kernel_rfl)

set_option maxHeartbeats 4000000 in
theorem keep_walk {Y : Nat → Prop} {w : World} {hb ab nb : Nat} {B : List Nd} {regs : List Int} (h : Mo Y w hb ab nb B regs) (hl : regs.length ≤ 8) {z : Int} (hz : Valid B z ∧ sz B z ≤ 100) :
    Calls Tryz.prog 99 #[.pointer (some ⟨hb, 0, none⟩), .int .i64 z, .nilIface] w (KpPost (Kend B z regs) Y w hb ab nb B) := by
  have HT0 := hideIt (KT.start h)
  have Hz := hideIt hz
  have lk := h.lh
  obtain ⟨rv0, k00, _, _⟩ := h.cells
  clear h hz
  go_enter Tryz.func99, Tryz.ntmps99
  go_wp2_with fail
  go_at_call 112
  generalize hWW : w.alloc (.cells #[.bool false, .bool false, .bool false, .bool false, .int .i64 0] 95) = w1 at *
  have HT : Hid (KT Y w hb ab nb B regs (Plus' Y w.heap.size) w1) := HT0.out
  generalize Plus' Y w.heap.size = Y1 at *
  clear HT0 hWW k00
  refine (size_walk HT.out.mo.st _ z rfl Hz.out.1 (by have := Hz.out.2; omega)).mono ?_
  rintro e wS ⟨rfl, hwS⟩
  obtain ⟨n, hsn⟩ : ∃ n : Nat, n = sz B z := ⟨_, rfl⟩
  rw [← hsn]
  have hn100 : n ≤ 100 := by rw [hsn]; exact Hz.out.2
  have Hsm : Hid (n ≤ 18 → Sm B z) := fun h => ⟨Hz.out.1, by rw [← hsn]; exact h⟩
  have HRf : Hid (18 < n → Kend B z regs regs false false) := fun h => ⟨rfl, Or.inr ⟨by rw [← hsn]; exact h, rfl, rfl⟩⟩
  have HRn : Hid (n ≤ 18 → regs.length ≠ 8 → Kend B z regs (regs ++ [z]) true false) := fun h h8 => ⟨rfl, Or.inl ⟨by rw [← hsn]; exact h, rfl, (if_neg h8).symm⟩⟩
  have HRt : Hid (n ≤ 18 → regs.length = 8 → Kend B z regs (regs ++ [z]).tail true false) := fun h h8 => ⟨rfl, Or.inl ⟨by rw [← hsn]; exact h, rfl, (if_pos h8).symm⟩⟩
  clear hsn
  obtain rfl := hwS.symm
  obtain ⟨q0, q1, q2, q3, q4, ⟨c0, c1, c2, c3, c4⟩, fz⟩ := HT.out.rcells
  have f0 := fz 0
  have f1 := fz 1
  have f2 := fz 2
  have f3 := fz 3
  have f4 := fz 4
  clear fz
  by_cases hs : (18 : Int) < (n : Int)
  · go_wp2_with fail
    have Hd := hideIt ((HT.out).done (R := Kend B z regs) hl false false (HRf.out (by omega)))
    refine bodyPost_ret (v := .agg #[.bool false, .bool false, .bool false, .bool false, .int .i64 0]) ?_ rfl (by exact Hd.out.1)
    exact results_cell_row (by exact Tryz.results99) _ _ (w.heap.size) _ _ _ _ (by rfl) (by exact Hd.out.2) Tryz.underlying95 rfl (by kernel_rfl)
  · have Hs := hideIt (Hsm.out (by omega))
    obtain ⟨rv1, k0, k2, hR1⟩ := HT.out.mo.cells
    have kz := HT.out.kfz
    have l1 : hb < w1.heap.size := HT.out.mo.lh
    have l2 : w.heap.size < w1.heap.size := HT.out.lt
    have HA : Hid (Below w1.heap.size w1 (w1.alloc (.cells #[.int .i64 z] 28))) := alloc_below _
    obtain ⟨i0, hi0, hz0, hz1, hz2⟩ := info_parts info_id
    have HR1 := hideIt hR1
    rcases hR1 with ⟨rfl, rfl⟩ | ⟨rb, off, cap, cells, rfl, xr, ⟨n1, n2, n3, n4⟩, hh, r1, r2, r3, r4⟩
    · have Hm : Hid (0 = ([] : List Int).length) := rfl
      go_wp2_with (at_builtin; refine wpList_append_grows _ rfl (.tmp 22) (.tmp 24) 37 rfl 28 i0 (.int .i64 0) 1 8 Tryz.underlying37 hi0 hz0 hz1 hz2 rfl (by decide) none 0 0 (([] : List Int).map encI) rfl (fun _ => ⟨rfl, rfl⟩) rfl (fun b e => by cases e) ⟨w1.heap.size, 0, none⟩ 1 1 [encI z] rfl rfl (World.news_of_block (cs := #[.int .i64 z]) (t := 28) (fr := (0, 0)) (heap_new _ _)) (one_ints [z]) (by omega) (by unfold maxLen; omega) (by omega) ?_; intro v' w3 hown hg; (obtain ⟨g, cap', X', rfl, g1, g2, hbel, HB⟩ := HT.out.appended HA.out Hm.out (by first | exact hown | (rw [Deep.nblk_alloc]; exact hown)) (by exact hg) Hs.out; have k2' := (hbel.cell (p := ⟨hb, 1, none⟩) l1).trans k2; have kz' := (hbel.frozen (p := ⟨hb, 1, none⟩) l1).trans kz; have c0' := (hbel.cell (p := ⟨w.heap.size, 0, none⟩) l2).trans c0; have c1' := (hbel.cell (p := ⟨w.heap.size, 1, none⟩) l2).trans c1; have c2' := (hbel.cell (p := ⟨w.heap.size, 2, none⟩) l2).trans c2; have c3' := (hbel.cell (p := ⟨w.heap.size, 3, none⟩) l2).trans c3; have c4' := (hbel.cell (p := ⟨w.heap.size, 4, none⟩) l2).trans c4; have f0' := (hbel.frozen (p := ⟨w.heap.size, 0, none⟩) l2).trans f0; have f1' := (hbel.frozen (p := ⟨w.heap.size, 1, none⟩) l2).trans f1; have f2' := (hbel.frozen (p := ⟨w.heap.size, 2, none⟩) l2).trans f2; have f3' := (hbel.frozen (p := ⟨w.heap.size, 3, none⟩) l2).trans f3; have f4' := (hbel.frozen (p := ⟨w.heap.size, 4, none⟩) l2).trans f4; clear hown hg hbel))
      have Hd := hideIt ((HB.out).done (R := Kend B z []) (by simp) true false (HRn.out (by omega) (by simp)))
      refine bodyPost_ret (v := .agg #[.bool true, .bool false, .bool false, .bool false, .int .i64 0]) ?_ rfl (by exact Hd.out.1)
      exact results_cell_row (by exact Tryz.results99) _ _ (w.heap.size) _ _ _ _ (by rfl) (by exact Hd.out.2) Tryz.underlying95 rfl (by kernel_rfl)

    · obtain ⟨m, hm⟩ : ∃ m, m = regs.length := ⟨_, rfl⟩
      rw [← hm] at HR1 k2 hl r2
      have Hm := hideIt hm
      obtain ⟨hag, hsp⟩ := HR1.out.arg hm HA.out
      have Hag := hideIt hag
      have Hsp := hideIt hsp
      have lr := heap_lt hh
      clear hag hsp r1 r4 hh hm
      have n5 : rb ≠ w.heap.size := HT.out.nr rb off _ cap k2
      by_cases h8 : m = 8
      · have Hl : Hid ((regs ++ [z]).tail.length ≤ 8) := by
          have := Hm.out
          show _ ≤ _
          simp
          omega
        subst h8
        go_wp2_with (at_builtin; refine wpList_append_arg _ rfl (.tmp 22) (.tmp 24) 37 rfl 28 i0 (.int .i64 0) 1 8 Tryz.underlying37 hi0 hz0 hz1 hz2 rfl (by decide) rb off 8 cap (regs.map encI) rfl (by have := Hm.out; rw [List.length_map]; omega) (by exact Hag.out) ⟨w1.heap.size, 0, none⟩ 1 1 [encI z] rfl rfl (World.news_of_block (cs := #[.int .i64 z]) (t := 28) (fr := (0, 0)) (heap_new _ _)) (one_ints [z]) (by exact Hsp.out) (by unfold maxLen; omega) (by omega) ?room ?grow)
        case room =>
          intro hroom
          rw [show ∀ (W : World) (b o : Nat) (v : Value), W.setCells b o [v] = W.setCell ⟨b, o, none⟩ v from fun _ _ _ _ => rfl]
          have HB := HT.out.roomed HA.out Hm.out k2 HR1.out hroom Hs.out
          (have hbel := HA.out; have k2' := (hbel.cell (p := ⟨hb, 1, none⟩) l1).trans k2; have kz' := (hbel.frozen (p := ⟨hb, 1, none⟩) l1).trans kz; have c0' := (hbel.cell (p := ⟨w.heap.size, 0, none⟩) l2).trans c0; have c1' := (hbel.cell (p := ⟨w.heap.size, 1, none⟩) l2).trans c1; have c2' := (hbel.cell (p := ⟨w.heap.size, 2, none⟩) l2).trans c2; have c3' := (hbel.cell (p := ⟨w.heap.size, 3, none⟩) l2).trans c3; have c4' := (hbel.cell (p := ⟨w.heap.size, 4, none⟩) l2).trans c4; have f0' := (hbel.frozen (p := ⟨w.heap.size, 0, none⟩) l2).trans f0; have f1' := (hbel.frozen (p := ⟨w.heap.size, 1, none⟩) l2).trans f1; have f2' := (hbel.frozen (p := ⟨w.heap.size, 2, none⟩) l2).trans f2; have f3' := (hbel.frozen (p := ⟨w.heap.size, 3, none⟩) l2).trans f3; have f4' := (hbel.frozen (p := ⟨w.heap.size, 4, none⟩) l2).trans f4; clear hbel)
          have HF := KT.forgot Hm.out HB.out (by omega) ⟨_, by rw [World.cell?_setCell_other _ _ _ _ (by intro e; exact n1 (congrArg Addr.block e))]; exact k2'⟩
          generalize w1.alloc (.cells #[.int .i64 z] 28) = wA at *
          go_wp2_with fail
          have Hd := hideIt ((HF.out).done (R := Kend B z regs) Hl.out true false (HRt.out (by omega) Hm.out.symm))
          refine bodyPost_ret (v := .agg #[.bool true, .bool false, .bool false, .bool false, .int .i64 0]) ?_ rfl (by exact Hd.out.1)
          exact results_cell_row (by exact Tryz.results99) _ _ (w.heap.size) _ _ _ _ (by rfl) (by exact Hd.out.2) Tryz.underlying95 rfl (by kernel_rfl)

        case grow =>
          intro hgrow v' w3 hown hg
          (obtain ⟨g, cap', X', rfl, g1, g2, hbel, HB⟩ := HT.out.appended HA.out Hm.out (by first | exact hown | (rw [Deep.nblk_alloc]; exact hown)) (by exact hg) Hs.out; have k2' := (hbel.cell (p := ⟨hb, 1, none⟩) l1).trans k2; have kz' := (hbel.frozen (p := ⟨hb, 1, none⟩) l1).trans kz; have c0' := (hbel.cell (p := ⟨w.heap.size, 0, none⟩) l2).trans c0; have c1' := (hbel.cell (p := ⟨w.heap.size, 1, none⟩) l2).trans c1; have c2' := (hbel.cell (p := ⟨w.heap.size, 2, none⟩) l2).trans c2; have c3' := (hbel.cell (p := ⟨w.heap.size, 3, none⟩) l2).trans c3; have c4' := (hbel.cell (p := ⟨w.heap.size, 4, none⟩) l2).trans c4; have f0' := (hbel.frozen (p := ⟨w.heap.size, 0, none⟩) l2).trans f0; have f1' := (hbel.frozen (p := ⟨w.heap.size, 1, none⟩) l2).trans f1; have f2' := (hbel.frozen (p := ⟨w.heap.size, 2, none⟩) l2).trans f2; have f3' := (hbel.frozen (p := ⟨w.heap.size, 3, none⟩) l2).trans f3; have f4' := (hbel.frozen (p := ⟨w.heap.size, 4, none⟩) l2).trans f4; clear hown hg hbel)

          have HF := KT.forgot Hm.out HB.out (by omega) ⟨_, k2'⟩
          go_wp2_with fail
          have Hd := hideIt ((HF.out).done (R := Kend B z regs) Hl.out true false (HRt.out (by omega) Hm.out.symm))
          refine bodyPost_ret (v := .agg #[.bool true, .bool false, .bool false, .bool false, .int .i64 0]) ?_ rfl (by exact Hd.out.1)
          exact results_cell_row (by exact Tryz.results99) _ _ (w.heap.size) _ _ _ _ (by rfl) (by exact Hd.out.2) Tryz.underlying95 rfl (by kernel_rfl)

      · have Hl : Hid ((regs ++ [z]).length ≤ 8) := by
          have := Hm.out
          show _ ≤ _
          simp
          omega
        have h8' : (m : Int) + 1 ≤ 8 := by omega
        go_wp2_with (at_builtin; refine wpList_append_arg _ rfl (.tmp 22) (.tmp 24) 37 rfl 28 i0 (.int .i64 0) 1 8 Tryz.underlying37 hi0 hz0 hz1 hz2 rfl (by decide) rb off m cap (regs.map encI) rfl (by have := Hm.out; rw [List.length_map]; omega) (by exact Hag.out) ⟨w1.heap.size, 0, none⟩ 1 1 [encI z] rfl rfl (World.news_of_block (cs := #[.int .i64 z]) (t := 28) (fr := (0, 0)) (heap_new _ _)) (one_ints [z]) (by exact Hsp.out) (by unfold maxLen; omega) (by omega) ?room ?grow)
        case room =>
          intro hroom
          rw [show ∀ (W : World) (b o : Nat) (v : Value), W.setCells b o [v] = W.setCell ⟨b, o, none⟩ v from fun _ _ _ _ => rfl]
          have HB := HT.out.roomed HA.out Hm.out k2 HR1.out hroom Hs.out
          (have hbel := HA.out; have k2' := (hbel.cell (p := ⟨hb, 1, none⟩) l1).trans k2; have kz' := (hbel.frozen (p := ⟨hb, 1, none⟩) l1).trans kz; have c0' := (hbel.cell (p := ⟨w.heap.size, 0, none⟩) l2).trans c0; have c1' := (hbel.cell (p := ⟨w.heap.size, 1, none⟩) l2).trans c1; have c2' := (hbel.cell (p := ⟨w.heap.size, 2, none⟩) l2).trans c2; have c3' := (hbel.cell (p := ⟨w.heap.size, 3, none⟩) l2).trans c3; have c4' := (hbel.cell (p := ⟨w.heap.size, 4, none⟩) l2).trans c4; have f0' := (hbel.frozen (p := ⟨w.heap.size, 0, none⟩) l2).trans f0; have f1' := (hbel.frozen (p := ⟨w.heap.size, 1, none⟩) l2).trans f1; have f2' := (hbel.frozen (p := ⟨w.heap.size, 2, none⟩) l2).trans f2; have f3' := (hbel.frozen (p := ⟨w.heap.size, 3, none⟩) l2).trans f3; have f4' := (hbel.frozen (p := ⟨w.heap.size, 4, none⟩) l2).trans f4; clear hbel)
          generalize w1.alloc (.cells #[.int .i64 z] 28) = wA at *
          go_wp2_with fail
          have Hd := hideIt ((HB.out).done (R := Kend B z regs) Hl.out true false (HRn.out (by omega) (by have := Hm.out; omega)))
          refine bodyPost_ret (v := .agg #[.bool true, .bool false, .bool false, .bool false, .int .i64 0]) ?_ rfl (by exact Hd.out.1)
          exact results_cell_row (by exact Tryz.results99) _ _ (w.heap.size) _ _ _ _ (by rfl) (by exact Hd.out.2) Tryz.underlying95 rfl (by kernel_rfl)

        case grow =>
          intro hgrow v' w3 hown hg
          (obtain ⟨g, cap', X', rfl, g1, g2, hbel, HB⟩ := HT.out.appended HA.out Hm.out (by first | exact hown | (rw [Deep.nblk_alloc]; exact hown)) (by exact hg) Hs.out; have k2' := (hbel.cell (p := ⟨hb, 1, none⟩) l1).trans k2; have kz' := (hbel.frozen (p := ⟨hb, 1, none⟩) l1).trans kz; have c0' := (hbel.cell (p := ⟨w.heap.size, 0, none⟩) l2).trans c0; have c1' := (hbel.cell (p := ⟨w.heap.size, 1, none⟩) l2).trans c1; have c2' := (hbel.cell (p := ⟨w.heap.size, 2, none⟩) l2).trans c2; have c3' := (hbel.cell (p := ⟨w.heap.size, 3, none⟩) l2).trans c3; have c4' := (hbel.cell (p := ⟨w.heap.size, 4, none⟩) l2).trans c4; have f0' := (hbel.frozen (p := ⟨w.heap.size, 0, none⟩) l2).trans f0; have f1' := (hbel.frozen (p := ⟨w.heap.size, 1, none⟩) l2).trans f1; have f2' := (hbel.frozen (p := ⟨w.heap.size, 2, none⟩) l2).trans f2; have f3' := (hbel.frozen (p := ⟨w.heap.size, 3, none⟩) l2).trans f3; have f4' := (hbel.frozen (p := ⟨w.heap.size, 4, none⟩) l2).trans f4; clear hown hg hbel)

          go_wp2_with fail
          have Hd := hideIt ((HB.out).done (R := Kend B z regs) Hl.out true false (HRn.out (by omega) (by have := Hm.out; omega)))
          refine bodyPost_ret (v := .agg #[.bool true, .bool false, .bool false, .bool false, .int .i64 0]) ?_ rfl (by exact Hd.out.1)
          exact results_cell_row (by exact Tryz.results99) _ _ (w.heap.size) _ _ _ _ (by rfl) (by exact Hd.out.2) Tryz.underlying95 rfl (by kernel_rfl)

end Go.Proofs.Qxb6500848aGreatDoor
