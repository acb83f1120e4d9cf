/-
  The inner closure of the law.
-/
import Derived.Test.Qxb6500848aDoorMach2
import Derived.Test.Qxb6500848aDoorProbB
namespace Go.Proofs.Qxb6500848aDoor
open Go.RowKit Pl Go.Maps
set_option maxRecDepth 100000

def HPost (X : Nat → Prop) (w : World) (eb mb ab nb : Nat) (lim : Int) (A : List Nd) (e : Ending) (w' : World) : Prop :=
  ∃ X' nb' A' z b, GrE X w eb mb ab nb lim A X' w' nb' A' ∧ e = .returned (.tuple #[.int .i64 z, .bool b]) ∧ (b = true → Valid A' z) ∧ (b = false → lim ≤ A'.length)

theorem LW.grow {X X' : Nat → Prop} {w w' : World} {eb mb ab nb nb' : Nat} {lim : Int} {A A' : List Nd} {v : Value} {us : List Value} (h : LW X w v us) (hE : En X w eb mb ab nb lim A) (g : GrE X w eb mb ab nb lim A X' w' nb' A') : LW X' w' v us :=
  ⟨g.seq hE h.1, fun u hu => by
    obtain ⟨wd, h1, h2, h3⟩ := h.2 u hu
    exact ⟨wd, h1, g.seq hE h2, h3⟩⟩
theorem LW.below {X : Nat → Prop} {w w' : World} {v : Value} {us : List Value} (h : LW X w v us) (k : Below w.heap.size w w') : LW X w' v us :=
  ⟨h.1.below k (Nat.le_refl _), fun u hu => (h.2 u hu).below k⟩

set_option maxHeartbeats 8000000 in
theorem holds_walk {X : Nat → Prop} {w : World} {kb eb mb ab nb : Nat} {lim : Int} {A : List Nd} {regs : List Int} (hM : Mc X w kb eb mb ab nb lim A regs) (hlim : lim ≤ 65536) {r c : Int} (hr : Valid A r) {bx wx : Nat} {wv : Value} {us : List Value}
    (hb1 : w.cell? ⟨bx, 0, none⟩ = some (.pointer (some ⟨kb, 0, none⟩))) (hb2 : w.cell? ⟨wx, 0, none⟩ = some wv) (nbx : ¬ X bx) (nwx : ¬ X wx) (hW : LW X w wv us) (hus : us.length ≤ 10000000) :
    Calls Tryd.prog 10 #[.int .i64 r, .int .i64 c, .pointer (some ⟨bx, 0, none⟩), .pointer (some ⟨wx, 0, none⟩)] w (HPost X w eb mb ab nb lim A) := by
  obtain ⟨rv, k0, k1, k2, _⟩ := hM.cells
  have HM := hideIt hM
  have Hr := hideIt hr
  have HW := hideIt hW
  have Hnb := hideIt nbx
  have Hnw := hideIt nwx
  have lbx := cell_lt hb1
  have lwx := cell_lt hb2
  clear hM hr hW nbx nwx
  go_enter Tryd.func10, Tryd.ntmps10
  go_wp2_with fail
  go_at_call 11
  refine (Deriv_walk hlim HM.out.en Hr.out).mono ?_
  rintro e w1 ⟨X1, nb1, A1, z1, ev1, hg1, rfl, hh1⟩
  have hM1 := HM.out.grow hg1
  obtain ⟨rv1, j0, j1, j2, _⟩ := hM1.cells
  have d1 := (hg1.ext.cell (p := ⟨bx, 0, none⟩) lbx (HM.out.en.out Hnb.out)).trans hb1
  have d2 := (hg1.ext.cell (p := ⟨wx, 0, none⟩) lwx (HM.out.en.out Hnw.out)).trans hb2
  have HM1 := hideIt hM1
  have HG1 := hideIt hg1
  have HW1 := hideIt (HW.out.grow HM.out.en hg1)
  have Hr1 := hideIt (hg1.le.valid Hr.out)
  clear hM1 hg1
  rcases hh1 with ⟨rfl, hz, hq⟩ | ⟨⟨t1, v1, rfl⟩, rfl, hf1⟩
  · have Hz := hideIt hz
    have Hq := hideIt hq
    clear hz hq
    obtain ⟨⟨wa, wc, rfl, w1', w2', w3'⟩, _⟩ := HW1.out
    clear w3'
    go_wp2_with fail
    go_loopw [27] (fun i wr => ∃ k : Nat, k ≤ us.length ∧ i = .int .i64 k ∧ Below w1.heap.size w1 wr) (fun i _ => us.length - (intOf i).toNat)
    case atStart => exact ⟨0, by omega, rfl, Below.refl _ _⟩
    case round =>
      obtain ⟨k, hk, rfl, hB⟩ := hrel
      by_cases hlt : k < us.length
      · have hlt' : (k : Int) < (us.length : Int) := by omega
        have hL := HW1.out.below hB
        obtain ⟨⟨ad, cap', e, _, _, h3⟩, hel⟩ := hL
        cases e
        obtain ⟨g, o, rfl, _, hc⟩ := h3 (fun e => by rw [e] at hlt; cases hlt)
        have cu := hc k hlt
        obtain ⟨wd, hwl, hwi, hwz⟩ := hel _ (List.getElem_mem hlt)
        generalize us[k] = u at *
        have s1 := (hB.cell (p := ⟨bx, 0, none⟩) (cell_lt d1)).trans d1
        have s2 := (hB.cell (p := ⟨kb, 0, none⟩) HM1.out.lk).trans j0
        have KP : Hid (∀ W W' : World, W.cell? ⟨bx, 0, none⟩ = some (.pointer (some ⟨kb, 0, none⟩)) ∧ W.cell? ⟨kb, 0, none⟩ = some (.pointer (some ⟨ab, 0, none⟩)) ∧ Below wr.heap.size wr W → Below W.heap.size W W' → W'.cell? ⟨bx, 0, none⟩ = some (.pointer (some ⟨kb, 0, none⟩)) ∧ W'.cell? ⟨kb, 0, none⟩ = some (.pointer (some ⟨ab, 0, none⟩)) ∧ Below wr.heap.size wr W') := fun W W' h k =>
          ⟨(k.cell (p := ⟨bx, 0, none⟩) (cell_lt h.1)).trans h.1, (k.cell (p := ⟨kb, 0, none⟩) (cell_lt h.2.1)).trans h.2.1, h.2.2.trans (k.mono h.2.2.size)⟩
        have HB := hideIt hB
        have Hwi := hideIt hwi
        have Hwz := hideIt hwz
        have HSt := hideIt (HM1.out.en.st.below hB (Nat.le_refl _))
        have hB0 : Below wr.heap.size wr wr := Below.refl _ _
        clear h3 hc hel hwi hwz hB
        go_wp2_with fail
        go_region_held3 (fun w' => w'.cell? ⟨bx, 0, none⟩ = some (.pointer (some ⟨kb, 0, none⟩)) ∧ w'.cell? ⟨kb, 0, none⟩ = some (.pointer (some ⟨ab, 0, none⟩)) ∧ Below wr.heap.size wr w') (first | (exact KP.out _ _ ⟨s1, s2, hB0⟩ (below_d _)) | (exact KP.out _ _ ⟨by assumption, by assumption, by assumption⟩ hBa) | (exact KP.out _ _ ⟨by assumption, by assumption, by assumption⟩ hBb) | (exact KP.out _ _ ⟨by assumption, by assumption, by assumption⟩ hBc))
          (first
            | (go_at_call_of 12 (Value.int IntKind.i64 z1); go_split_ands; refine (has_walk (HSt.out.below (by assumption) (Nat.le_refl _)) (Hwi.out.below (by assumption) (Nat.le_refl _)) (by omega) Hz.out).mono ?_; rintro e wA ⟨b1, rfl, hb1', hBa⟩)
            | (go_at_call 13; go_split_ands; refine (before_walk c (Hwi.out.below (by assumption) (Nat.le_refl _)) Hwz.out (by omega)).mono ?_; rintro e wB ⟨bv, rfl, hbI, hbz, hBb⟩)
            | (go_at_call_of 12 bv; go_split_ands; refine (has_walk (HSt.out.below (by assumption) (Nat.le_refl _)) (X := X1) (wd := c :: wd) (by first | exact hbI.more (fun b _ x => Nat.lt_of_lt_of_le (HSt.out.xlt b x) (Below.size (by assumption))) | exact (hbI.more (fun b _ x => Nat.lt_of_lt_of_le (HSt.out.xlt b x) (Below.size (by assumption)))).below hBa (Nat.le_refl _)) (by simp; omega) Hr1.out).mono ?_; rintro e wC ⟨b2, rfl, hb2', hBc⟩))
        all_goals
          go_split_ands
          have eb : b1 = b2 := Bool.eq_iff_iff.2 (hb1'.trans ((Hq.out wd).trans hb2'.symm))
          subst eb
          clear hb1' hb2'
          cases b1
          all_goals
            go_wp2_with fail
            go_roundw
            case rel => exact ⟨k + 1, by omega, by go_num, HB.out.trans (Below.mono (by assumption) HB.out.size)⟩
            case measure => simp [intOf]; omega
      · obtain rfl : k = us.length := by omega
        have HB := hideIt hB
        clear hB
        go_wp2_with fail
        go_ret2
        exact ⟨X1, nb1, A1, z1, true, HG1.out.below HB.out (Nat.le_refl _), rfl, fun _ => Hz.out, fun h => (by cases h)⟩
  · go_wp2_with fail
    go_ret2
    exact ⟨X1, nb1, A1, 0, false, HG1.out, rfl, fun h => (by cases h), fun _ => hf1⟩
end Go.Proofs.Qxb6500848aDoor
