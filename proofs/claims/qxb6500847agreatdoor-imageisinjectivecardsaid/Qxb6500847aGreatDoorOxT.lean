/-
  Free, exactly.
-/
import Derived.Test.Qxb6500847aGreatDoorOxG
namespace Go.Proofs.Qxb6500847aGreatDoor.Os
open Go.RowKit FloorA
set_option maxRecDepth 100000
section
variable {A : Nat} {rb sb : Nat → Nat} {s : Av} {tl : Nat → List Int} {ws : Nat → Nat → Nat → Int} {w : World} {L : Nat → List Nat} {n p c i : Nat}
/-- A sound state that is observed as M. -/
def SuX (A : Nat) (rb sb : Nat → Nat) (M : Nat → En) (w w' : World) : Prop :=
  ∃ s' tl' ws' L' n', Ms w' A rb sb s' tl' ws' ∧ Ext w.heap.size (Tz A rb sb) w w' ∧ IV s' tl' L' n' ∧ IX s' tl' L' n' ∧ Wr ws' ∧ ob s' ws' = M
/-- Refused, or done: exactly. -/
def TrPost (A : Nat) (rb sb : Nat → Nat) (s : Av) (ws : Nat → Nat → Nat → Int) (X : Int × (Nat → En)) (w : World) (e : Ending) (w' : World) : Prop :=
  (∃ v, e = .returned v ∧ Refu w v w' X.1 ∧ X.2 = ob s ws) ∨ (X.1 = 0 ∧ e = .returned .nilIface ∧ SuX A rb sb X.2 w w')
theorem TrPost.err {X : Int × (Nat → En)} {w w' : World} {v : Value} {c : Int} (hX : X = (c, ob s ws)) (h : Refu w v w' c) : TrPost A rb sb s ws X w (.returned v) w' := by
  subst hX
  exact Or.inl ⟨v, rfl, h, rfl⟩
set_option maxHeartbeats 2000000 in
theorem Free_x (h : Ms w A rb sb s tl ws) (hI : IV s tl L n) (hX : IX s tl L n) (hW : Wr ws) (i : Nat) (g : Int) :
    Calls Tryz.prog 53 #[.pointer (some ⟨A, 0, none⟩), .agg #[.int .u16 (i : Int), .int .u32 g]] w (TrPost A rb sb s ws (freX (ob s ws) i g) w) := by
  have bB := alloc_below (w := w) (.cells #[.int .u16 (i : Int), .int .u32 g] 32)
  have hz : (w.alloc (.cells #[.int .u16 (i : Int), .int .u32 g] 32)).heap[w.heap.size]? = some (.cells #[.int .u16 (i : Int), .int .u32 g] 32 (0, 0)) := heap_new _ _
  have HM := hideIt (h.below bB)
  have HB := hideIt bB
  have HI := hideIt hI
  have HX := hideIt hX
  have HW : Hid (Wr ws) := hW
  clear h hI bB hX hW
  go_enter Tryz.func53, Tryz.ntmps53
  go_wp2_with fail
  go_at_call 98
  refine (resolve_walk HM.out.am i g _).mono ?_
  rintro e w1 ⟨hb1, hh⟩
  have HB1 := hideIt (Below.thr HB.out hb1)
  have HM1 := hideIt (HM.out.below hb1)
  have l0 : w.heap.size < w1.heap.size := Nat.lt_of_lt_of_le (heap_lt hz) hb1.size
  have hx := (hb1.block w.heap.size (heap_lt hz)).trans hz
  have x0 := box_cell hx 0
  have x1 := box_cell hx 1
  simp only [List.getElem?_toArray, List.getElem?_cons_zero, List.getElem?_cons_succ] at x0 x1
  clear hb1 hz hx
  rcases hh with ⟨hl, rfl⟩ | ⟨hl, v, rfl, hv⟩
  · have ht := HM1.out.am.typ hl.1
    have HL := hideIt hl
    have i320 : (i : Int) < 320 := by have := hl.1; omega
    clear hl
    have HT : Hid (((s.hd i).typ = 1 ∧ 256 ≤ i) ∨ ((s.hd i).typ ≠ 1 ∧ i < 256)) := by
      obtain ⟨k, ek, k7, kk⟩ := HI.out.ge.typ i HL.out.1
      have k0 : k ≠ 0 := fun e => HL.out.2.2.1 (by rw [ek, e]; rfl)
      have := kk k0
      by_cases h1 : k = 1
      · exact Or.inl ⟨by rw [ek, h1]; rfl, this.1 h1⟩
      · exact Or.inr ⟨by rw [ek]; omega, by omega⟩
    have HRel : ∀ w2 : World, Below w.heap.size w w2 → Ms w2 A rb sb s tl ws → (IsReg s i → L i = []) → Calls Tryz.prog 136 #[.pointer (some ⟨A, 0, none⟩), .int .u16 (i : Int)] w2 (fun e w' => e = .returned (.tuple #[]) ∧ TrPost A rb sb s ws (freX (ob s ws) i g) w (.returned .nilIface) w') := fun w2 hb hm hE => by
      refine (release_x hm HI.out HX.out HL.out.1 HL.out.2.2.1 hE).mono ?_
      rintro e w' ⟨rfl, s', tl', n', a1, a2, a3, a4, a5, a6⟩
      refine ⟨rfl, Or.inr ?_⟩
      rw [freX_ok HX.out HI.out HL.out hE]
      exact ⟨rfl, rfl, s', tl', ws, _, n', a1, (Ext.of_below hb _).trans a2 hb.size (fun _ _ q => q), a3, a4, HW.out, ob_rel HL.out.1 a5 a6⟩
    have HRe := hideIt HRel
    clear HRel
    rcases HT.out with ⟨h1, i1⟩ | ⟨h1, i1⟩
    · rw [h1] at ht
      have hkd := HI.out.tr.kds i ⟨i1, HL.out.1, h1⟩
      have r2 := HM1.out.am.rgc (i := i - 256) (f := 2) (by have := HL.out.1; omega) (by omega)
      simp only [rgC] at r2
      rw [hkd] at r2
      have H1 := hideIt h1
      clear hkd h1 HT
      by_cases hE : L i = []
      · rw [hE] at r2
        simp only [List.length_nil] at r2
        have HE := hideIt hE
        clear hE
        go_wp2_with (go_at_call 45; refine (body_walk A i1 HL.out.1 _).mono ?_; rintro e w' ⟨rfl, hw'⟩; obtain rfl := hw'.symm)
        go_at_call 136
        refine (HRe.out w1 HB1.out HM1.out (fun _ => HE.out)).mono ?_
        rintro e w2 ⟨rfl, hf⟩
        have HF := hideIt hf
        clear hf
        go_wp2_with fail
        exact bodyPost_ret (v := .nilIface) (by simp [results, Tryz.results53]) rfl HF.out
      · have c1 : ((L i).length : Int) > 0 := by
          have := List.length_pos_iff.2 hE
          omega
        have HXB := hideIt (freX_busy (ws := ws) HX.out HI.out HL.out ⟨i1, HL.out.1, H1.out⟩ hE)
        clear hE
        go_wp2_with (go_at_call 45; refine (body_walk A i1 HL.out.1 _).mono ?_; rintro e w' ⟨rfl, hw'⟩; obtain rfl := hw'.symm)
        go_at_call 123
        refine (refuse_walk _ _ _ _ _ _).mono ?_
        rintro e w2 ⟨v, rfl, hv, hb⟩
        have HF : Hid (TrPost A rb sb s ws (freX (ob s ws) i g) w (.returned v) w2) := TrPost.err HXB.out ⟨hv, by omega, Below.thr HB1.out hb⟩
        clear hv hb
        go_wp2_with fail
        exact bodyPost_ret (v := v) (by simp [results, Tryz.results53]) rfl HF.out
    · have c1 : ((s.hd i).typ == 1) = false := by rw [beq_eq_false_iff_ne]; exact h1
      clear h1 HT
      go_wp2_with fail
      go_at_call 136
      refine (HRe.out w1 HB1.out HM1.out (fun q => absurd q.1 (by omega))).mono ?_
      rintro e w2 ⟨rfl, hf⟩
      have HF := hideIt hf
      clear hf
      go_wp2_with fail
      exact bodyPost_ret (v := .nilIface) (by simp [results, Tryz.results53]) rfl HF.out
  · obtain ⟨b, rfl, hbc⟩ := hv
    have HF : Hid (TrPost A rb sb s ws (freX (ob s ws) i g) w (.returned (.iface 212 (.pointer (some ⟨b, 0, none⟩)))) w1) := TrPost.err (freX_dead hl) ⟨⟨b, rfl, hbc⟩, stale_ne i g, HB1.out⟩
    clear hbc hl
    go_wp2_with fail
    exact bodyPost_ret (by simp [results, Tryz.results53]) rfl HF.out
end
end Go.Proofs.Qxb6500847aGreatDoor.Os
