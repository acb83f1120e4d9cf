/-
  The abstract model in memory; live, end, ref, check, checkRegion, fail.
-/
import Derived.Test.Qxb6500847aGreatDoorOxSx
import Derived.Test.Qxb6500847aGreatDoorOxRl
import Derived.Test.Qxb6500847aGreatDoorOxPz
import Derived.Deep.QuietTactic
namespace Go.Proofs.Qxb6500847aGreatDoor.Os
open Go.RowKit FloorA
set_option maxRecDepth 100000
theorem belowN (w : World) (n : Nat) : Below w.heap.size w (w.drewN n) := ⟨rfl, rfl, rfl, Nat.le_refl _, fun _ _ => rfl⟩
theorem drew_eq (w : World) : w.drew = w.drewN 1 := rfl
/-- A parent's number as the model spells it. -/
def pz (p : Int) : Int := if p = 65535 then -1 else p
def entL (e : En) : List Value := [.int .u32 e.gen, .int .u8 e.typ, .int .u64 e.bas, .int .u64 e.siz, .int .i64 (pz e.par)]
/-- An entry's words: a slice. -/
def WdV (w : World) (g : Nat) (l : List Int) (v : Value) : Prop := (l = [] ∧ ∃ ad c, v = .slice ad 0 c) ∨ (l ≠ [] ∧ ∃ c, v = .slice (some ⟨g, 0, none⟩) l.length c ∧ l.length ≤ c ∧ c ≤ maxLen ∧ w.rangeAt g 0 (l.map (.int .u64)) ∧ ∀ o, w.frozen? ⟨g, o, none⟩ = false)
/-- The model lies in block B, the words of entry i in block wb i. -/
structure Md (w : World) (B : Nat) (wb : Nat → Nat) (M : Nat → En) : Prop where
  cel : ∀ i, i < 320 → w.rangeAt B (i * 6) (entL (M i))
  wrd : ∀ i, i < 320 → ∃ v, w.cell? ⟨B, i * 6 + 5, none⟩ = some v ∧ WdV w (wb i) (M i).wds v
  fz : ∀ o, w.frozen? ⟨B, o, none⟩ = false
  ne : ∀ i, i < 320 → (M i).wds ≠ [] → wb i ≠ B
  inj : ∀ i j, i < 320 → j < 320 → (M i).wds ≠ [] → (M j).wds ≠ [] → wb i = wb j → i = j
/-- The model's blocks. -/
def Tm (B : Nat) (wb : Nat → Nat) (M : Nat → En) (b : Nat) : Prop := b = B ∨ ∃ i, i < 320 ∧ (M i).wds ≠ [] ∧ b = wb i
/-- The numbers of a sound state. -/
structure Mk (M : Nat → En) : Prop where
  gen : ∀ i, i < 320 → ∃ g : Nat, (M i).gen = (g : Int) ∧ 1 ≤ g ∧ g < 4294967296
  lg : ∀ i, i < 320 → (M i).typ ≠ 0 → (M i).gen < 4294967295
  typ : ∀ i, i < 320 → ∃ k : Nat, (M i).typ = (k : Int) ∧ k ≤ 7 ∧ (k ≠ 0 → (k = 1 ↔ 256 ≤ i))
  bas : ∀ i, i < 320 → 0 ≤ (M i).bas ∧ 0 ≤ (M i).siz ∧ (M i).bas + (M i).siz ≤ 281474976710656
  siz : ∀ i, i < 320 → (M i).typ ≠ 0 → 0 < (M i).siz
  par : ∀ i, i < 320 → (M i).par = 65535 ∨ ∃ p : Nat, p < 320 ∧ (M i).par = (p : Int)
  fre : ∀ i, i < 320 → (M i).typ = 0 → (M i).bas = 0 ∧ (M i).siz = 0 ∧ (M i).par = 65535
  wln : ∀ i, i < 320 → (M i).wds.length = (if (M i).typ < 2 then 0 else nF ((M i).typ.toNat - 2))
  wrg : ∀ i, i < 320 → ∀ x ∈ (M i).wds, 0 ≤ x ∧ x < 18446744073709551616
section
variable {w w' : World} {B : Nat} {wb : Nat → Nat} {M : Nat → En} {i : Nat}
theorem Md.gen (h : Md w B wb M) (hi : i < 320) : w.cell? ⟨B, i * 6, none⟩ = some (.int .u32 (M i).gen) := h.cel i hi 0 _ rfl
theorem Md.typ (h : Md w B wb M) (hi : i < 320) : w.cell? ⟨B, i * 6 + 1, none⟩ = some (.int .u8 (M i).typ) := h.cel i hi 1 _ rfl
theorem Md.bas (h : Md w B wb M) (hi : i < 320) : w.cell? ⟨B, i * 6 + 2, none⟩ = some (.int .u64 (M i).bas) := h.cel i hi 2 _ rfl
theorem Md.siz (h : Md w B wb M) (hi : i < 320) : w.cell? ⟨B, i * 6 + 3, none⟩ = some (.int .u64 (M i).siz) := h.cel i hi 3 _ rfl
theorem Md.par (h : Md w B wb M) (hi : i < 320) : w.cell? ⟨B, i * 6 + 4, none⟩ = some (.int .i64 (pz (M i).par)) := h.cel i hi 4 _ rfl
theorem Md.lt (h : Md w B wb M) : B < w.heap.size := cell_lt (h.gen (i := 0) (by omega))
theorem Md.wlt (h : Md w B wb M) (hi : i < 320) (hw : (M i).wds ≠ []) : wb i < w.heap.size := by
  obtain ⟨v, _, e⟩ := h.wrd i hi
  rcases e with ⟨e, _⟩ | ⟨_, c, _, _, _, r, _⟩
  · exact absurd e hw
  · obtain ⟨x, hx⟩ : ∃ x, ((M i).wds.map (Value.int .u64))[0]? = some x := ⟨_, List.getElem?_eq_getElem (by rw [List.length_map]; exact List.length_pos_iff.2 hw)⟩
    exact cell_lt (r 0 x hx)
theorem Md.tlt (h : Md w B wb M) {b : Nat} (hb : Tm B wb M b) : b < w.heap.size := by
  rcases hb with rfl | ⟨i, hi, hw, rfl⟩
  · exact h.lt
  · exact h.wlt hi hw
theorem Md.ext {X : Nat → Prop} (h : Md w B wb M) (e : Ext w.heap.size X w w') (hX : ∀ b, Tm B wb M b → ¬ X b) : Md w' B wb M := by
  have fzk : ∀ {b : Nat}, b < w.heap.size → ¬ X b → ∀ o, w.frozen? ⟨b, o, none⟩ = false → w'.frozen? ⟨b, o, none⟩ = false := fun hb hx o k => (World.frozen?_of_block (a := ⟨_, o, none⟩) (e.block _ hb hx)).trans k
  have hB := hX B (Or.inl rfl)
  refine ⟨fun i hi => rangeAt_ext (h.cel i hi) e hB, fun i hi => ?_, fun o => fzk h.lt hB o (h.fz o), h.ne, h.inj⟩
  obtain ⟨v, hv, hd⟩ := h.wrd i hi
  refine ⟨v, (e.cell (p := ⟨B, i * 6 + 5, none⟩) h.lt hB).trans hv, ?_⟩
  rcases hd with hd | ⟨hn, c, e1, e2, e3, e4, e5⟩
  · exact Or.inl hd
  · have hx := hX (wb i) (Or.inr ⟨i, hi, hn, rfl⟩)
    exact Or.inr ⟨hn, c, e1, e2, e3, rangeAt_ext e4 e hx, fun o => fzk (h.wlt hi hn) hx o (e5 o)⟩
theorem Md.below (h : Md w B wb M) (k : Below w.heap.size w w') : Md w' B wb M := h.ext (Ext.of_below k (fun _ => False)) (fun _ _ q => q)
theorem live_m (h : Md w B wb M) (hi : i < 320) :
    Calls Tryz.prog 203 #[.pointer (some ⟨B, 0, none⟩), .int .i64 (i : Int)] w fun e w' => e = .returned (.bool (decide ((M i).typ ≠ 0))) ∧ w' = w := by
  have i' : (i : Int) < 320 := by omega
  have z := h.typ hi
  clear h
  go_enter Tryz.func203, Tryz.ntmps203
  go_wp2_with fail
  go_ret
  exact ⟨by simp [bne, Bool.beq_eq_decide_eq], rfl⟩
theorem end_m (h : Md w B wb M) (hM : Mk M) (hi : i < 320) :
    Calls Tryz.prog 204 #[.pointer (some ⟨B, 0, none⟩), .int .i64 (i : Int)] w fun e w' => e = .returned (.int .u64 ((M i).bas + (M i).siz)) ∧ ∃ m, w' = w.drewN m := by
  have i' : (i : Int) < 320 := by omega
  have z := h.bas hi
  have z2 := h.siz hi
  obtain ⟨b0, b1, b2⟩ := hM.bas i hi
  have hu : IntKind.u64.wrap ((M i).bas + (M i).siz) = (M i).bas + (M i).siz := u64_same (by omega) (by omega)
  clear h hM
  go_enter Tryz.func204, Tryz.ntmps204
  go_wp2_with fail
  go_quiet (fail)
  go_wp2_with fail
  go_ret
  exact ⟨rfl, _, rfl⟩
theorem ref_m (h : Md w B wb M) (hi : i < 320) :
    Calls Tryz.prog 206 #[.pointer (some ⟨B, 0, none⟩), .int .i64 (i : Int)] w fun e w' => e = .returned (.agg #[.int .u16 (i : Int), .int .u32 (M i).gen]) ∧ Below w.heap.size w w' := by
  have i' : (i : Int) < 320 := by omega
  have h0 := (h.below (alloc_below (w := w) (.cells #[.int .u16 0, .int .u32 0] 32))).gen hi
  have hw : IntKind.u16.wrap (i : Int) = (i : Int) := by unfold IntKind.wrap; simp [IntKind.bits, IntKind.signed]; omega
  have la := h.lt
  go_enter Tryz.func206, Tryz.ntmps206
  go_wp2
  refine bodyPost_ret (v := .agg #[.int .u16 (i : Int), .int .u32 (M i).gen]) ?_ rfl ⟨rfl, alloc_below _⟩
  exact results_cell_row (by exact Tryz.results206) _ _ w.heap.size _ _ _ _ (by rfl) (by exact heap_new _ _) Tryz.underlying32 rfl (by kernel_rfl)
theorem ref_none (w : World) (B : Nat) :
    Calls Tryz.prog 206 #[.pointer (some ⟨B, 0, none⟩), .int .i64 (-1)] w fun e w' => e = .returned (.agg #[.int .u16 0, .int .u32 0]) ∧ Below w.heap.size w w' := by
  go_enter Tryz.func206, Tryz.ntmps206
  go_wp2
  refine bodyPost_ret (v := .agg #[.int .u16 0, .int .u32 0]) ?_ rfl ⟨rfl, alloc_below _⟩
  exact results_cell_row (by exact Tryz.results206) _ _ w.heap.size _ _ _ _ (by rfl) (by exact heap_new _ _) Tryz.underlying32 rfl (by kernel_rfl)
/-- The parent's reference. -/
theorem ref_par (h : Md w B wb M) (hM : Mk M) (hi : i < 320) :
    Calls Tryz.prog 206 #[.pointer (some ⟨B, 0, none⟩), .int .i64 (pz (M i).par)] w fun e w' => e = .returned (.agg #[.int .u16 ((parR M i).1 : Int), .int .u32 (parR M i).2]) ∧ Below w.heap.size w w' := by
  unfold pz parR
  rcases hM.par i hi with e | ⟨p, hp, e⟩
  · rw [if_pos e, if_pos e]
    exact ref_none w B
  · have hn : ¬ (M i).par = 65535 := by omega
    have e2 : (M i).par.toNat = p := by omega
    rw [if_neg hn, if_neg hn, e2, e]
    exact ref_m h hp
theorem fail_m (w : World) (c : Int) :
    Calls Tryz.prog 90 #[.int .u8 c] w fun e w' => e = .returned (.agg #[.int .u8 c, .slice none 0 0, .slice none 0 0]) ∧ Below w.heap.size w w' := by
  go_enter Tryz.func90, Tryz.ntmps90
  go_wp2
  refine bodyPost_ret (v := .agg #[.int .u8 c, .slice none 0 0, .slice none 0 0]) ?_ rfl ⟨rfl, alloc_below _⟩
  exact results_cell_row (by exact Tryz.results90) _ _ w.heap.size _ _ _ _ (by rfl) (by exact heap_new _ _) Tryz.underlying57 rfl (by kernel_rfl)
set_option maxHeartbeats 2000000 in
theorem check_m (h : Md w B wb M) (i : Nat) (h6 : i < 65536) (g : Int) :
    Calls Tryz.prog 211 #[.pointer (some ⟨B, 0, none⟩), .agg #[.int .u16 (i : Int), .int .u32 g]] w fun e w' => e = .returned (.int .u8 (chk M i g)) ∧ Below w.heap.size w w' := by
  have bB := alloc_below (w := w) (.cells #[.int .u16 (i : Int), .int .u32 g] 32)
  have hz : (w.alloc (.cells #[.int .u16 (i : Int), .int .u32 g] 32)).heap[w.heap.size]? = some (.cells #[.int .u16 (i : Int), .int .u32 g] 32 (0, 0)) := heap_new _ _
  obtain ⟨x0, x1, _, _⟩ := two_cells hz
  have HM := hideIt (h.below bB)
  have HB := hideIt bB
  clear h bB hz
  unfold chk
  by_cases hi : i < 320
  · have i' : ¬ (i : Int) ≥ 320 := by omega
    have i2 : (i : Int) < 320 := by omega
    by_cases hg : g = 0
    · subst hg
      have hc : (if i < 320 ∧ (0 : Int) ≠ 0 then (if (M i).typ ≠ 0 ∧ (M i).gen = 0 then 0 else 2) else 1 : Int) = 1 := if_neg (fun q => q.2 rfl)
      rw [hc]
      clear hc
      go_enter Tryz.func211, Tryz.ntmps211
      go_wp2_with fail
      go_ret
      exact ⟨rfl, HB.out⟩
    · have hgb : (g == 0) = false := by rw [beq_eq_false_iff_ne]; exact hg
      rw [if_pos ⟨hi, hg⟩]
      have hgc := HM.out.gen hi
      have HL := hideIt (fun q => live_m (w := ((w.alloc (.cells #[.int .u16 (i : Int), .int .u32 g] 32)).drewN q)) (HM.out.below (belowN _ q)) hi)
      by_cases ht : (M i).typ = 0
      · have hd : decide ((M i).typ ≠ 0) = false := by simp [ht]
        have hc : (if (M i).typ ≠ 0 ∧ (M i).gen = g then 0 else 2 : Int) = 2 := if_neg (fun q => q.1 ht)
        rw [hc]
        rw [hd] at HL
        clear hc hd ht
        go_enter Tryz.func211, Tryz.ntmps211
        go_wp2_with fail
        go_quiet ((go_at_call 203; exact Calls.quiet_of_same (HL.out _)))
        go_wp2_with fail
        go_ret
        exact ⟨rfl, Below.thr HB.out (belowN _ _)⟩
      · have hd : decide ((M i).typ ≠ 0) = true := by simp [ht]
        rw [hd] at HL
        by_cases he : (M i).gen = g
        · have hc : (if (M i).typ ≠ 0 ∧ (M i).gen = g then 0 else 2 : Int) = 0 := if_pos ⟨ht, he⟩
          rw [hc]
          rw [he] at hgc
          clear hc hd ht he
          go_enter Tryz.func211, Tryz.ntmps211
          go_wp2_with fail
          go_quiet ((go_at_call 203; exact Calls.quiet_of_same (HL.out _)))
          go_wp2_with fail
          go_ret
          exact ⟨rfl, Below.thr HB.out (belowN _ _)⟩
        · have hc : (if (M i).typ ≠ 0 ∧ (M i).gen = g then 0 else 2 : Int) = 2 := if_neg (fun q => he q.2)
          have hb : ((M i).gen != g) = true := by rw [bne_iff_ne]; exact he
          rw [hc]
          clear hc hd ht he
          go_enter Tryz.func211, Tryz.ntmps211
          go_wp2_with fail
          go_quiet ((go_at_call 203; exact Calls.quiet_of_same (HL.out _)))
          go_wp2_with fail
          go_ret
          exact ⟨rfl, Below.thr HB.out (belowN _ _)⟩
  · have i' : (i : Int) ≥ 320 := by omega
    have i6 : wrap64 (i : Int) = (i : Int) := by unfold wrap64; omega
    rw [if_neg (fun q => hi q.1)]
    go_enter Tryz.func211, Tryz.ntmps211
    go_wp2_with fail
    go_ret
    exact ⟨rfl, HB.out⟩
theorem chk_lt {i : Nat} {g : Int} (h : chk M i g = 0) : i < 320 ∧ g ≠ 0 ∧ (M i).typ ≠ 0 ∧ (M i).gen = g := by
  unfold chk at h
  by_cases q : i < 320 ∧ g ≠ 0
  · rw [if_pos q] at h
    by_cases q2 : (M i).typ ≠ 0 ∧ (M i).gen = g
    · exact ⟨q.1, q.2, q2.1, q2.2⟩
    · rw [if_neg q2] at h; exact absurd h (by decide)
  · rw [if_neg q] at h; exact absurd h (by decide)
set_option maxHeartbeats 2000000 in
theorem checkR_m (h : Md w B wb M) (i : Nat) (h6 : i < 65536) (g : Int) :
    Calls Tryz.prog 214 #[.pointer (some ⟨B, 0, none⟩), .agg #[.int .u16 (i : Int), .int .u32 g]] w fun e w' => e = .returned (.int .u8 (chkR M i g)) ∧ Below w.heap.size w w' := by
  have bB := alloc_below (w := w) (.cells #[.int .u16 (i : Int), .int .u32 g] 32)
  have hz : (w.alloc (.cells #[.int .u16 (i : Int), .int .u32 g] 32)).heap[w.heap.size]? = some (.cells #[.int .u16 (i : Int), .int .u32 g] 32 (0, 0)) := heap_new _ _
  obtain ⟨x0, x1, _, _⟩ := two_cells hz
  have HM := hideIt (h.below bB)
  have HB := hideIt bB
  have HZ := hideIt hz
  have HC := hideIt (check_m HM.out i h6 g)
  clear h bB hz
  by_cases hc : chk M i g = 0
  · have hi := (chk_lt hc).1
    have i2 : (i : Int) < 320 := by omega
    have h1 : chkR M i g = if (M i).typ = 1 then 0 else 3 := by unfold chkR; rw [if_neg (by rw [hc]; simp)]
    by_cases ht1 : (M i).typ = 1
    · rw [if_pos ht1] at h1
      rw [h1]
      rw [hc] at HC
      clear h1 hc
      go_enter Tryz.func214, Tryz.ntmps214
      go_wp2_with fail
      go_at_call 211
      refine HC.out.mono ?_
      rintro e w1 ⟨rfl, hb1⟩
      obtain ⟨y0, y1, _, _⟩ := two_cells ((hb1.block _ (heap_lt HZ.out)).trans HZ.out)
      have ht := (HM.out.below hb1).typ hi
      have HB1 := hideIt (Below.thr HB.out hb1)
      clear x0 x1 hb1 HC HM
      rw [ht1] at ht
      clear ht1
      go_wp2_with fail
      go_quiet (fail)
      go_wp2_with fail
      go_ret
      exact ⟨rfl, Below.thr HB1.out (belowN _ _)⟩
    · rw [if_neg ht1] at h1
      rw [h1]
      rw [hc] at HC
      clear h1 hc
      go_enter Tryz.func214, Tryz.ntmps214
      go_wp2_with fail
      go_at_call 211
      refine HC.out.mono ?_
      rintro e w1 ⟨rfl, hb1⟩
      obtain ⟨y0, y1, _, _⟩ := two_cells ((hb1.block _ (heap_lt HZ.out)).trans HZ.out)
      have ht := (HM.out.below hb1).typ hi
      have HB1 := hideIt (Below.thr HB.out hb1)
      clear x0 x1 hb1 HC HM
      have hb : ((M i).typ != 1) = true := by rw [bne_iff_ne]; exact ht1
      clear ht1
      go_wp2_with fail
      go_quiet (fail)
      go_wp2_with fail
      go_ret
      exact ⟨rfl, Below.thr HB1.out (belowN _ _)⟩
  · have h1 : chkR M i g = chk M i g := by unfold chkR; rw [if_pos hc]
    rw [h1]
    have hb : (chk M i g != 0) = true := by rw [bne_iff_ne]; exact hc
    clear h1 hc
    generalize chk M i g = c at *
    go_enter Tryz.func214, Tryz.ntmps214
    go_wp2_with fail
    go_at_call 211
    refine HC.out.mono ?_
    rintro e w1 ⟨rfl, hb1⟩
    have HB1 := hideIt (Below.thr HB.out hb1)
    clear x0 x1 hb1 HC HM
    go_wp2_with fail
    go_ret
    exact ⟨rfl, HB1.out⟩
end
end Go.Proofs.Qxb6500847aGreatDoor.Os
