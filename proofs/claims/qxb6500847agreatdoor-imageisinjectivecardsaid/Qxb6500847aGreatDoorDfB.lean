/-
  Differences: note.
-/
import Derived.Test.Qxb6500847aGreatDoorDfA
namespace Go.Proofs.Qxb6500847aGreatDoor.Os
open Go.RowKit FloorA
set_option maxRecDepth 100000
theorem ones5 (a b c d e : Int) : ∀ u ∈ [Value.int .u16 a, Value.int .u8 b, Value.int .u16 c, Value.int .u64 d, Value.int .u64 e], u.oneCell' = true := by
  intro u hu
  simp at hu
  rcases hu with rfl | rfl | rfl | rfl | rfl <;> rfl
theorem new_rowD (w : World) (cs : List Value) (T : Nat) : ∀ j u, cs[j]? = some u → (w.alloc (.cells cs.toArray T)).cell? ((⟨w.heap.size, 0, none⟩ : Addr).add j) = some u := fun j u hu => by
  have e : (⟨w.heap.size, 0, none⟩ : Addr).add j = ⟨w.heap.size, j, none⟩ := by unfold Addr.add; by_cases e : j = 0 <;> simp [e]
  rw [e, box_cell (heap_new w _) j, List.getElem?_toArray]
  exact hu
theorem fz_d {W : World} {q T : Nat} {cs : Array Value} (h : W.heap[q]? = some (.cells cs T (0, 0))) (o : Nat) : W.frozen? ⟨q, o, none⟩ = false := by simp [World.frozen?, h]
theorem own_formD {base T k n : Nat} {w : World} {v : Value} {xs : List Value} (h : w.ownsRow base T k v n xs) : ∃ a c, v = .slice a n c := by
  rcases h.2 with ⟨e, e2⟩ | ⟨g, c, cur, e1, _⟩
  · exact ⟨none, 0, by rw [e, e2]⟩
  · exact ⟨_, c, e1⟩
theorem one_set {w : World} {b : Nat} {x y : Value} {t : TypeId} (h : w.heap[b]? = some (.cells #[x, y] t (0, 0))) (x' : Value) : (w.setCell ⟨b, 0, none⟩ x').heap[b]? = some (.cells #[x', y] t (0, 0)) := by
  rw [heap_setCell_same w b 0 _ t x' h]
  rfl
/-- One difference more is noted. -/
theorem Dfm.grow {w w2 w8 : World} {D : Nat} {l : List Df} {lim : Nat} {v v' : Value} {o : Obj} {d : Df} (h1 : w2.heap[D]? = some (.cells #[v, .int .i64 (lim : Int)] 250 (0, 0))) (h2 : w2.ownsRow (D + 1) 88 5 v l.length (dfCs l)) (hb : Below w.heap.size w w2) (hDl : D < w.heap.size) (ho : w8.ownsRow (D + 1) 88 5 v' (l.length + 1) (dfCs l ++ dfC d)) (hg : (w2.alloc o).grownBy w8 v.ownBlock) :
    w8.heap[D]? = some (.cells #[v, .int .i64 (lim : Int)] 250 (0, 0)) ∧ Dfm (w8.setCell ⟨D, 0, none⟩ v') D (l ++ [d]) lim ∧ Below D w (w8.setCell ⟨D, 0, none⟩ v') := by
  have hs2 : (w2.alloc o).heap.size = w2.heap.size + 1 := by simp
  have hD2 := heap_lt h1
  have own : ∀ b, v.ownBlock = some b → D + 1 ≤ b := fun b q => (owns_lt h2 b q).1
  have h8 : w8.heap[D]? = some (.cells #[v, .int .i64 (lim : Int)] 250 (0, 0)) := (hg.block D (by omega) (fun e => by have := own D e.symm; omega)).trans ((heap_alloc_old _ _ hD2).trans h1)
  refine ⟨h8, ⟨v', one_set h8 v', ?_⟩, ?_⟩
  · have hc : dfCs (l ++ [d]) = dfCs l ++ dfC d := by unfold dfCs; rw [List.flatMap_append]; simp
    rw [List.length_append, hc]
    exact owns_keep ho (fun q hq => Below.heap_setCell _ _ _ _ (by have := (owns_lt ho q hq).1; show ¬ q = D; omega))
  · have b8 : Below D w w8 := (hb.mono (Nat.le_of_lt hDl)).trans ⟨hg.os, hg.tape, hg.output, Nat.le_trans (by omega) hg.size, fun k hk => (hg.block k (by omega) (fun e => by have := own k e.symm; omega)).trans (heap_alloc_old _ _ (by omega))⟩
    exact b8.setCell (p := ⟨D, 0, none⟩) (Nat.le_refl _) v'
section
variable {w w' : World} {D : Nat} {l : List Df} {lim : Nat}
set_option maxHeartbeats 8000000 in
theorem note_m (h : Dfm w D l lim) (hl : l.length ≤ 40000) {i p f : Nat} (hi : i < 65536) (hf : f < 65536) (x y : Int) :
    Calls Tryz.prog 117 #[.pointer (some ⟨D, 0, none⟩), .int .i64 (i : Int), .int .u8 (p : Int), .int .i64 (f : Int), .int .u64 x, .int .u64 y] w fun e w' => e = .returned (.tuple #[]) ∧ Dfm w' D (if x ≠ y ∧ ¬ (0 < lim ∧ lim ≤ l.length) then l ++ [⟨i, p, f, x, y⟩] else l) lim ∧ Below D w w' := by
  obtain ⟨i8, hi8, hz8, hs8, hb8⟩ := info_parts inf88
  have HD := hideIt h
  have HF := hideIt (full_m h)
  have hiw : IntKind.u16.wrap (i : Int) = (i : Int) := by unfold IntKind.wrap; simp [IntKind.bits, IntKind.signed]; omega
  have hfw : IntKind.u16.wrap (f : Int) = (f : Int) := by unfold IntKind.wrap; simp [IntKind.bits, IntKind.signed]; omega
  have hDl : D < w.heap.size := by obtain ⟨v, h1, _⟩ := h; exact heap_lt h1
  clear h
  by_cases hxy : x = y
  · rw [if_neg (fun q => q.1 hxy)]
    subst hxy
    go_enter Tryz.func117, Tryz.ntmps117
    go_wp2_with fail
    go_end0
    exact ⟨rfl, HD.out, Below.refl _ _⟩
  · have hxb : (x != y) = true := by rw [bne_iff_ne]; exact hxy
    by_cases hfl : 0 < lim ∧ lim ≤ l.length
    · rw [if_neg (fun q => q.2 hfl)]
      have hd : decide (0 < lim ∧ lim ≤ l.length) = true := decide_eq_true hfl
      rw [hd] at HF
      clear hfl hd hxy
      go_enter Tryz.func117, Tryz.ntmps117
      go_wp2_with (go_at_call 116; refine HF.out.mono ?_; rintro e w2 ⟨rfl, m2, hw2⟩; have HB2 := hideIt (show Below w.heap.size w w2 from by rw [hw2]; exact belowN _ _); clear hw2)
      go_end0
      exact ⟨rfl, HD.out.below HB2.out, HB2.out.mono (Nat.le_of_lt hDl)⟩
    · rw [if_pos ⟨hxy, hfl⟩]
      have hd : decide (0 < lim ∧ lim ≤ l.length) = false := decide_eq_false hfl
      rw [hd] at HF
      have HDl := hideIt hDl
      have HLl := hideIt hl
      clear hfl hd hxy hDl
      go_enter Tryz.func117, Tryz.ntmps117
      go_wp2_with (first
        | (go_at_call 116; refine HF.out.mono ?_; rintro e w2 ⟨rfl, m2, hw2⟩; have HB2 := hideIt (show Below w.heap.size w w2 from by rw [hw2]; exact belowN _ _); obtain ⟨v, hv1, hv2⟩ := HD.out.below HB2.out; have c0 := box_cell hv1 0; have HV1 := hideIt hv1; have HV2 := hideIt hv2; simp only [List.getElem?_toArray, List.getElem?_cons_zero] at c0; clear hw2 hv1 hv2)
        | (at_builtin; refine wpList_append_own_at _ rfl (.tmp 24) (.tmp 33) 83 rfl (D + 1) 88 i8 (.agg #[.int .u16 0, .int .u8 0, .int .u16 0, .int .u64 0, .int .u64 0]) 5 24 Tryz.underlying83 hi8 hz8 hs8 hb8 rfl (by decide) _ _ _ rfl (World.ownsRow.alloc HV2.out _) ⟨w2.heap.size, 0, none⟩ 1 1 [.int .u16 (i : Int), .int .u8 (p : Int), .int .u16 (f : Int), .int .u64 x, .int .u64 y] rfl rfl (new_rowD w2 _ 88) (ones5 _ _ _ _ _) (by have := HLl.out; unfold maxLen; omega) (by have := HLl.out; omega) (by have := heap_lt HV1.out; simp; omega) ?_; intro v' w8 hown8 hgrow8 _ hwh8; obtain ⟨h8, hd8, hb8'⟩ := Dfm.grow (d := ⟨i, p, f, x, y⟩) HV1.out HV2.out HB2.out HDl.out hown8 hgrow8; have d0 := box_cell h8 0; have g0 := fz_d h8 0; obtain ⟨a8, n8, hf8⟩ := own_formD hown8; subst hf8; simp only [List.getElem?_toArray, List.getElem?_cons_zero] at d0; have HD8 := hideIt hd8; have HB8 := hideIt hb8'; clear hown8 hgrow8 hwh8 h8 hd8 hb8'))
      go_end0
      exact ⟨rfl, HD8.out, HB8.out⟩
end
end Go.Proofs.Qxb6500847aGreatDoor.Os
