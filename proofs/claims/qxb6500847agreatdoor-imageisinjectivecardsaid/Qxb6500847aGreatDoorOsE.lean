/-
  The typed tables.
-/
import Derived.Test.Qxb6500847aGreatDoorOsD
import Derived.Deep.MidRow
namespace Go.Proofs.Qxb6500847aGreatDoor.Os
open Go.RowKit FloorA
set_option maxRecDepth 100000

/-- Rows, cells of a row, fields. -/
def nR : Nat → Nat
  | 0 => 64
  | 1 => 64
  | 2 => 128
  | 3 => 64
  | 4 => 64
  | _ => 32
def nC : Nat → Nat
  | 0 => 128
  | 1 => 22
  | 2 => 3
  | 3 => 5
  | 4 => 3
  | _ => 5
def lo (v : Int) : Value := .int .u16 (v % 65536)
def hi (v : Int) : Value := .int .u32 (v / 65536)
def bo (v : Int) : Value := .bool (decide (v = 1))
def cellL (W : Nat → Int) (f : Nat) : List Value := [lo (W f), hi (W f), .int .u8 (W (f + 1)), .int .u64 (W (f + 2)), .int .u32 (W (f + 3)), .int .u16 (W (f + 4)), .int .u16 (W (f + 5)), .int .u8 (W (f + 6))]
/-- The cells of a row whose words are W. -/
def rowL : Nat → (Nat → Int) → List Value
  | 0, W => (List.range 16).flatMap (fun c => cellL W (7 * c))
  | 1, W => [.int .u8 (W 0), .int .u8 (W 1), lo (W 2), hi (W 2), .int .u16 (W 3), .int .u16 (W 4), lo (W 5), hi (W 5), .int .u32 (W 6), lo (W 7), hi (W 7), lo (W 8), hi (W 8), .int .u64 (W 9), .int .u8 (W 10), .int .u64 (W 11), .int .u64 (W 12), .int .u64 (W 13), .int .u64 (W 14), .int .u8 (W 15), .int .u32 (W 16), .int .u32 (W 17)]
  | 2, W => [.int .u8 (W 0), .int .u16 (W 1), .int .u16 (W 2)]
  | 3, W => [.int .u64 (W 0), .int .u16 (W 1), .int .u16 (W 2), lo (W 3), hi (W 3)]
  | 4, W => [lo (W 0), hi (W 0), bo (W 1)]
  | _, W => [.int .u8 (W 0), lo (W 1), hi (W 1), .int .u64 (W 2), bo (W 3)]
theorem rowL_len (t : Nat) (W : Nat → Int) : (rowL t W).length = nC t := by
  match t with
  | 0 => simp [rowL, nC, cellL, List.length_flatMap]; decide
  | 1 => rfl
  | 2 => rfl
  | 3 => rfl
  | 4 => rfl
  | _ + 5 => rfl

/-- The store in memory: the arena in block A, rows in the blocks rb, stacks of free rows in the blocks sb. -/
structure Ms (w : World) (A : Nat) (rb sb : Nat → Nat) (s : Av) (tl : Nat → List Int) (ws : Nat → Nat → Nat → Int) : Prop where
  am : Am w A s
  tr : ∀ t, t < 6 → s.tr t = .slice (some ⟨rb t, 0, none⟩) (nR t) (nR t)
  ti : ∀ t, t < 6 → s.ti t = .slice (some ⟨sb t, 0, none⟩) (tl t).length (nR t)
  tn : ∀ t, t < 6 → (tl t).length ≤ nR t
  row : ∀ t, t < 6 → ∀ r, r < nR t → w.rangeAt (rb t) (r * nC t) (rowL t (ws t r))
  rfz : ∀ t, t < 6 → ∀ o, w.frozen? ⟨rb t, o, none⟩ = false
  idc : ∀ t, t < 6 → ∀ j, j < nR t → ∃ x, w.cell? ⟨sb t, j, none⟩ = some (.int .u16 x) ∧ ∀ h : j < (tl t).length, x = (tl t)[j]
  sfz : ∀ t, t < 6 → ∀ o, w.frozen? ⟨sb t, o, none⟩ = false
  ar : ∀ t, t < 6 → rb t ≠ A ∧ sb t ≠ A
  rs : ∀ t u, t < 6 → u < 6 → rb t ≠ sb u
  rr : ∀ t u, t < 6 → u < 6 → rb t = rb u → t = u
  ss : ∀ t u, t < 6 → u < 6 → sb t = sb u → t = u
/-- The store's blocks. -/
def Tz (A : Nat) (rb sb : Nat → Nat) (b : Nat) : Prop := b = A ∨ ∃ t, t < 6 ∧ (b = rb t ∨ b = sb t)

section
variable {A : Nat} {rb sb : Nat → Nat} {s : Av} {tl : Nat → List Int} {ws : Nat → Nat → Nat → Int} {w w' : World}
theorem Ms.trc (h : Ms w A rb sb s tl ws) {t : Nat} (ht : t < 6) : w.cell? ⟨A, 2886 + t * 2, none⟩ = some (.slice (some ⟨rb t, 0, none⟩) (nR t) (nR t)) := (h.am.cell (2886 + t * 2) (by omega)).trans (by rw [mem_tr _ ht, h.tr t ht])
theorem Ms.tic (h : Ms w A rb sb s tl ws) {t : Nat} (ht : t < 6) : w.cell? ⟨A, 2886 + t * 2 + 1, none⟩ = some (.slice (some ⟨sb t, 0, none⟩) (tl t).length (nR t)) := (h.am.cell (2886 + t * 2 + 1) (by omega)).trans (by rw [mem_ti _ ht, h.ti t ht])
/-- Other blocks turn. -/
theorem Ms.ext {T : Nat → Prop} (h : Ms w A rb sb s tl ws) (e : Ext w.heap.size T w w') (hT : ∀ b, Tz A rb sb b → ¬ T b) : Ms w' A rb sb s tl ws := by
  have fz : ∀ {b : Nat}, b < w.heap.size → ¬ T b → ∀ o, w.frozen? ⟨b, o, none⟩ = false → w'.frozen? ⟨b, o, none⟩ = false := fun {b} l n o q => by
    unfold World.frozen? at q ⊢
    rw [show w'.heap[(⟨b, o, none⟩ : Addr).block]? = w.heap[(⟨b, o, none⟩ : Addr).block]? from e.block b l n]
    exact q
  have nr : ∀ t, t < 6 → 0 < nR t := fun t _ => by unfold nR; split <;> omega
  have nc : ∀ t, 0 < nC t := fun t => by unfold nC; split <;> omega
  have lr : ∀ t, t < 6 → rb t < w.heap.size := fun t ht => by
    have h0 := h.row t ht 0 (nr t ht)
    obtain ⟨v, hv⟩ : ∃ v, (rowL t (ws t 0))[0]? = some v := ⟨_, List.getElem?_eq_getElem (by rw [rowL_len]; exact nc t)⟩
    exact cell_lt (h0 0 v hv)
  have ls : ∀ t, t < 6 → sb t < w.heap.size := fun t ht => by
    obtain ⟨x, hx, _⟩ := h.idc t ht 0 (nr t ht)
    exact cell_lt hx
  have nR' : ∀ t, t < 6 → ¬ T (rb t) := fun t ht => hT _ (Or.inr ⟨t, ht, Or.inl rfl⟩)
  have nS' : ∀ t, t < 6 → ¬ T (sb t) := fun t ht => hT _ (Or.inr ⟨t, ht, Or.inr rfl⟩)
  exact ⟨h.am.ext e (hT A (Or.inl rfl)), h.tr, h.ti, h.tn, fun t ht r hr j v hv => (e.cell (p := ⟨rb t, r * nC t + j, none⟩) (lr t ht) (nR' t ht)).trans (h.row t ht r hr j v hv), fun t ht o => fz (lr t ht) (nR' t ht) o (h.rfz t ht o), fun t ht j hj => by
    obtain ⟨x, hx, k⟩ := h.idc t ht j hj
    exact ⟨x, (e.cell (p := ⟨sb t, j, none⟩) (ls t ht) (nS' t ht)).trans hx, k⟩, fun t ht o => fz (ls t ht) (nS' t ht) o (h.sfz t ht o), h.ar, h.rs, h.rr, h.ss⟩
theorem Ms.below (h : Ms w A rb sb s tl ws) (k : Below w.heap.size w w') : Ms w' A rb sb s tl ws := h.ext (Ext.of_below k (fun _ => False)) (fun _ _ q => q)

theorem at_walk0 (h : Ms w A rb sb s tl ws) {r : Nat} (hr : r < nR 0) :
    Calls Tryz.prog 110 #[.pointer (some ⟨A, 2886, none⟩), .int .u16 (r : Int)] w fun e w' => e = .returned (.pointer (some ⟨rb 0, r * nC 0, none⟩)) ∧ w' = w := by
  have hc := h.trc (t := 0) (by omega)
  simp only [nR, nC, Nat.reduceMul, Nat.reduceAdd] at hc hr ⊢
  have e1 : (r : Int) < 64 := by omega
  go_enter Tryz.func110, Tryz.ntmps110
  go_wp2_with fail
  go_ret
  exact ⟨rfl, rfl⟩
theorem room_walk0 (h : Ms w A rb sb s tl ws) :
    Calls Tryz.prog 240 #[.pointer (some ⟨A, 2886, none⟩)] w fun e w' => e = .returned (.int .i64 ((tl 0).length : Int)) ∧ w' = w := by
  have hc := h.tic (t := 0) (by omega)
  simp only [nR, Nat.reduceMul, Nat.reduceAdd] at hc
  go_enter Tryz.func240, Tryz.ntmps240
  go_wp2_with fail
  go_ret
  exact ⟨rfl, rfl⟩

theorem at_walk1 (h : Ms w A rb sb s tl ws) {r : Nat} (hr : r < nR 1) :
    Calls Tryz.prog 111 #[.pointer (some ⟨A, 2888, none⟩), .int .u16 (r : Int)] w fun e w' => e = .returned (.pointer (some ⟨rb 1, r * nC 1, none⟩)) ∧ w' = w := by
  have hc := h.trc (t := 1) (by omega)
  simp only [nR, nC, Nat.reduceMul, Nat.reduceAdd] at hc hr ⊢
  have e1 : (r : Int) < 64 := by omega
  go_enter Tryz.func111, Tryz.ntmps111
  go_wp2_with fail
  go_ret
  exact ⟨rfl, rfl⟩
theorem room_walk1 (h : Ms w A rb sb s tl ws) :
    Calls Tryz.prog 241 #[.pointer (some ⟨A, 2888, none⟩)] w fun e w' => e = .returned (.int .i64 ((tl 1).length : Int)) ∧ w' = w := by
  have hc := h.tic (t := 1) (by omega)
  simp only [nR, Nat.reduceMul, Nat.reduceAdd] at hc
  go_enter Tryz.func241, Tryz.ntmps241
  go_wp2_with fail
  go_ret
  exact ⟨rfl, rfl⟩

theorem at_walk2 (h : Ms w A rb sb s tl ws) {r : Nat} (hr : r < nR 2) :
    Calls Tryz.prog 112 #[.pointer (some ⟨A, 2890, none⟩), .int .u16 (r : Int)] w fun e w' => e = .returned (.pointer (some ⟨rb 2, r * nC 2, none⟩)) ∧ w' = w := by
  have hc := h.trc (t := 2) (by omega)
  simp only [nR, nC, Nat.reduceMul, Nat.reduceAdd] at hc hr ⊢
  have e1 : (r : Int) < 128 := by omega
  go_enter Tryz.func112, Tryz.ntmps112
  go_wp2_with fail
  go_ret
  exact ⟨rfl, rfl⟩
theorem room_walk2 (h : Ms w A rb sb s tl ws) :
    Calls Tryz.prog 242 #[.pointer (some ⟨A, 2890, none⟩)] w fun e w' => e = .returned (.int .i64 ((tl 2).length : Int)) ∧ w' = w := by
  have hc := h.tic (t := 2) (by omega)
  simp only [nR, Nat.reduceMul, Nat.reduceAdd] at hc
  go_enter Tryz.func242, Tryz.ntmps242
  go_wp2_with fail
  go_ret
  exact ⟨rfl, rfl⟩

theorem at_walk3 (h : Ms w A rb sb s tl ws) {r : Nat} (hr : r < nR 3) :
    Calls Tryz.prog 113 #[.pointer (some ⟨A, 2892, none⟩), .int .u16 (r : Int)] w fun e w' => e = .returned (.pointer (some ⟨rb 3, r * nC 3, none⟩)) ∧ w' = w := by
  have hc := h.trc (t := 3) (by omega)
  simp only [nR, nC, Nat.reduceMul, Nat.reduceAdd] at hc hr ⊢
  have e1 : (r : Int) < 64 := by omega
  go_enter Tryz.func113, Tryz.ntmps113
  go_wp2_with fail
  go_ret
  exact ⟨rfl, rfl⟩
theorem room_walk3 (h : Ms w A rb sb s tl ws) :
    Calls Tryz.prog 243 #[.pointer (some ⟨A, 2892, none⟩)] w fun e w' => e = .returned (.int .i64 ((tl 3).length : Int)) ∧ w' = w := by
  have hc := h.tic (t := 3) (by omega)
  simp only [nR, Nat.reduceMul, Nat.reduceAdd] at hc
  go_enter Tryz.func243, Tryz.ntmps243
  go_wp2_with fail
  go_ret
  exact ⟨rfl, rfl⟩

theorem at_walk4 (h : Ms w A rb sb s tl ws) {r : Nat} (hr : r < nR 4) :
    Calls Tryz.prog 114 #[.pointer (some ⟨A, 2894, none⟩), .int .u16 (r : Int)] w fun e w' => e = .returned (.pointer (some ⟨rb 4, r * nC 4, none⟩)) ∧ w' = w := by
  have hc := h.trc (t := 4) (by omega)
  simp only [nR, nC, Nat.reduceMul, Nat.reduceAdd] at hc hr ⊢
  have e1 : (r : Int) < 64 := by omega
  go_enter Tryz.func114, Tryz.ntmps114
  go_wp2_with fail
  go_ret
  exact ⟨rfl, rfl⟩
theorem room_walk4 (h : Ms w A rb sb s tl ws) :
    Calls Tryz.prog 244 #[.pointer (some ⟨A, 2894, none⟩)] w fun e w' => e = .returned (.int .i64 ((tl 4).length : Int)) ∧ w' = w := by
  have hc := h.tic (t := 4) (by omega)
  simp only [nR, Nat.reduceMul, Nat.reduceAdd] at hc
  go_enter Tryz.func244, Tryz.ntmps244
  go_wp2_with fail
  go_ret
  exact ⟨rfl, rfl⟩

theorem at_walk5 (h : Ms w A rb sb s tl ws) {r : Nat} (hr : r < nR 5) :
    Calls Tryz.prog 115 #[.pointer (some ⟨A, 2896, none⟩), .int .u16 (r : Int)] w fun e w' => e = .returned (.pointer (some ⟨rb 5, r * nC 5, none⟩)) ∧ w' = w := by
  have hc := h.trc (t := 5) (by omega)
  simp only [nR, nC, Nat.reduceMul, Nat.reduceAdd] at hc hr ⊢
  have e1 : (r : Int) < 32 := by omega
  go_enter Tryz.func115, Tryz.ntmps115
  go_wp2_with fail
  go_ret
  exact ⟨rfl, rfl⟩
theorem room_walk5 (h : Ms w A rb sb s tl ws) :
    Calls Tryz.prog 245 #[.pointer (some ⟨A, 2896, none⟩)] w fun e w' => e = .returned (.int .i64 ((tl 5).length : Int)) ∧ w' = w := by
  have hc := h.tic (t := 5) (by omega)
  simp only [nR, Nat.reduceMul, Nat.reduceAdd] at hc
  go_enter Tryz.func245, Tryz.ntmps245
  go_wp2_with fail
  go_ret
  exact ⟨rfl, rfl⟩
end
end Go.Proofs.Qxb6500847aGreatDoor.Os
