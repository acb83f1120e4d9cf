/-
  Fields of payloads: Pack, Unpack, put.., validRef.
-/
import Derived.Test.Qxb6500847aGreatDoorOsR2
namespace Go.Proofs.Qxb6500847aGreatDoor.Os
open Go.RowKit FloorA
set_option maxRecDepth 100000
theorem pack_nat (a b : Nat) (ha : a < 4294967296) (hb : b < 65536) : Go.bits .or .u64 ((a * 65536 : Nat) : Int) (b : Int) = ((a * 65536 + b : Nat) : Int) := by
  rw [or_nat _ _ (by omega) (by omega)]
  have := Nat.two_pow_add_eq_or_of_lt (i := 16) (b := b) (by omega) a
  rw [show 2 ^ 16 * a = a * 65536 by omega] at this
  rw [← this]
theorem and_ffff (x : Nat) (hx : x < 18446744073709551616) : Go.bits .and .u64 (x : Int) 65535 = ((x % 65536 : Nat) : Int) := by
  have := and_nat x 65535 (by omega) (by omega)
  rw [show ((65535 : Nat) : Int) = 65535 from rfl] at this
  rw [this]
  have h3 := Nat.and_two_pow_sub_one_eq_mod x 16
  rw [show 2 ^ 16 - 1 = 65535 from rfl, show 2 ^ 16 = 65536 from rfl] at h3
  rw [h3]
/-- Cells of one block turn, others stay. -/
structure St1 (b o k : Nat) (w w' : World) : Prop where
  ext : Ext w.heap.size (fun x => x = b) w w'
  out : ∀ q, q < o ∨ o + k ≤ q → w'.cell? ⟨b, q, none⟩ = w.cell? ⟨b, q, none⟩
  frz : ∀ q, w'.frozen? ⟨b, q, none⟩ = w.frozen? ⟨b, q, none⟩
theorem St1.one (w : World) (b o : Nat) (v : Value) : St1 b o 1 w (w.setCell ⟨b, o, none⟩ v) :=
  ⟨Ext.setCell (X := fun x => x = b) (p := ⟨b, o, none⟩) (Ext.refl _ _ _) (Or.inr rfl) _, fun q hq => set_other (fun e => by injection e with _ e; omega), fun q => World.frozen?_setCell ..⟩
theorem frz_below {w w' : World} {b : Nat} (h : Below w.heap.size w w') (hb : b < w.heap.size) (q : Nat) : w'.frozen? ⟨b, q, none⟩ = w.frozen? ⟨b, q, none⟩ := by
  unfold World.frozen?
  rw [show w'.heap[(⟨b, q, none⟩ : Addr).block]? = w.heap[(⟨b, q, none⟩ : Addr).block]? from h.block b hb]
theorem St1.of_below {w w' : World} (h : Below w.heap.size w w') {b : Nat} (hb : b < w.heap.size) (o k : Nat) : St1 b o k w w' :=
  ⟨Ext.of_below h _, fun q _ => h.cell (p := ⟨b, q, none⟩) hb, frz_below h hb⟩
theorem St1.trans {b o k o' k' o'' k'' : Nat} {w w1 w2 : World} (h : St1 b o k w w1) (g : St1 b o' k' w1 w2) (h1 : o'' ≤ o) (h2 : o + k ≤ o'' + k'') (h3 : o'' ≤ o') (h4 : o' + k' ≤ o'' + k'') : St1 b o'' k'' w w2 :=
  ⟨h.ext.trans g.ext h.ext.size (fun _ _ q => q), fun q hq => (g.out q (by omega)).trans (h.out q (by omega)), fun q => (g.frz q).trans (h.frz q)⟩
theorem St1.mono {b o k o'' k'' : Nat} {w w1 : World} (h : St1 b o k w w1) (h1 : o'' ≤ o) (h2 : o + k ≤ o'' + k'') : St1 b o'' k'' w w1 := ⟨h.ext, fun q hq => h.out q (by omega), h.frz⟩
theorem rangeAt.splice {w w' : World} {b o : Nat} {l1 m m' l2 : List Value} (h : w.rangeAt b o (l1 ++ m ++ l2)) (hs : St1 b (o + l1.length) m.length w w') (hm : w'.rangeAt b (o + l1.length) m') (hl : m'.length = m.length) : w'.rangeAt b o (l1 ++ m' ++ l2) := by
  intro j v hj
  by_cases h1 : j < l1.length
  · rw [hs.out (o + j) (by omega)]
    refine h j v ?_
    rw [List.append_assoc, List.getElem?_append_left h1] at hj ⊢
    exact hj
  · by_cases h2 : j < l1.length + m.length
    · have := hm (j - l1.length) v (by
        rw [List.append_assoc, List.getElem?_append_right (by omega), List.getElem?_append_left (by omega)] at hj
        exact hj)
      rw [show o + l1.length + (j - l1.length) = o + j by omega] at this
      exact this
    · rw [hs.out (o + j) (by omega)]
      refine h j v ?_
      rw [List.getElem?_append_right (by simp; omega)] at hj ⊢
      simp only [List.length_append] at hj ⊢
      rw [hl] at hj
      exact hj
section
variable {A : Nat} {rb sb : Nat → Nat} {s : Av} {tl : Nat → List Int} {ws : Nat → Nat → Nat → Int} {w w' : World}
/-- One row turns. -/
theorem Ms.turnRow (h : Ms w A rb sb s tl ws) {t r : Nat} (ht : t < 6) (hr : r < nR t) {W : Nat → Int} (hs : St1 (rb t) (r * nC t) (nC t) w w') (hW : w'.rangeAt (rb t) (r * nC t) (rowL t W)) : Ms w' A rb sb s tl (updW ws t r W) := by
  have lr : ∀ t, t < 6 → rb t < w.heap.size := fun t ht => h.rlt ht
  have ls : ∀ t, t < 6 → sb t < w.heap.size := fun t ht => h.slt ht
  have fz : ∀ {b : Nat}, b < w.heap.size → b ≠ rb t → ∀ o, w.frozen? ⟨b, o, none⟩ = false → w'.frozen? ⟨b, o, none⟩ = false := fun {b} l n o q => by
    unfold World.frozen? at q ⊢
    rw [show w'.heap[(⟨b, o, none⟩ : Addr).block]? = w.heap[(⟨b, o, none⟩ : Addr).block]? from hs.ext.block b l n]
    exact q
  have ne : ∀ u, u < 6 → u ≠ t → rb u ≠ rb t := fun u hu e q => e (h.rr u t hu ht q)
  refine ⟨h.am.ext hs.ext (fun q => (h.ar t ht).1 q.symm), h.tr, h.ti, h.tn, fun u hu q hq j v hv => ?_, fun u hu o => ?_, fun u hu j hj => ?_, fun u hu o => fz (ls u hu) (fun q => h.rs t u ht hu q.symm) o (h.sfz u hu o), h.ar, h.rs, h.rr, h.ss⟩
  · by_cases e : u = t
    · subst e
      by_cases e2 : q = r
      · subst e2
        rw [updW, if_pos ⟨rfl, rfl⟩] at hv
        exact hW j v hv
      · rw [updW, if_neg (fun k => e2 k.2)] at hv
        have hj : j < nC u := by
          have := (List.getElem?_eq_some_iff.1 hv).1
          rw [rowL_len] at this
          exact this
        have hne : q * nC u + j < r * nC u ∨ r * nC u + nC u ≤ q * nC u + j := by
          rcases Nat.lt_or_gt_of_ne e2 with k | k
          · left
            have : (q + 1) * nC u ≤ r * nC u := Nat.mul_le_mul_right _ k
            rw [Nat.succ_mul] at this
            omega
          · right
            have : (r + 1) * nC u ≤ q * nC u := Nat.mul_le_mul_right _ k
            rw [Nat.succ_mul] at this
            omega
        rw [hs.out _ hne]
        exact h.row u hu q hq j v hv
    · rw [updW, if_neg (fun k => e k.1)] at hv
      exact (hs.ext.cell (p := ⟨rb u, q * nC u + j, none⟩) (lr u hu) (ne u hu e)).trans (h.row u hu q hq j v hv)
  · by_cases e : u = t
    · subst e; rw [hs.frz]; exact h.rfz u hu o
    · exact fz (lr u hu) (ne u hu e) o (h.rfz u hu o)
  · obtain ⟨x, hx, k⟩ := h.idc u hu j hj
    exact ⟨x, (hs.ext.cell (p := ⟨sb u, j, none⟩) (ls u hu) (fun q => h.rs t u ht hu q.symm)).trans hx, k⟩
end
section
variable {w : World}
theorem Pack_walk (v : Nat) (hv : v < 281474976710656) (w : World) :
    Calls Tryz.prog 219 #[.agg #[.int .u16 ((v : Int) % 65536), .int .u32 ((v : Int) / 65536)]] w fun e w' => e = .returned (.int .u64 (v : Int)) ∧ Below w.heap.size w w' := by
  have e1 : ((v : Int) / 65536) = ((v / 65536 : Nat) : Int) := by omega
  have e2 : ((v : Int) % 65536) = ((v % 65536 : Nat) : Int) := by omega
  have hp := pack_nat (v / 65536) (v % 65536) (by omega) (by omega)
  rw [e1, e2]
  have e3 : v / 65536 * 65536 + v % 65536 = v := by omega
  rw [e3] at hp
  have l1 : v / 65536 < 4294967296 := by omega
  have l2 : v % 65536 < 65536 := by omega
  generalize v / 65536 = a at *
  generalize v % 65536 = b at *
  have e4 : ((a * 65536 : Nat) : Int) = (a : Int) * 65536 := by omega
  rw [e4] at hp
  have HP := hideIt hp
  clear hp e1 e2 e3 e4
  go_enter Tryz.func219, Tryz.ntmps219
  go_wp2_with fail
  rw [HP.out]
  go_ret
  exact ⟨rfl, alloc_below _⟩
theorem validRef_walk (i g : Int) (w : World) :
    Calls Tryz.prog 296 #[.agg #[.int .u16 i, .int .u32 g]] w fun e w' => e = .returned (.bool (decide (i < 320))) ∧ Below w.heap.size w w' := by
  go_enter Tryz.func296, Tryz.ntmps296
  go_wp2_with fail
  go_ret
  exact ⟨rfl, alloc_below _⟩
/-- A put into the cells from q on: refused, or done. -/
def PtPost (b q : Nat) (v : Nat) (m : Int) (cs : List Value) (w : World) (e : Ending) (w' : World) : Prop :=
  ((m ≤ (v : Int) ∧ e = .returned (.bool false) ∧ Below w.heap.size w w')) ∨ ((v : Int) < m ∧ e = .returned (.bool true) ∧ St1 b q cs.length w w' ∧ w'.rangeAt b q cs)
theorem one_range {w : World} {b q : Nat} {v u : Value} (h : w.cell? ⟨b, q, none⟩ = some u) : (w.setCell ⟨b, q, none⟩ v).rangeAt b q [v] := fun j x hj => by
  match j, hj with
  | 0, hj =>
    simp only [List.getElem?_cons_zero, Option.some.injEq] at hj
    subst hj
    exact set_same h
theorem putU8_walk {b q : Nat} {x : Int} (v most : Nat) (hm : most < 256) (hv : v < 18446744073709551616) (hc : w.cell? ⟨b, q, none⟩ = some (.int .u8 x)) (hf : w.frozen? ⟨b, q, none⟩ = false) :
    Calls Tryz.prog 371 #[.pointer (some ⟨b, q, none⟩), .int .u64 (v : Int), .int .u64 (most : Int)] w (PtPost b q v ((most : Int) + 1) [.int .u8 (v : Int)] w) := by
  by_cases h : most < v
  · have c1 : (v : Int) > (most : Int) := by omega
    go_enter Tryz.func371, Tryz.ntmps371
    go_wp2_with fail
    go_ret
    exact Or.inl ⟨by omega, rfl, Below.refl _ _⟩
  · have c1 : ¬ (v : Int) > (most : Int) := by omega
    have c2 : (v : Int) < 256 := by omega
    have c3 : (v : Int) < (most : Int) + 1 := by omega
    go_enter Tryz.func371, Tryz.ntmps371
    go_wp2_with fail
    go_ret
    exact Or.inr ⟨c3, rfl, St1.one _ _ _ _, one_range hc⟩
theorem putU16_walk {b q : Nat} {x : Int} (v most : Nat) (hm : most < 65536) (hv : v < 18446744073709551616) (hc : w.cell? ⟨b, q, none⟩ = some (.int .u16 x)) (hf : w.frozen? ⟨b, q, none⟩ = false) :
    Calls Tryz.prog 373 #[.pointer (some ⟨b, q, none⟩), .int .u64 (v : Int), .int .u64 (most : Int)] w (PtPost b q v ((most : Int) + 1) [.int .u16 (v : Int)] w) := by
  by_cases h : most < v
  · have c1 : (v : Int) > (most : Int) := by omega
    go_enter Tryz.func373, Tryz.ntmps373
    go_wp2_with fail
    go_ret
    exact Or.inl ⟨by omega, rfl, Below.refl _ _⟩
  · have c1 : ¬ (v : Int) > (most : Int) := by omega
    have c2 : (v : Int) < 65536 := by omega
    have c3 : (v : Int) < (most : Int) + 1 := by omega
    go_enter Tryz.func373, Tryz.ntmps373
    go_wp2_with fail
    go_ret
    exact Or.inr ⟨c3, rfl, St1.one _ _ _ _, one_range hc⟩
theorem putU32_walk {b q : Nat} {x : Int} (v : Nat) (hv : v < 18446744073709551616) (hc : w.cell? ⟨b, q, none⟩ = some (.int .u32 x)) (hf : w.frozen? ⟨b, q, none⟩ = false) :
    Calls Tryz.prog 372 #[.pointer (some ⟨b, q, none⟩), .int .u64 (v : Int)] w (PtPost b q v 4294967296 [.int .u32 (v : Int)] w) := by
  by_cases h : 4294967295 < v
  · have c1 : (v : Int) > 4294967295 := by omega
    go_enter Tryz.func372, Tryz.ntmps372
    go_wp2_with fail
    go_ret
    exact Or.inl ⟨by omega, rfl, Below.refl _ _⟩
  · have c1 : ¬ (v : Int) > 4294967295 := by omega
    have c2 : (v : Int) < 4294967296 := by omega
    go_enter Tryz.func372, Tryz.ntmps372
    go_wp2_with fail
    go_ret
    exact Or.inr ⟨c2, rfl, St1.one _ _ _ _, one_range hc⟩
theorem putBool_walk {b q : Nat} {x : Bool} (v : Nat) (hv : v < 18446744073709551616) (hc : w.cell? ⟨b, q, none⟩ = some (.bool x)) (hf : w.frozen? ⟨b, q, none⟩ = false) :
    Calls Tryz.prog 384 #[.pointer (some ⟨b, q, none⟩), .int .u64 (v : Int)] w (PtPost b q v 2 [bo (v : Int)] w) := by
  by_cases h : 1 < v
  · have c1 : (v : Int) > 1 := by omega
    go_enter Tryz.func384, Tryz.ntmps384
    go_wp2_with fail
    go_ret
    exact Or.inl ⟨by omega, rfl, Below.refl _ _⟩
  · have c1 : ¬ (v : Int) > 1 := by omega
    have c2 : (v : Int) < 2 := by omega
    have e : v = 0 ∨ v = 1 := by omega
    rcases e with rfl | rfl
    · go_enter Tryz.func384, Tryz.ntmps384
      go_wp2_with fail
      go_ret
      exact Or.inr ⟨by omega, rfl, St1.one _ _ _ _, one_range hc⟩
    · go_enter Tryz.func384, Tryz.ntmps384
      go_wp2_with fail
      go_ret
      exact Or.inr ⟨by omega, rfl, St1.one _ _ _ _, one_range hc⟩
def PtRef (b q : Nat) (v : Nat) (cs : List Value) (w : World) (e : Ending) (w' : World) : Prop :=
  (¬ ((v : Int) < 281474976710656 ∧ (v : Int) % 65536 < 320) ∧ e = .returned (.bool false) ∧ Below w.heap.size w w') ∨ (((v : Int) < 281474976710656 ∧ (v : Int) % 65536 < 320) ∧ e = .returned (.bool true) ∧ St1 b q cs.length w w' ∧ w'.rangeAt b q cs)
def upd (W : Nat → Int) (f : Nat) (v : Int) : Nat → Int := fun x => if x = f then v else W x
def LdPost (x : Int) (w : World) (e : Ending) (w' : World) : Prop := e = .returned (.int .u64 x) ∧ Below w.heap.size w w'
/-- A store into field f of a row. -/
def SrPost (t f b o : Nat) (W : Nat → Int) (v : Nat) (w : World) (e : Ending) (w' : World) : Prop :=
  (¬ fOk t f (v : Int) ∧ e = .returned (.bool false) ∧ Below w.heap.size w w') ∨ (fOk t f (v : Int) ∧ e = .returned (.bool true) ∧ St1 b o (nC t) w w' ∧ w'.rangeAt b o (rowL t (upd W f v)))
def SrC (b o f : Nat) (W : Nat → Int) (v : Nat) (w : World) (e : Ending) (w' : World) : Prop :=
  (¬ fOk 0 f (v : Int) ∧ e = .returned (.bool false) ∧ Below w.heap.size w w') ∨ (fOk 0 f (v : Int) ∧ e = .returned (.bool true) ∧ St1 b o 8 w w' ∧ w'.rangeAt b o (cellL (upd W f v) 0))
theorem boolWord_walk (v : Int) (hv : 0 ≤ v ∧ v < 2) (w : World) :
    Calls Tryz.prog 383 #[bo v] w fun e w' => e = .returned (.int .u64 v) ∧ w' = w := by
  have e : v = 0 ∨ v = 1 := by omega
  rcases e with rfl | rfl
  · show Calls _ _ #[.bool false] _ _
    go_enter Tryz.func383, Tryz.ntmps383
    go_wp2_with fail
    go_ret
    exact ⟨rfl, rfl⟩
  · show Calls _ _ #[.bool true] _ _
    go_enter Tryz.func383, Tryz.ntmps383
    go_wp2_with fail
    go_ret
    exact ⟨rfl, rfl⟩
def UnPost (v : Nat) (w : World) (e : Ending) (w' : World) : Prop :=
  Below w.heap.size w w' ∧ ((¬ (v < 281474976710656 ∧ v % 65536 < 320) ∧ e = .returned (.tuple #[.agg #[.int .u16 0, .int .u32 0], .bool false])) ∨ ((v < 281474976710656 ∧ v % 65536 < 320) ∧ e = .returned (.tuple #[.agg #[lo (v : Int), hi (v : Int)], .bool true])))
set_option maxHeartbeats 800000 in
theorem Unpack_walk (v : Nat) (hv : v < 18446744073709551616) (w : World) :
    Calls Tryz.prog 374 #[.int .u64 (v : Int)] w (UnPost v w) := by
  have ha := and_ffff v hv
  have e1 : ((v % 65536 : Nat) : Int) = (v : Int) % 65536 := by omega
  rw [e1] at ha
  by_cases h1 : v < 281474976710656
  · have k1 : ((v : Int) / 281474976710656 != 0) = false := by
      have : (v : Int) / 281474976710656 = 0 := by omega
      rw [this]; rfl
    by_cases h2 : v % 65536 < 320
    · have c2 : ¬ (v : Int) % 65536 ≥ 320 := by omega
      have c3 : (v : Int) % 65536 < 65536 := by omega
      have c4 : (v : Int) / 65536 < 4294967296 := by omega
      go_enter Tryz.func374, Tryz.ntmps374
      go_wp2_with fail
      exact bodyPost_ret (results_two (by exact Tryz.results374) _ _ w.heap.size _ _ (by rfl) (by rfl) (load32 (by exact heap_new _ _))) rfl ⟨alloc_below _, Or.inr ⟨⟨h1, h2⟩, rfl⟩⟩
    · have c2 : (v : Int) % 65536 ≥ 320 := by omega
      go_enter Tryz.func374, Tryz.ntmps374
      go_wp2_with fail
      exact bodyPost_ret (results_two (by exact Tryz.results374) _ _ w.heap.size _ _ (by rfl) (by rfl) (load32 (by exact heap_new _ _))) rfl ⟨alloc_below _, Or.inl ⟨by omega, rfl⟩⟩
  · have k1 : ((v : Int) / 281474976710656 != 0) = true := by
      rw [bne_iff_ne]
      omega
    go_enter Tryz.func374, Tryz.ntmps374
    go_wp2_with fail
    exact bodyPost_ret (results_two (by exact Tryz.results374) _ _ w.heap.size _ _ (by rfl) (by rfl) (load32 (by exact heap_new _ _))) rfl ⟨alloc_below _, Or.inl ⟨by omega, rfl⟩⟩
theorem set2_end {w1 : World} {b q : Nat} {u v : Value} (hb : Below w.heap.size w w1) (lb : b < w.heap.size) (c0 : w1.cell? ⟨b, q, none⟩ = some u) (c1 : w1.cell? ⟨b, q + 1, none⟩ = some v) (x y : Value) (o : Obj) :
    St1 b q 2 w (((w1.setCell ⟨b, q, none⟩ x).setCell ⟨b, q + 1, none⟩ y).alloc o) ∧ (((w1.setCell ⟨b, q, none⟩ x).setCell ⟨b, q + 1, none⟩ y).alloc o).rangeAt b q [x, y] := by
  have lb1 : b < w1.heap.size := Nat.lt_of_lt_of_le lb hb.size
  have s1 : St1 b q 2 w1 ((w1.setCell ⟨b, q, none⟩ x).setCell ⟨b, q + 1, none⟩ y) := (St1.one w1 b q x).trans (St1.one _ b (q + 1) y) (Nat.le_refl _) (by omega) (by omega) (by omega)
  have l2 : b < ((w1.setCell ⟨b, q, none⟩ x).setCell ⟨b, q + 1, none⟩ y).heap.size := by simpa using lb1
  refine ⟨((St1.of_below hb lb q 2).trans s1 (Nat.le_refl _) (Nat.le_refl _) (Nat.le_refl _) (Nat.le_refl _)).trans (St1.of_below (alloc_below o) l2 q 2) (Nat.le_refl _) (Nat.le_refl _) (Nat.le_refl _) (Nat.le_refl _), ?_⟩
  refine World.rangeAt_alloc (fun j z hj => ?_) o
  match j, hj with
  | 0, hj =>
    simp only [List.getElem?_cons_zero, Option.some.injEq] at hj
    subst hj
    rw [Nat.add_zero, set_other (by simp)]
    exact set_same c0
  | 1, hj =>
    simp only [List.getElem?_cons_succ, List.getElem?_cons_zero, Option.some.injEq] at hj
    subst hj
    exact set_same (u := v) (by rw [set_other (by simp)]; exact c1)
set_option maxHeartbeats 800000 in
theorem putRef_walk {b q : Nat} {x : Int} (v : Nat) (hv : v < 18446744073709551616) (h0 : w.cell? ⟨b, q, none⟩ = some (lo x)) (h1 : w.cell? ⟨b, q + 1, none⟩ = some (hi x)) (f0 : w.frozen? ⟨b, q, none⟩ = false) (f1 : w.frozen? ⟨b, q + 1, none⟩ = false) :
    Calls Tryz.prog 370 #[.pointer (some ⟨b, q, none⟩), .int .u64 (v : Int)] w (PtRef b q v [lo (v : Int), hi (v : Int)] w) := by
  have HU := hideIt (Unpack_walk v hv w)
  have lb := cell_lt h0
  go_enter Tryz.func370, Tryz.ntmps370
  go_wp2_with fail
  go_at_call 374
  refine HU.out.mono ?_
  rintro e w1 ⟨hb, hh⟩
  have c0 := (hb.cell (p := ⟨b, q, none⟩) lb).trans h0
  have c1 := (hb.cell (p := ⟨b, q + 1, none⟩) lb).trans h1
  have j0 := (frz_below hb lb q).trans f0
  have j1 := (frz_below hb lb (q + 1)).trans f1
  have lb1 : b < w1.heap.size := Nat.lt_of_lt_of_le lb hb.size
  have HB := hideIt hb
  unfold lo at c0
  unfold hi at c1
  clear hb h0 h1 f0 f1
  rcases hh with ⟨hlt, rfl⟩ | ⟨hlt, rfl⟩
  · have HLT : Hid (¬ ((v : Int) < 281474976710656 ∧ (v : Int) % 65536 < 320)) := fun q => hlt ⟨by omega, by omega⟩
    clear hlt
    go_wp2_with fail
    exact bodyPost_ret (by simp [results, Tryz.results370]) rfl (Or.inl ⟨HLT.out, rfl, Below.thr HB.out (alloc_below _)⟩)
  · have hlt' : (v : Int) < 281474976710656 := by omega
    have HLT : Hid ((v : Int) < 281474976710656 ∧ (v : Int) % 65536 < 320) := ⟨by omega, by omega⟩
    clear hlt
    have HS := hideIt (set2_end HB.out lb c0 c1 (lo (v : Int)) (hi (v : Int)) (.cells #[lo (v : Int), hi (v : Int)] 32))
    unfold lo hi
    go_wp2_with fail
    exact bodyPost_ret (by simp [results, Tryz.results370]) rfl (Or.inr ⟨HLT.out, rfl, HS.out.1, HS.out.2⟩)
end
end Go.Proofs.Qxb6500847aGreatDoor.Os
