/-
  The walks of bitset.set and of New.
-/
import Derived.Test.Qxb6500847aGreatDoorFloorD
namespace Go.Proofs.Qxb6500847aGreatDoor.FloorA
open Go.RowKit
set_option maxRecDepth 100000

theorem and_u16 (z : Int) : 0 ≤ bits .and .u16 z 63 ∧ bits .and .u16 z 63 ≤ 63 := by
  have e : bits .and .u16 z 63 = IntKind.u16.wrap (((BitVec.ofInt 16 z).toNat &&& 63 : Nat) : Int) := by
    show IntKind.u16.wrap ((BitVec.ofInt 16 z &&& BitVec.ofInt 16 63).toNat : Int) = _
    rw [BitVec.toNat_and]
    rfl
  have h2 : (BitVec.ofInt 16 z).toNat &&& 63 ≤ 63 := Nat.and_le_right
  rw [e]
  generalize (BitVec.ofInt 16 z).toNat &&& 63 = r at *
  have : IntKind.u16.wrap (r : Int) = r := by
    simp [IntKind.wrap, IntKind.bits, IntKind.signed]; omega
  rw [this]
  omega

set_option maxHeartbeats 1600000 in
theorem bitset_set (A o : Nat) (i x : Int) (w : World) (h0 : 0 ≤ i) (h1 : i < 320) (hc : w.cell? ⟨A, o + (i / 64).toNat, none⟩ = some (.int .u64 x)) (hf : w.frozen? ⟨A, o + (i / 64).toNat, none⟩ = false) :
    Calls Tryz.prog 42 #[.pointer (some ⟨A, o, none⟩), .int .u16 i] w fun e w' => e = .returned (.tuple #[]) ∧ ∃ y, w' = (w.setCell ⟨A, o + (i / 64).toNat, none⟩ (.int .u64 y)).drew := by
  have hq0 : 0 ≤ i / 64 := by omega
  have hq1 : i / 64 < 5 := by omega
  obtain ⟨hm0, hm1⟩ := and_u16 i
  go_enter Tryz.func42, Tryz.ntmps42
  go_region
  go_end0
  exact ⟨rfl, _, rfl⟩

/-! ### The arena -/
theorem zero144_idle : (List.range 5).map (fun j => match Tryz.zeroCells144[2560 + j]? with | some (.int .u64 0) => true | _ => false) = [true, true, true, true, true] := by kernel_rfl
theorem zero144_word (j : Nat) (hj : j < 5) : Tryz.zeroCells144[2560 + j]? = some (.int .u64 0) := by
  have h := congrArg (fun l => l[j]?) zero144_idle
  simp only [List.getElem?_map] at h
  match j, hj with
  | 0, _ | 1, _ | 2, _ | 3, _ | 4, _ =>
    simp at h ⊢
    split at h <;> simp_all

/-- The arena in block A: 2910 cells, none frozen; the bitset's five words are words. -/
structure Ar (W0 : World) (A : Nat) (w : World) : Prop where
  below : Below A W0 w
  cell : ∀ i, i < 2910 → ∃ x, w.cell? ⟨A, i, none⟩ = some x
  free : ∀ i, i < 2910 → w.frozen? ⟨A, i, none⟩ = false
  idle : ∀ j, j < 5 → ∃ x, w.cell? ⟨A, 2560 + j, none⟩ = some (.int .u64 x)

theorem Ar.set {W0 w : World} {A : Nat} (h : Ar W0 A w) (o : Nat) (u : Value) (ho : o < 2560 ∨ 2565 ≤ o) : Ar W0 A (w.setCell ⟨A, o, none⟩ u) := by
  refine ⟨h.below.setCell (Nat.le_refl _) _, fun i hi => some_set (h.cell i hi), fun i hi => by rw [World.frozen?_setCell]; exact h.free i hi, fun j hj => ?_⟩
  obtain ⟨x, hx⟩ := h.idle j hj
  exact ⟨x, by rw [set_other (fun e => by injection e; omega)]; exact hx⟩
theorem Ar.setIdle {W0 w : World} {A : Nat} (h : Ar W0 A w) (o : Nat) (y : Int) : Ar W0 A (w.setCell ⟨A, 2560 + o, none⟩ (.int .u64 y)) := by
  refine ⟨h.below.setCell (Nat.le_refl _) _, fun i hi => some_set (h.cell i hi), fun i hi => by rw [World.frozen?_setCell]; exact h.free i hi, fun j hj => ?_⟩
  obtain ⟨x, hx⟩ := h.idle j hj
  by_cases e : o = j
  · subst e; exact ⟨y, set_same hx⟩
  · exact ⟨x, by rw [set_other (fun e => by injection e; omega)]; exact hx⟩
theorem Ar.drew {W0 w : World} {A : Nat} (h : Ar W0 A w) : Ar W0 A w.drew := ⟨h.below.drew, h.cell, h.free, h.idle⟩
theorem bitset_ar {W0 w : World} {A k : Nat} (h : Ar W0 A w) (hk : k < 320) :
    Calls Tryz.prog 42 #[.pointer (some ⟨A, 2560, none⟩), .int .u16 (k : Int)] w fun e w' => e = .returned (.tuple #[]) ∧ Ar W0 A w' := by
  have e : ((k : Int) / 64).toNat = k / 64 := by omega
  obtain ⟨x, hx⟩ := h.idle (k / 64) (by omega)
  refine (bitset_set A 2560 (k : Int) x w (by omega) (by omega) (by rw [e]; exact hx) (by rw [e]; exact h.free _ (by omega))).mono ?_
  rintro ee w' ⟨rfl, y, rfl⟩
  rw [e]
  exact ⟨rfl, (h.setIdle _ _).drew⟩

set_option maxHeartbeats 3200000 in
theorem new_any (w : World) :
    Calls Tryz.prog 11 #[] w fun e w' => ∃ A, e = .returned (.pointer (some ⟨A, 0, none⟩)) ∧ w.heap.size ≤ A ∧ Below w.heap.size w w' ∧ (∀ i, i < 2910 → ∃ x, w'.cell? ⟨A, i, none⟩ = some x) ∧ (∀ i, i < 2910 → w'.frozen? ⟨A, i, none⟩ = false) := by
  go_enter Tryz.func11, Tryz.ntmps11
  go_wp2_with fail
  refine (newTable36 64 (by omega) _).mono ?_
  rintro e w1 ⟨a5, b5, rfl, hb1⟩
  go_wp2_with fail
  refine (newTable37 64 (by omega) _).mono ?_
  rintro e w2 ⟨a6, b6, rfl, hb2⟩
  go_wp2_with fail
  refine (newTable38 128 (by omega) _).mono ?_
  rintro e w3 ⟨a7, b7, rfl, hb3⟩
  go_wp2_with fail
  refine (newTable39 64 (by omega) _).mono ?_
  rintro e w4 ⟨a8, b8, rfl, hb4⟩
  go_wp2_with fail
  refine (newTable40 64 (by omega) _).mono ?_
  rintro e w5 ⟨a9, b9, rfl, hb5⟩
  go_wp2_with fail
  refine (newTable41 32 (by omega) _).mono ?_
  rintro e w6 ⟨a10, b10, rfl, hb6⟩
  have hb : Below w.heap.size w w6 := hb1.trans ((hb2.mono hb1.size).trans ((hb3.mono (Nat.le_trans hb1.size hb2.size)).trans ((hb4.mono (by have := hb1.size; have := hb2.size; have := hb3.size; omega)).trans ((hb5.mono (by have := hb1.size; have := hb2.size; have := hb3.size; have := hb4.size; omega)).trans (hb6.mono (by have := hb1.size; have := hb2.size; have := hb3.size; have := hb4.size; have := hb5.size; omega))))))
  have HB := hideIt hb
  have hsz6 := hb.size
  clear hb hb1 hb2 hb3 hb4 hb5 hb6
  go_wp2_with fail
  have hA : ∀ cs : Array Value, cs.size = 2910 → (∀ j, j < 5 → cs[2560 + j]? = some (.int .u64 0)) → Ar w6 w6.heap.size (w6.alloc (.cells cs 144)) := by
    intro cs hs hid
    have hn := heap_alloc_new w6 (.cells cs 144)
    refine ⟨(Below.refl _ _).alloc (Nat.le_refl _) _, fun i hi => ⟨cs[i]'(by rw [hs]; exact hi), ?_⟩, fun i hi => ?_, fun j hj => ⟨0, ?_⟩⟩
    · rw [World.cell?]; simp only [hn]; simp [hs, hi]
    · rw [World.frozen?]; simp only [hn]; simp
    · rw [World.cell?]; simp only [hn]; simpa using hid j hj
  have HA := hideIt hA
  clear hA
  go_loopw [12] (fun i wr => ∃ k : Nat, k ≤ 320 ∧ i = .int .i64 k ∧ Ar w6 w6.heap.size wr) (fun i _ => 320 - (intOf i).toNat)
  case atStart =>
    refine ⟨0, by omega, rfl, HA.out _ (by simp) (fun j hj => ?_)⟩
    have := zero144_word j hj
    rw [Array.getElem?_setIfInBounds_ne (by omega), Array.getElem?_setIfInBounds_ne (by omega), Array.getElem?_setIfInBounds_ne (by omega), Array.getElem?_setIfInBounds_ne (by omega), Array.getElem?_setIfInBounds_ne (by omega), Array.getElem?_setIfInBounds_ne (by omega), Array.getElem?_setIfInBounds_ne (by omega), Array.getElem?_setIfInBounds_ne (by omega), Array.getElem?_setIfInBounds_ne (by omega), Array.getElem?_setIfInBounds_ne (by omega), Array.getElem?_setIfInBounds_ne (by omega), Array.getElem?_setIfInBounds_ne (by omega)]
    exact this
  case round =>
    obtain ⟨k, hk, rfl, har⟩ := hrel
    have HR := hideIt har
    by_cases hlt : k < 320
    · obtain ⟨x0, c0⟩ := har.cell (k * 8) (by omega)
      obtain ⟨x1, c1⟩ := har.cell (k * 8 + 1) (by omega)
      obtain ⟨x2, c2⟩ := har.cell (k * 8 + 2) (by omega)
      obtain ⟨x3, c3⟩ := har.cell (k * 8 + 3) (by omega)
      obtain ⟨x4, c4⟩ := har.cell (k * 8 + 4) (by omega)
      obtain ⟨x5, c5⟩ := har.cell (k * 8 + 5) (by omega)
      obtain ⟨x6, c6⟩ := har.cell (k * 8 + 6) (by omega)
      obtain ⟨x7, c7⟩ := har.cell (k * 8 + 7) (by omega)
      have f0 := har.free (k * 8) (by omega)
      have f1 := har.free (k * 8 + 1) (by omega)
      have f2 := har.free (k * 8 + 2) (by omega)
      have f3 := har.free (k * 8 + 3) (by omega)
      have f4 := har.free (k * 8 + 4) (by omega)
      have f5 := har.free (k * 8 + 5) (by omega)
      have f6 := har.free (k * 8 + 6) (by omega)
      have f7 := har.free (k * 8 + 7) (by omega)
      clear har
      go_wp2_with fail
      refine (bitset_ar ((((((((HR.out.set (k * 8) _ (by omega)).set (k * 8 + 1) _ (by omega)).set (k * 8 + 2) _ (by omega)).set (k * 8 + 3) _ (by omega)).set (k * 8 + 4) _ (by omega)).set (k * 8 + 5) _ (by omega)).set (k * 8 + 6) _ (by omega)).set (k * 8 + 7) _ (by omega)) hlt).mono ?_
      rintro e w7 ⟨rfl, har7⟩
      have H7 := hideIt har7
      clear har7
      go_wp2
      go_roundw
      case rel => exact ⟨k + 1, by omega, by go_num, H7.out⟩
      case measure => simp [intOf]; omega
    · clear har
      go_wp2_with fail
      go_loopw [28] (fun i wr => ∃ k : Nat, k ≤ 64 ∧ i = .int .i64 k ∧ Ar w6 w6.heap.size wr) (fun i _ => 64 - (intOf i).toNat)
      case atStart => exact ⟨0, by omega, rfl, HR.out⟩
      case round =>
        obtain ⟨j, hj, rfl, har⟩ := hrel
        have HR2 := hideIt har
        by_cases hlt2 : j < 64
        · obtain ⟨x0, c0⟩ := har.cell (2565 + j * 4) (by omega)
          obtain ⟨x1, c1⟩ := har.cell (2565 + j * 4 + 1) (by omega)
          obtain ⟨x2, c2⟩ := har.cell (2565 + j * 4 + 2) (by omega)
          obtain ⟨x3, c3⟩ := har.cell (2565 + j * 4 + 3) (by omega)
          have f0 := har.free (2565 + j * 4) (by omega)
          have f1 := har.free (2565 + j * 4 + 1) (by omega)
          have f2 := har.free (2565 + j * 4 + 2) (by omega)
          have f3 := har.free (2565 + j * 4 + 3) (by omega)
          clear har
          go_wp2
          go_roundw
          case rel => exact ⟨j + 1, by omega, by go_num, (((HR2.out.set (2565 + j * 4) _ (by omega)).set (2565 + j * 4 + 1) _ (by omega)).set (2565 + j * 4 + 2) _ (by omega)).set (2565 + j * 4 + 3) _ (by omega)⟩
          case measure => simp [intOf]; omega
        · clear har
          go_wp2
          go_ret
          exact ⟨_, rfl, hsz6, HB.out.trans (HR2.out.below.mono hsz6), HR2.out.cell, HR2.out.free⟩
end Go.Proofs.Qxb6500847aGreatDoor.FloorA
