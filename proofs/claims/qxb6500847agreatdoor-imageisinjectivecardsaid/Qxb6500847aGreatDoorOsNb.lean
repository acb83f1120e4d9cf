/-
  New.
-/
import Derived.Test.Qxb6500847aGreatDoorOsNa
namespace Go.Proofs.Qxb6500847aGreatDoor.Os
open Go.RowKit FloorA
set_option maxRecDepth 100000
def hd0 : Hd := ⟨1, 0, 0, 65535, 65535, 65535, 0, 0⟩
def zS : Av := { hd := fun _ => ⟨0, 0, 0, 0, 0, 0, 0, 0⟩, idl := fun _ => 0, rg := fun _ => ⟨0, 0, 0, 0⟩, rts := fun _ => 0, nrt := 0, lv := fun _ => 0, c0 := 0, c1 := 0, c2 := 0, c3 := 0, tr := fun _ => .slice none 0 0, ti := fun _ => .slice none 0 0 }
theorem z144 : Tryz.zeroCells144.toList = (List.range 2910).map (memOf zS) := by kernel_rfl
theorem z144_get {o : Nat} (ho : o < 2910) : Tryz.zeroCells144[o]? = some (memOf zS o) := by
  have : Tryz.zeroCells144.toList[o]? = some (memOf zS o) := by rw [z144]; simp [ho]
  simpa using this
section
variable {w : World} {A : Nat} {s : Av}
theorem Am.head8 (h : Am w A s) {i : Nat} (hi : i < 320) (g : Hd) : Am (w.setCells A (i * 8) [hdC g 0, hdC g 1, hdC g 2, hdC g 3, hdC g 4, hdC g 5, hdC g 6, hdC g 7]) A (s.setHd i g) := by
  refine ⟨fun q hq => ?_, fun q => by rw [World.frozen?_setCells]; exact h.free q⟩
  by_cases hin : i * 8 ≤ q ∧ q < i * 8 + 8
  · obtain ⟨d, hd, rfl⟩ : ∃ d, d < 8 ∧ q = i * 8 + d := ⟨q - i * 8, by omega, by omega⟩
    have := World.cell?_setCells_in A [hdC g 0, hdC g 1, hdC g 2, hdC g 3, hdC g 4, hdC g 5, hdC g 6, hdC g 7] (i * 8) w (fun j hj => by
      have : j < 8 := hj
      rw [h.cell _ (by omega)]; rfl) d hd
    rw [this, mem_hd _ hi hd]
    simp only [Av.setHd, if_true]
    clear this hin hq
    match d, hd with
    | 0, _ => rfl
    | 1, _ => rfl
    | 2, _ => rfl
    | 3, _ => rfl
    | 4, _ => rfl
    | 5, _ => rfl
    | 6, _ => rfl
    | 7, _ => rfl
  · rw [World.cell?_setCells_out A _ _ _ _ (fun _ _ => by show q < i * 8 ∨ i * 8 + 8 ≤ q; omega), h.cell q hq]
    by_cases hl : q < 2560
    · have e : q = q / 8 * 8 + q % 8 := by omega
      rw [e, mem_hd _ (by omega) (by omega), mem_hd _ (by omega) (by omega)]
      have : q / 8 ≠ i := by omega
      simp [Av.setHd, this]
    · simp [memOf, hl, Av.setHd]
theorem Am.reg4 (h : Am w A s) {i : Nat} (hi : i < 64) (g : Rg) : Am (w.setCells A (2565 + i * 4) [rgC g 0, rgC g 1, rgC g 2, rgC g 3]) A (s.setRg i g) := by
  refine ⟨fun q hq => ?_, fun q => by rw [World.frozen?_setCells]; exact h.free q⟩
  by_cases hin : 2565 + i * 4 ≤ q ∧ q < 2565 + i * 4 + 4
  · obtain ⟨d, hd, rfl⟩ : ∃ d, d < 4 ∧ q = 2565 + i * 4 + d := ⟨q - (2565 + i * 4), by omega, by omega⟩
    have := World.cell?_setCells_in A [rgC g 0, rgC g 1, rgC g 2, rgC g 3] (2565 + i * 4) w (fun j hj => by
      have : j < 4 := hj
      rw [h.cell _ (by omega)]; rfl) d hd
    rw [this, mem_rg _ hi hd]
    simp only [Av.setRg, if_true]
    clear this hin hq
    match d, hd with
    | 0, _ => rfl
    | 1, _ => rfl
    | 2, _ => rfl
    | 3, _ => rfl
  · rw [World.cell?_setCells_out A _ _ _ _ (fun _ _ => by show q < 2565 + i * 4 ∨ 2565 + i * 4 + 4 ≤ q; omega), h.cell q hq]
    by_cases hl : 2565 ≤ q ∧ q < 2821
    · have e : q = 2565 + (q - 2565) / 4 * 4 + (q - 2565) % 4 := by omega
      rw [e, mem_rg _ (by omega) (by omega), mem_rg _ (by omega) (by omega)]
      have : (q - 2565) / 4 ≠ i := by omega
      simp [Av.setRg, this]
    · by_cases a1 : q < 2560
      · simp [memOf, a1, Av.setRg]
      · by_cases a2 : q < 2565
        · simp [memOf, a1, a2, Av.setRg]
        · have a3 : ¬ q < 2821 := by omega
          simp [memOf, a1, a2, a3, Av.setRg]
end
/-- What New makes. -/
structure Fresh (s : Av) (rb sb : Nat → Nat) (k : Nat) : Prop where
  wd : Wd s
  idl : ∀ x, x < 320 → (Idl s x ↔ x < k)
  hd : ∀ x, x < k → s.hd x = hd0
  nrt : s.nrt = 0
  tr : ∀ t, t < 6 → s.tr t = .slice (some ⟨rb t, 0, none⟩) (nR t) (nR t)
  ti : ∀ t, t < 6 → s.ti t = .slice (some ⟨sb t, 0, none⟩) (nR t) (nR t)
  cn : (∀ k, k < 8 → s.lv k = 0) ∧ s.c0 = 0 ∧ s.c1 = 0 ∧ s.c2 = 0 ∧ s.c3 = 0
theorem Fresh.step {s : Av} {rb sb : Nat → Nat} {k : Nat} (h : Fresh s rb sb k) : Fresh ((s.setHd k hd0).on k) rb sb (k + 1) := by
  refine ⟨Wd.on (fun j hj => h.wd j hj) k, fun x hx => ?_, fun x hx => ?_, h.nrt, h.tr, h.ti, h.cn⟩
  · rw [Idl.on]
    have e : Idl (s.setHd k hd0) x ↔ Idl s x := Iff.rfl
    rw [e, h.idl x hx]
    omega
  · show (if x = k then hd0 else s.hd x) = hd0
    by_cases e : x = k
    · rw [if_pos e]
    · rw [if_neg e]; exact h.hd x (by omega)
theorem Fresh.reg {s : Av} {rb sb : Nat → Nat} {k : Nat} (h : Fresh s rb sb k) (i : Nat) (g : Rg) : Fresh (s.setRg i g) rb sb k := ⟨h.wd, h.idl, h.hd, h.nrt, h.tr, h.ti, h.cn⟩
def tl0 (t : Nat) : List Int := (List.range (nR t)).map (fun j => ((nR t - 1 - j : Nat) : Int))
theorem Fresh.iv {s : Av} {rb sb : Nat → Nat} (h : Fresh s rb sb 320) : IV s tl0 (fun _ => []) 0 := by
  have t0 : ∀ x, x < 320 → (s.hd x).typ = 0 := fun x hx => by rw [h.hd x hx]; rfl
  have nr : ∀ p, ¬ IsReg s p := fun p hp => by
    have := hp.2.2
    rw [t0 p hp.2.1] at this
    omega
  refine ⟨⟨h.wd, fun i hi _ => t0 i hi, fun i hi => ⟨0, t0 i hi, by omega, fun q => absurd rfl q⟩, fun i hi => ⟨1, by rw [h.hd i hi]; rfl, by omega, by omega, fun _ => by omega⟩, fun i hi => by rw [h.hd i hi]; simp [hd0]⟩, ⟨fun i k hi k2 _ e => ?_, fun i j k hi _ k2 _ e _ _ => ?_, fun t _ x hx => ?_, fun t _ => ?_⟩, ⟨fun p hp => absurd hp (nr p), fun p hp => absurd hp (nr p), fun p hp => absurd hp (nr p), fun p hp => absurd hp (nr p), fun p hp => absurd hp (nr p), fun p hp => absurd hp (nr p), fun c hc q => absurd (t0 c hc) q⟩, ⟨⟨by omega, by rw [h.nrt]; rfl, fun i hi => absurd hi (Nat.not_lt_zero _), fun i j _ hj => absurd hj (Nat.not_lt_zero _)⟩, fun i c hi => absurd hi (Nat.not_lt_zero _), fun c hc q => absurd (t0 c hc) q⟩, ⟨fun _ => 0, fun c p hc q => absurd (t0 c hc) q⟩⟩
  · rw [t0 i hi] at e; omega
  · rw [t0 i hi] at e; omega
  · obtain ⟨j, hj, e⟩ := List.mem_map.1 hx
    have hj' : j < nR t := by simpa using hj
    exact ⟨nR t - 1 - j, e.symm, by omega⟩
  · unfold tl0
    rw [List.nodup_iff_pairwise_ne, List.pairwise_map]
    refine (List.nodup_iff_pairwise_ne.1 List.nodup_range).imp_of_mem (fun {a b} ha hb hab e => hab ?_)
    have ha' : a < nR t := by simpa using ha
    have hb' : b < nR t := by simpa using hb
    omega
section
variable {w : World}
/-- The new store in memory. -/
def NwPost (w : World) (e : Ending) (w' : World) : Prop :=
  ∃ (A : Nat) (rb sb : Nat → Nat) (s : Av), e = .returned (.pointer (some ⟨A, 0, none⟩)) ∧ Below w.heap.size w w' ∧ (∀ b, Tz A rb sb b → w.heap.size ≤ b) ∧ Fresh s rb sb 320 ∧ Ms w' A rb sb s tl0 (fun _ _ _ => 0)
/-- One table lies in memory. -/
structure Tq (t : Nat) (rb sb : Nat) (w : World) : Prop where
  row : ∀ r, r < nR t → w.rangeAt rb (r * nC t) (rowL t (fun _ => 0))
  rfz : ∀ q, w.frozen? ⟨rb, q, none⟩ = false
  stk : ∀ j, j < nR t → w.cell? ⟨sb, j, none⟩ = some (.int .u16 ((nR t - 1 - j : Nat) : Int))
  sfz : ∀ q, w.frozen? ⟨sb, q, none⟩ = false
  lr : rb < w.heap.size
  ls : sb < w.heap.size
theorem Tq.below {t rb sb B : Nat} {w w' : World} (h : Tq t rb sb w) (k : Below B w w') (h1 : rb < B) (h2 : sb < B) : Tq t rb sb w' := by
  have fz : ∀ {b : Nat}, b < B → ∀ q, w'.frozen? ⟨b, q, none⟩ = w.frozen? ⟨b, q, none⟩ := fun {b} hb q => by
    unfold World.frozen?
    rw [show w'.heap[(⟨b, q, none⟩ : Addr).block]? = w.heap[(⟨b, q, none⟩ : Addr).block]? from k.block b hb]
  exact ⟨fun r hr j v hv => (k.cell (p := ⟨rb, r * nC t + j, none⟩) h1).trans (h.row r hr j v hv), fun q => (fz h1 q).trans (h.rfz q), fun j hj => (k.cell (p := ⟨sb, j, none⟩) h2).trans (h.stk j hj), fun q => (fz h2 q).trans (h.sfz q), Nat.lt_of_lt_of_le h.lr k.size, Nat.lt_of_lt_of_le h.ls k.size⟩
end
end Go.Proofs.Qxb6500847aGreatDoor.Os
