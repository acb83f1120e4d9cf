/-
  Lookup, Region.
-/
import Derived.Test.Qxb6500847aGreatDoorOsQe
import Derived.Test.Qxb6500847aGreatDoorOxC
import Derived.Test.Qxb6500847aGreatDoorOsQd
import Derived.Test.Qxb6500847aGreatDoorOsRh
namespace Go.Proofs.Qxb6500847aGreatDoor.Os
open Go.RowKit FloorA
set_option maxRecDepth 100000
theorem cells7 {w : World} {b : Nat} {v0 v1 v2 v3 v4 v5 v6 : Value} {t : TypeId} (h : w.heap[b]? = some (.cells #[v0, v1, v2, v3, v4, v5, v6] t (0, 0))) : w.cell? ⟨b, 0, none⟩ = some v0 ∧ w.cell? ⟨b, 1, none⟩ = some v1 ∧ w.cell? ⟨b, 2, none⟩ = some v2 ∧ w.cell? ⟨b, 3, none⟩ = some v3 ∧ w.cell? ⟨b, 4, none⟩ = some v4 ∧ w.cell? ⟨b, 5, none⟩ = some v5 ∧ w.cell? ⟨b, 6, none⟩ = some v6 ∧ w.frozen? ⟨b, 0, none⟩ = false ∧ w.frozen? ⟨b, 1, none⟩ = false ∧ w.frozen? ⟨b, 2, none⟩ = false ∧ w.frozen? ⟨b, 3, none⟩ = false ∧ w.frozen? ⟨b, 4, none⟩ = false ∧ w.frozen? ⟨b, 5, none⟩ = false ∧ w.frozen? ⟨b, 6, none⟩ = false := by
  refine ⟨box_cell h 0, box_cell h 1, box_cell h 2, box_cell h 3, box_cell h 4, box_cell h 5, box_cell h 6, ?_, ?_, ?_, ?_, ?_, ?_, ?_⟩ <;> simp [World.frozen?, h]
theorem cells10 {w : World} {b : Nat} {v0 v1 v2 v3 v4 v5 v6 v7 v8 v9 : Value} {t : TypeId} (h : w.heap[b]? = some (.cells #[v0, v1, v2, v3, v4, v5, v6, v7, v8, v9] t (0, 0))) : w.cell? ⟨b, 0, none⟩ = some v0 ∧ w.cell? ⟨b, 1, none⟩ = some v1 ∧ w.cell? ⟨b, 2, none⟩ = some v2 ∧ w.cell? ⟨b, 3, none⟩ = some v3 ∧ w.cell? ⟨b, 4, none⟩ = some v4 ∧ w.cell? ⟨b, 5, none⟩ = some v5 ∧ w.cell? ⟨b, 6, none⟩ = some v6 ∧ w.cell? ⟨b, 7, none⟩ = some v7 ∧ w.cell? ⟨b, 8, none⟩ = some v8 ∧ w.cell? ⟨b, 9, none⟩ = some v9 ∧ w.frozen? ⟨b, 0, none⟩ = false ∧ w.frozen? ⟨b, 1, none⟩ = false ∧ w.frozen? ⟨b, 2, none⟩ = false ∧ w.frozen? ⟨b, 3, none⟩ = false ∧ w.frozen? ⟨b, 4, none⟩ = false ∧ w.frozen? ⟨b, 5, none⟩ = false ∧ w.frozen? ⟨b, 6, none⟩ = false ∧ w.frozen? ⟨b, 7, none⟩ = false ∧ w.frozen? ⟨b, 8, none⟩ = false ∧ w.frozen? ⟨b, 9, none⟩ = false := by
  refine ⟨box_cell h 0, box_cell h 1, box_cell h 2, box_cell h 3, box_cell h 4, box_cell h 5, box_cell h 6, box_cell h 7, box_cell h 8, box_cell h 9, ?_, ?_, ?_, ?_, ?_, ?_, ?_, ?_, ?_, ?_⟩ <;> simp [World.frozen?, h]

theorem IV.par' {s : Av} {tl : Nat → List Int} {L : Nat → List Nat} {n i : Nat} (hI : IV s tl L n) (hi : i < 320) (ht : (s.hd i).typ ≠ 0) : (s.hd i).par = 65535 ∨ ∃ p : Nat, p < 320 ∧ (s.hd i).par = (p : Int) := (hI.par hi ht).imp id (fun ⟨p, hp, e⟩ => ⟨p, hp.2.1, e⟩)
/-- The cells of a RegionInfo. -/
def reg10 (i g t b z p q a c : Int) (d : Int) : List Value := inf7 i g t b z p q ++ [.int .u64 a, .int .u64 c, .int .i64 d]
theorem load43 {w : World} {R : Nat} {i g t b z p q a c d : Int} (h : w.rangeAt R 0 (reg10 i g t b z p q a c d)) : (loadVar 43 ⟨R, 0, none⟩).run Tryz.prog w = .ok (.agg (reg10 i g t b z p q a c d).toArray) w :=
  run_loadVar_mid w R 0 43 _ _ h Tryz.underlying43 rfl (by kernel_rfl)
section
variable {A : Nat} {rb sb : Nat → Nat} {s : Av} {tl : Nat → List Int} {ws : Nat → Nat → Nat → Int} {w : World} {L : Nat → List Nat} {n : Nat}
def LkPost (s : Av) (i : Nat) (g : Int) (w : World) (e : Ending) (w' : World) : Prop :=
  (¬ Live s i g ∧ ∃ v, e = .returned (.tuple #[.agg (inf7 0 0 0 0 0 0 0).toArray, v]) ∧ Refu w v w' (stale i g)) ∨ (Live s i g ∧ e = .returned (.tuple #[.agg (infS s i).toArray, .nilIface]) ∧ Below w.heap.size w w')
set_option maxHeartbeats 4000000 in
theorem Lookup_walk (h : Ms w A rb sb s tl ws) (hI : IV s tl L n) (i : Nat) (g : Int) :
    Calls Tryz.prog 25 #[.pointer (some ⟨A, 0, none⟩), .agg #[.int .u16 (i : Int), .int .u32 g]] w (LkPost s i g w) := by
  have bB := two_below (w := w) (.cells #[.int .u16 (i : Int), .int .u32 g] 32) (.cells #[.int .u16 0, .int .u32 0, .int .u8 0, .int .u64 0, .int .u64 0, .int .u16 0, .int .u32 0] 41)
  have hz : ((w.alloc (.cells #[.int .u16 (i : Int), .int .u32 g] 32)).alloc (.cells #[.int .u16 0, .int .u32 0, .int .u8 0, .int .u64 0, .int .u64 0, .int .u16 0, .int .u32 0] 41)).heap[w.heap.size]? = some (.cells #[.int .u16 (i : Int), .int .u32 g] 32 (0, 0)) := (heap_alloc_old _ _ (by simp)).trans (heap_new _ _)
  have hz2 : ((w.alloc (.cells #[.int .u16 (i : Int), .int .u32 g] 32)).alloc (.cells #[.int .u16 0, .int .u32 0, .int .u8 0, .int .u64 0, .int .u64 0, .int .u16 0, .int .u32 0] 41)).heap[w.heap.size + 1]? = some (.cells #[.int .u16 0, .int .u32 0, .int .u8 0, .int .u64 0, .int .u64 0, .int .u16 0, .int .u32 0] 41 (0, 0)) := new_at _ _ (Deep.nblk_alloc _ _)
  have HM := hideIt (h.below bB)
  have HB := hideIt bB
  have HI := hideIt hI
  have HZ := hideIt hz
  have HZ2 := hideIt hz2
  clear h hI bB hz hz2
  go_enter Tryz.func25, Tryz.ntmps25
  go_wp2_with fail
  generalize (w.alloc (.cells #[.int .u16 (i : Int), .int .u32 g] 32)).alloc (.cells #[.int .u16 0, .int .u32 0, .int .u8 0, .int .u64 0, .int .u64 0, .int .u16 0, .int .u32 0] 41) = w0 at *
  go_at_call 98
  refine (resolve_walk HM.out.am i g _).mono ?_
  rintro e w1 ⟨hb1, hh⟩
  have HB1 := hideIt (Below.thr HB.out hb1)
  have HM1 := hideIt (HM.out.below hb1)
  have HZ1 := hideIt ((hb1.block w.heap.size (heap_lt HZ.out)).trans HZ.out)
  have HY1 := hideIt ((hb1.block (w.heap.size + 1) (heap_lt HZ2.out)).trans HZ2.out)
  clear hb1
  rcases hh with ⟨hl, rfl⟩ | ⟨hl, v0, rfl, hv0⟩
  · have HL := hideIt hl
    obtain ⟨x0, x1, _, _⟩ := two_cells HZ1.out
    have HIn := hideIt (info_walk HM1.out.am hl.1 (HI.out.par' hl.1 hl.2.2.1))
    clear hl
    go_wp2_with fail
    go_at_call 46
    refine HIn.out.mono ?_
    rintro e w2 ⟨rfl, hb2⟩
    unfold infS
    obtain ⟨b, hbE⟩ : ∃ x, (s.hd i).bas = x := ⟨_, rfl⟩
    obtain ⟨z, hzE⟩ : ∃ x, (s.hd i).siz = x := ⟨_, rfl⟩
    obtain ⟨p, hpE⟩ : ∃ x, pI (s.hd i).par = x := ⟨_, rfl⟩
    obtain ⟨q, hqE⟩ : ∃ x, pG s (s.hd i).par = x := ⟨_, rfl⟩
    rw [hbE, hzE, hpE, hqE]
    have HEI : Hid (infS s i = inf7 (i : Int) (s.hd i).gen (s.hd i).typ b z p q) := by unfold infS; rw [hbE, hzE, hpE, hqE]; rfl
    clear hbE hzE hpE hqE
    have hy2 := (hb2.block (w.heap.size + 1) (heap_lt HY1.out)).trans HY1.out
    obtain ⟨y0, y1, y2, y3, y4, y5, y6, g0, g1, g2, g3, g4, g5, g6⟩ := cells7 hy2
    have HLd := hideIt (World.rangeAt_setCells_same w2 (w.heap.size + 1) 0 (inf7 (i : Int) (s.hd i).gen (s.hd i).typ b z p q) (there_of hy2 7 (by simp)))
    have HF : Hid (LkPost s i g w (.returned (.tuple #[.agg (inf7 (i : Int) (s.hd i).gen (s.hd i).typ b z p q).toArray, .nilIface])) (w2.setCells (w.heap.size + 1) 0 (inf7 (i : Int) (s.hd i).gen (s.hd i).typ b z p q))) := Or.inr ⟨HL.out, by rw [HEI.out], Below.cells (Below.thr HB1.out hb2) (by omega) _ _⟩
    clear hb2 hy2 x0 x1
    have HEq : Hid (inf7 (i : Int) (s.hd i).gen (s.hd i).typ b z p q = [.int .u16 (i : Int), .int .u32 (s.hd i).gen, .int .u8 (s.hd i).typ, .int .u64 b, .int .u64 z, .int .u16 p, .int .u32 q]) := rfl
    rw [HEq.out]
    go_wp2_with fail
    exact bodyPost_ret (results_two (by exact Tryz.results25) _ _ (w.heap.size + 1) _ _ (by rfl) (by rfl) (load41 HLd.out)) rfl HF.out
  · obtain ⟨b, rfl, hbc⟩ := hv0
    obtain ⟨y0, y1, y2, y3, y4, y5, y6, g0, g1, g2, g3, g4, g5, g6⟩ := cells7 HY1.out
    have hn8 : ∀ c, w1.cell? ⟨w.heap.size + 1, 0, none⟩ ≠ some (.int .u8 c) := fun c q => by rw [y0] at q; cases q
    have HE := hideIt (IsErr.cells (R := w.heap.size + 1) ⟨b, rfl, hbc⟩ hn8 (inf7 0 0 0 0 0 0 0) 0)
    have HF : Hid (LkPost s i g w (.returned (.tuple #[.agg (inf7 0 0 0 0 0 0 0).toArray, .iface 212 (.pointer (some ⟨b, 0, none⟩))])) (w1.setCells (w.heap.size + 1) 0 (inf7 0 0 0 0 0 0 0))) := Or.inl ⟨hl, _, rfl, ⟨HE.out, stale_ne i g, Below.cells HB1.out (by omega) _ _⟩⟩
    have HLd := hideIt (World.rangeAt_setCells_same w1 (w.heap.size + 1) 0 (inf7 0 0 0 0 0 0 0) (there_of HY1.out 7 (by simp)))
    clear hbc hl hn8
    go_wp2_with fail
    exact bodyPost_ret (results_two (by exact Tryz.results25) _ _ (w.heap.size + 1) _ _ (by rfl) (by rfl) (load41 HLd.out)) rfl HF.out
/-- The cells of the RegionInfo of a region. -/
def regS (s : Av) (i : Nat) : List Value := reg10 (i : Int) (s.hd i).gen (s.hd i).typ (s.hd i).bas (s.hd i).siz (pI (s.hd i).par) (pG s (s.hd i).par) (s.rg (i - 256)).top (IntKind.u64.wrap (IntKind.u64.wrap ((s.hd i).bas + (s.hd i).siz) - (s.rg (i - 256)).top)) (s.rg (i - 256)).kds
def RePost (s : Av) (i : Nat) (g : Int) (w : World) (e : Ending) (w' : World) : Prop :=
  (¬ (Live s i g ∧ (s.hd i).typ = 1) ∧ ∃ v, e = .returned (.tuple #[.agg (reg10 0 0 0 0 0 0 0 0 0 0).toArray, v]) ∧ Refu w v w' (if Live s i g then 3 else stale i g)) ∨ (Live s i g ∧ (s.hd i).typ = 1 ∧ e = .returned (.tuple #[.agg (regS s i).toArray, .nilIface]) ∧ Below w.heap.size w w')
set_option maxHeartbeats 8000000 in
theorem Region_walk (h : Ms w A rb sb s tl ws) (hI : IV s tl L n) (i : Nat) (g : Int) :
    Calls Tryz.prog 14 #[.pointer (some ⟨A, 0, none⟩), .agg #[.int .u16 (i : Int), .int .u32 g]] w (RePost s i g w) := by
  have bB := two_below (w := w) (.cells #[.int .u16 (i : Int), .int .u32 g] 32) (.cells #[.int .u16 0, .int .u32 0, .int .u8 0, .int .u64 0, .int .u64 0, .int .u16 0, .int .u32 0, .int .u64 0, .int .u64 0, .int .i64 0] 43)
  have hz : ((w.alloc (.cells #[.int .u16 (i : Int), .int .u32 g] 32)).alloc (.cells #[.int .u16 0, .int .u32 0, .int .u8 0, .int .u64 0, .int .u64 0, .int .u16 0, .int .u32 0, .int .u64 0, .int .u64 0, .int .i64 0] 43)).heap[w.heap.size]? = some (.cells #[.int .u16 (i : Int), .int .u32 g] 32 (0, 0)) := (heap_alloc_old _ _ (by simp)).trans (heap_new _ _)
  have hz2 : ((w.alloc (.cells #[.int .u16 (i : Int), .int .u32 g] 32)).alloc (.cells #[.int .u16 0, .int .u32 0, .int .u8 0, .int .u64 0, .int .u64 0, .int .u16 0, .int .u32 0, .int .u64 0, .int .u64 0, .int .i64 0] 43)).heap[w.heap.size + 1]? = some (.cells #[.int .u16 0, .int .u32 0, .int .u8 0, .int .u64 0, .int .u64 0, .int .u16 0, .int .u32 0, .int .u64 0, .int .u64 0, .int .i64 0] 43 (0, 0)) := new_at _ _ (Deep.nblk_alloc _ _)
  have HM := hideIt (h.below bB)
  have HB := hideIt bB
  have HI := hideIt hI
  have HZ := hideIt hz
  have HZ2 := hideIt hz2
  clear h hI bB hz hz2
  go_enter Tryz.func14, Tryz.ntmps14
  go_wp2_with fail
  generalize (w.alloc (.cells #[.int .u16 (i : Int), .int .u32 g] 32)).alloc (.cells #[.int .u16 0, .int .u32 0, .int .u8 0, .int .u64 0, .int .u64 0, .int .u16 0, .int .u32 0, .int .u64 0, .int .u64 0, .int .i64 0] 43) = w0 at *
  go_at_call 44
  refine (resolveRegion_x HM.out.am i g _).mono ?_
  rintro e w1 ⟨hb1, hh⟩
  have HB1 := hideIt (Below.thr HB.out hb1)
  have HM1 := hideIt (HM.out.below hb1)
  have HZ1 := hideIt ((hb1.block w.heap.size (heap_lt HZ.out)).trans HZ.out)
  have HY1 := hideIt ((hb1.block (w.heap.size + 1) (heap_lt HZ2.out)).trans HZ2.out)
  clear hb1
  rcases hh with ⟨hl, ht, rfl⟩ | ⟨hl, v0, rfl, code, hc, hv0, hs⟩
  · have HL := hideIt hl
    have i2 : i < 320 := hl.1
    have i1 : 256 ≤ i := by
      obtain ⟨k, ek, _, kk⟩ := HI.out.ge.typ i hl.1
      have : k = 1 := by omega
      exact (kk (by omega)).1 this
    have i' : (i : Int) < 320 := by omega
    have i'' : (256 : Int) ≤ (i : Int) := by omega
    have HP := hideIt (HI.out.par' hl.1 hl.2.2.1)
    obtain ⟨x0, x1, _, _⟩ := two_cells HZ1.out
    have la := HM1.out.am.lt
    have ne0 : w.heap.size ≠ w.heap.size + 1 := by omega
    have ne : A ≠ w.heap.size + 1 := fun q => by
      have := HM1.out.am.cell 0 (by omega)
      rw [q, (cells10 HY1.out).1] at this
      cases (s.hd 0) <;> simp [memOf, hdC] at this
    have KP : Hid (∀ w', Below w1.heap.size w1 w' → w'.cell? ⟨w.heap.size, 0, none⟩ = some (.int .u16 (i : Int)) ∧ w'.cell? ⟨A, 2565 + (i - 256) * 4 + 2, none⟩ = some (.int .i64 (s.rg (i - 256)).kds) ∧ w'.cell? ⟨A, 2565 + (i - 256) * 4 + 3, none⟩ = some (.int .u64 (s.rg (i - 256)).top)) := fun w' k => ⟨(two_cells ((k.block w.heap.size (heap_lt HZ1.out)).trans HZ1.out)).1, (HM1.out.am.below k).rgc (i := i - 256) (f := 2) (by omega) (by omega), (HM1.out.am.below k).rgc (i := i - 256) (f := 3) (by omega) (by omega)⟩
    have KR : Hid (∀ w', Below w1.heap.size w1 w' → w'.cell? ⟨w.heap.size + 1, 0, none⟩ = some (.int .u16 0) ∧ w'.cell? ⟨w.heap.size + 1, 1, none⟩ = some (.int .u32 0) ∧ w'.cell? ⟨w.heap.size + 1, 2, none⟩ = some (.int .u8 0) ∧ w'.cell? ⟨w.heap.size + 1, 3, none⟩ = some (.int .u64 0) ∧ w'.cell? ⟨w.heap.size + 1, 4, none⟩ = some (.int .u64 0) ∧ w'.cell? ⟨w.heap.size + 1, 5, none⟩ = some (.int .u16 0) ∧ w'.cell? ⟨w.heap.size + 1, 6, none⟩ = some (.int .u32 0) ∧ w'.cell? ⟨w.heap.size + 1, 7, none⟩ = some (.int .u64 0) ∧ w'.cell? ⟨w.heap.size + 1, 8, none⟩ = some (.int .u64 0) ∧ w'.cell? ⟨w.heap.size + 1, 9, none⟩ = some (.int .i64 0) ∧ w'.frozen? ⟨w.heap.size + 1, 0, none⟩ = false ∧ w'.frozen? ⟨w.heap.size + 1, 1, none⟩ = false ∧ w'.frozen? ⟨w.heap.size + 1, 2, none⟩ = false ∧ w'.frozen? ⟨w.heap.size + 1, 3, none⟩ = false ∧ w'.frozen? ⟨w.heap.size + 1, 4, none⟩ = false ∧ w'.frozen? ⟨w.heap.size + 1, 5, none⟩ = false ∧ w'.frozen? ⟨w.heap.size + 1, 6, none⟩ = false ∧ w'.frozen? ⟨w.heap.size + 1, 7, none⟩ = false ∧ w'.frozen? ⟨w.heap.size + 1, 8, none⟩ = false ∧ w'.frozen? ⟨w.heap.size + 1, 9, none⟩ = false) := fun w' k => cells10 ((k.block (w.heap.size + 1) (heap_lt HY1.out)).trans HY1.out)
    have HIc : Hid (∀ w', Below w1.heap.size w1 w' → Calls Tryz.prog 46 #[.pointer (some ⟨A, 0, none⟩), .int .u16 (i : Int)] w' (fun e w2 => e = .returned (.agg #[.int .u16 (i : Int), .int .u32 (s.hd i).gen, .int .u8 (s.hd i).typ, .int .u64 (s.hd i).bas, .int .u64 (s.hd i).siz, .int .u16 (pI (s.hd i).par), .int .u32 (pG s (s.hd i).par)]) ∧ Below w1.heap.size w1 w2)) := fun w' k => (info_walk (HM1.out.am.below k) i2 HP.out).mono (fun e w2 q => ⟨q.1, Below.thr k q.2⟩)
    have HEc : Hid (∀ w', Below w1.heap.size w1 w' → Calls Tryz.prog 47 #[.pointer (some ⟨A, i * 8, none⟩)] w' (fun e w2 => e = .returned (.int .u64 (IntKind.u64.wrap ((s.hd i).bas + (s.hd i).siz))) ∧ Below w1.heap.size w1 w2)) := fun w' k => (end_walk (HM1.out.am.below k) i2).mono (fun e w2 q => ⟨q.1, by rw [q.2]; exact Below.thr k (below_d _)⟩)
    have HT1 : Hid ((s.hd i).typ = 1) := ht
    obtain ⟨RL, hRL⟩ : ∃ l, l = regS s i := ⟨_, rfl⟩
    have HRL := hideIt hRL
    unfold regS at hRL
    have HRR := hideIt hRL
    clear hl ht HP HZ hRL
    generalize IntKind.u64.wrap ((s.hd i).bas + (s.hd i).siz) = en at HEc HRR ⊢
    generalize pI (s.hd i).par = p at HIc HRR
    generalize pG s (s.hd i).par = q at HIc HRR
    generalize (s.hd i).bas = b at HIc HRR
    generalize (s.hd i).siz = z at HIc HRR
    generalize (s.hd i).gen = ge at HIc HRR
    generalize (s.hd i).typ = ty at HIc HRR
    generalize (s.rg (i - 256)).kds = kd at KP HRR
    generalize (s.rg (i - 256)).top = tp at KP HRR
    go_wp2_with fail
    go_at_call 45
    refine (body_walk A i1 i2 _).mono ?_
    rintro e w2 ⟨rfl, hw2⟩
    subst hw2
    go_wp2_with fail
    have hS0 := KP.out w2 (Below.refl _ _)
    refine wp_region_held_drew (S := (fun w' => w'.cell? ⟨w.heap.size, 0, none⟩ = some (.int .u16 (i : Int)) ∧ w'.cell? ⟨A, 2565 + (i - 256) * 4 + 2, none⟩ = some (.int .i64 kd) ∧ w'.cell? ⟨A, 2565 + (i - 256) * 4 + 3, none⟩ = some (.int .u64 tp))) (by kernel_rfl) hS0 (fun hHeld => ?_)
    refine anyH_do (i := 0) (d := some 23) (v := (.pointer (some ⟨A, 0, none⟩))) rfl (by kernel_rfl) (by kernel_rfl) (by kernel_rfl) (fun _ _ _ h => h) (by intro w hw; go_simp) hHeld ?_
    simp only [Act.put, List.setIfInBounds_toArray, List.set_cons_zero, List.set_cons_succ]
    refine anyH_do (i := 1) (d := some 24) (v := (.pointer (some ⟨w.heap.size, 0, none⟩))) rfl (by kernel_rfl) (by kernel_rfl) (by kernel_rfl) (fun _ _ _ h => h) (by intro w hw; go_simp) hHeld ?_
    simp only [Act.put, List.setIfInBounds_toArray, List.set_cons_zero, List.set_cons_succ]
    refine anyH_do (i := 2) (d := some 25) (v := (.int .u16 (i : Int))) rfl (by kernel_rfl) (by kernel_rfl) (by kernel_rfl) (fun _ _ _ h => h) (by intro w hw; go_simp) hHeld ?_
    simp only [Act.put, List.setIfInBounds_toArray, List.set_cons_zero, List.set_cons_succ]
    refine anyH_do (i := 4) (d := some 27) (v := (.pointer (some ⟨A, 2565 + (i - 256) * 4, none⟩))) rfl (by kernel_rfl) (by kernel_rfl) (by kernel_rfl) (fun _ _ _ h => h) (by intro w hw; go_simp) hHeld ?_
    simp only [Act.put, List.setIfInBounds_toArray, List.set_cons_zero, List.set_cons_succ]
    refine anyH_do (i := 5) (d := some 28) (v := (.pointer (some ⟨A, 2565 + (i - 256) * 4, none⟩))) rfl (by kernel_rfl) (by kernel_rfl) (by kernel_rfl) (fun _ _ _ h => h) (by intro w hw; go_simp) hHeld ?_
    simp only [Act.put, List.setIfInBounds_toArray, List.set_cons_zero, List.set_cons_succ]
    refine anyH_do (i := 6) (d := some 29) (v := (.pointer (some ⟨A, 2565 + (i - 256) * 4 + 3, none⟩))) rfl (by kernel_rfl) (by kernel_rfl) (by kernel_rfl) (fun _ _ _ h => h) (by intro w hw; go_simp) hHeld ?_
    simp only [Act.put, List.setIfInBounds_toArray, List.set_cons_zero, List.set_cons_succ]
    refine anyH_do (i := 7) (d := some 30) (v := (.int .u64 tp)) rfl (by kernel_rfl) (by kernel_rfl) (by kernel_rfl) (fun _ _ _ h => h) (by intro w hw; go_simp) hHeld ?_
    simp only [Act.put, List.setIfInBounds_toArray, List.set_cons_zero, List.set_cons_succ]
    refine anyH_do (i := 8) (d := some 31) (v := (.pointer (some ⟨A, i * 8, none⟩))) rfl (by kernel_rfl) (by kernel_rfl) (by kernel_rfl) (fun _ _ _ h => h) (by intro w hw; go_simp) hHeld ?_
    simp only [Act.put, List.setIfInBounds_toArray, List.set_cons_zero, List.set_cons_succ]
    refine anyH_do (i := 10) (d := some 33) (v := (.pointer (some ⟨A, 2565 + (i - 256) * 4, none⟩))) rfl (by kernel_rfl) (by kernel_rfl) (by kernel_rfl) (fun _ _ _ h => h) (by intro w hw; go_simp) hHeld ?_
    simp only [Act.put, List.setIfInBounds_toArray, List.set_cons_zero, List.set_cons_succ]
    refine anyH_do (i := 11) (d := some 34) (v := (.pointer (some ⟨A, 2565 + (i - 256) * 4, none⟩))) rfl (by kernel_rfl) (by kernel_rfl) (by kernel_rfl) (fun _ _ _ h => h) (by intro w hw; go_simp) hHeld ?_
    simp only [Act.put, List.setIfInBounds_toArray, List.set_cons_zero, List.set_cons_succ]
    refine anyH_do (i := 12) (d := some 35) (v := (.pointer (some ⟨A, 2565 + (i - 256) * 4 + 3, none⟩))) rfl (by kernel_rfl) (by kernel_rfl) (by kernel_rfl) (fun _ _ _ h => h) (by intro w hw; go_simp) hHeld ?_
    simp only [Act.put, List.setIfInBounds_toArray, List.set_cons_zero, List.set_cons_succ]
    refine anyH_do (i := 13) (d := some 36) (v := (.int .u64 tp)) rfl (by kernel_rfl) (by kernel_rfl) (by kernel_rfl) (fun _ _ _ h => h) (by intro w hw; go_simp) hHeld ?_
    simp only [Act.put, List.setIfInBounds_toArray, List.set_cons_zero, List.set_cons_succ]
    refine anyH_do (i := 15) (d := some 38) (v := (.pointer (some ⟨A, 2565 + (i - 256) * 4, none⟩))) rfl (by kernel_rfl) (by kernel_rfl) (by kernel_rfl) (fun _ _ _ h => h) (by intro w hw; go_simp) hHeld ?_
    simp only [Act.put, List.setIfInBounds_toArray, List.set_cons_zero, List.set_cons_succ]
    refine anyH_do (i := 16) (d := some 39) (v := (.pointer (some ⟨A, 2565 + (i - 256) * 4, none⟩))) rfl (by kernel_rfl) (by kernel_rfl) (by kernel_rfl) (fun _ _ _ h => h) (by intro w hw; go_simp) hHeld ?_
    simp only [Act.put, List.setIfInBounds_toArray, List.set_cons_zero, List.set_cons_succ]
    refine anyH_do (i := 17) (d := some 40) (v := (.pointer (some ⟨A, 2565 + (i - 256) * 4 + 2, none⟩))) rfl (by kernel_rfl) (by kernel_rfl) (by kernel_rfl) (fun _ _ _ h => h) (by intro w hw; go_simp) hHeld ?_
    simp only [Act.put, List.setIfInBounds_toArray, List.set_cons_zero, List.set_cons_succ]
    refine anyH_do (i := 18) (d := some 41) (v := (.int .i64 kd)) rfl (by kernel_rfl) (by kernel_rfl) (by kernel_rfl) (fun _ _ _ h => h) (by intro w hw; go_simp) hHeld ?_
    simp only [Act.put, List.setIfInBounds_toArray, List.set_cons_zero, List.set_cons_succ]
    refine anyH_call (i := 3) (d := some 26) (f := 46) (args := #[.pointer (some ⟨A, 0, none⟩), .int .u16 (i : Int)]) rfl (by kernel_rfl) (by go_simp) ?_
    refine (HIc.out _ (below_d w2)).mono ?_
    rintro e w3 ⟨rfl, hbI⟩
    refine ⟨_, rfl, KP.out _ hbI, ?_⟩
    clear hHeld
    have hHeld := KP.out _ hbI
    simp only [Act.put, List.setIfInBounds_toArray, List.set_cons_zero, List.set_cons_succ]
    refine anyH_call (i := 9) (d := some 32) (f := 47) (args := #[.pointer (some ⟨A, i * 8, none⟩)]) rfl (by kernel_rfl) (by go_simp) ?_
    refine (HEc.out _ hbI).mono ?_
    rintro e w4 ⟨rfl, hbE⟩
    refine ⟨_, rfl, KP.out _ hbE, ?_⟩
    clear hHeld
    have hHeld := KP.out _ hbE
    have h10 := (hbE.block (w.heap.size + 1) (heap_lt HY1.out)).trans HY1.out
    have hth := there_of h10 10 (by simp)
    have HTh : Hid (w4.there (w.heap.size + 1) 0 (reg10 i ge ty b z p q tp (IntKind.u64.wrap (en - tp)) kd).length) := hth
    have HRA := hideIt (World.rangeAt_setCells_same w4 (w.heap.size + 1) 0 (reg10 i ge ty b z p q tp (IntKind.u64.wrap (en - tp)) kd) hth)
    have HBX : Hid (RePost s i g w (.returned (.tuple #[.agg (reg10 i ge ty b z p q tp (IntKind.u64.wrap (en - tp)) kd).toArray, .nilIface])) (w4.setCells (w.heap.size + 1) 0 (reg10 i ge ty b z p q tp (IntKind.u64.wrap (en - tp)) kd))) := Or.inr ⟨HL.out, HT1.out, by rw [← HRL.out, HRR.out], Below.cells (Below.thr HB1.out hbE) (by omega) _ _⟩
    clear h10 hth hbI hbE
    simp only [Act.put, List.setIfInBounds_toArray, List.set_cons_zero, List.set_cons_succ]
    refine anyH_do (i := 14) (d := some 37) (v := (.int .u64 (IntKind.u64.wrap (en - tp)))) rfl (by kernel_rfl) (by kernel_rfl) (by kernel_rfl) (fun _ _ _ h => h) (by intro w hw; go_simp) hHeld ?_
    simp only [Act.put, List.setIfInBounds_toArray, List.set_cons_zero, List.set_cons_succ]
    refine anyH_do (i := 19) (d := some 42) (v := (.agg #[.int .u16 (i : Int), .int .u32 ge, .int .u8 ty, .int .u64 b, .int .u64 z, .int .u16 p, .int .u32 q, .int .u64 tp, .int .u64 (IntKind.u64.wrap (en - tp)), .int .i64 kd])) rfl (by kernel_rfl) (by kernel_rfl) (by kernel_rfl) (fun _ _ _ h => h) (by intro w hw; go_simp) hHeld ?_
    simp only [Act.put, List.setIfInBounds_toArray, List.set_cons_zero, List.set_cons_succ]
    have hHeld1 : (w4.setCells (w.heap.size + 1) 0 (reg10 i ge ty b z p q tp (IntKind.u64.wrap (en - tp)) kd)).cell? ⟨w.heap.size, 0, none⟩ = some (.int .u16 (i : Int)) ∧ (w4.setCells (w.heap.size + 1) 0 (reg10 i ge ty b z p q tp (IntKind.u64.wrap (en - tp)) kd)).cell? ⟨A, 2565 + (i - 256) * 4 + 2, none⟩ = some (.int .i64 kd) ∧ (w4.setCells (w.heap.size + 1) 0 (reg10 i ge ty b z p q tp (IntKind.u64.wrap (en - tp)) kd)).cell? ⟨A, 2565 + (i - 256) * 4 + 3, none⟩ = some (.int .u64 tp) := ⟨(World.cell?_setCells_out _ _ _ _ _ (fun q _ => absurd q ne0)).trans hHeld.1, (World.cell?_setCells_out _ _ _ _ _ (fun q _ => absurd q ne)).trans hHeld.2.1, (World.cell?_setCells_out _ _ _ _ _ (fun q _ => absurd q ne)).trans hHeld.2.2⟩
    refine anyH_storeK (i := 20) (cs := reg10 i ge ty b z p q tp (IntKind.u64.wrap (en - tp)) kd) rfl rfl rfl (by kernel_rfl) HTh.out (by kernel_rfl) (fun v hv => ?_) hHeld1 ?_
    · simp only [reg10, inf7, List.cons_append, List.nil_append, List.mem_cons, List.not_mem_nil, or_false] at hv
      rcases hv with rfl | rfl | rfl | rfl | rfl | rfl | rfl | rfl | rfl | rfl <;> rfl
    clear hHeld
    have hHeld := hHeld1
    clear hHeld1
    generalize w4.setCells (w.heap.size + 1) 0 (reg10 i ge ty b z p q tp (IntKind.u64.wrap (en - tp)) kd) = w5 at *
    refine anyH_do (i := 21) (d := some 5) (v := (.nilIface)) rfl (by kernel_rfl) (by kernel_rfl) (by kernel_rfl) (fun _ _ _ h => h) (by intro w hw; go_simp) hHeld ?_
    simp only [Act.put, List.setIfInBounds_toArray, List.set_cons_zero, List.set_cons_succ]
    refine wpAnyH_done (by kernel_rfl) ?_ _
    · go_wp2_with fail
      exact bodyPost_ret (results_two (by exact Tryz.results14) _ _ (w.heap.size + 1) _ _ (by rfl) (by rfl) (load43 HRA.out)) rfl HBX.out
  · obtain ⟨b, rfl, hbc⟩ := hv0
    obtain ⟨b0, b1, b2, b3, b4, b5, b6, b7, b8, b9, f0, f1, f2, f3, f4, f5, f6, f7, f8, f9⟩ := cells10 HY1.out
    have hn8 : ∀ c, w1.cell? ⟨w.heap.size + 1, 0, none⟩ ≠ some (.int .u8 c) := fun c q => by rw [b0] at q; cases q
    have HE := hideIt (IsErr.cells (R := w.heap.size + 1) ⟨b, rfl, hbc⟩ hn8 (reg10 0 0 0 0 0 0 0 0 0 0) 0)
    have HF : Hid (RePost s i g w (.returned (.tuple #[.agg (reg10 0 0 0 0 0 0 0 0 0 0).toArray, .iface 212 (.pointer (some ⟨b, 0, none⟩))])) (w1.setCells (w.heap.size + 1) 0 (reg10 0 0 0 0 0 0 0 0 0 0))) := Or.inl ⟨hl, _, rfl, by rw [← hs]; exact ⟨HE.out, hc, Below.cells HB1.out (by omega) _ _⟩⟩
    have HLd := hideIt (World.rangeAt_setCells_same w1 (w.heap.size + 1) 0 (reg10 0 0 0 0 0 0 0 0 0 0) (there_of HY1.out 10 (by simp)))
    clear hbc hl hs hc hn8
    go_wp2_with fail
    exact bodyPost_ret (results_two (by exact Tryz.results14) _ _ (w.heap.size + 1) _ _ (by rfl) (by rfl) (load43 HLd.out)) rfl HF.out
end
end Go.Proofs.Qxb6500847aGreatDoor.Os
