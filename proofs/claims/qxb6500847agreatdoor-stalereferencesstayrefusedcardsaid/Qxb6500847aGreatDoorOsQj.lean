/-
  Lookup: refused only where nothing live is named.
-/
import Derived.Test.Qxb6500847aGreatDoorOsQf
namespace Go.Proofs.Qxb6500847aGreatDoor.Os
open Go.RowKit FloorA
set_option maxRecDepth 100000
section
variable {A : Nat} {rb sb : Nat → Nat} {s : Av} {tl : Nat → List Int} {ws : Nat → Nat → Nat → Int} {w : World} {L : Nat → List Nat} {n : Nat}
def LsPost (s : Av) (i : Nat) (g : Int) (w : World) (e : Ending) (w' : World) : Prop :=
  (¬ Live s i g ∧ ∃ v code, e = .returned (.tuple #[.agg (inf7 0 0 0 0 0 0 0).toArray, v]) ∧ Refu w v w' code ∧ (¬ Live s i g → code = stale i g)) ∨ (Live s i g ∧ (∃ x y b z p q : Int, e = .returned (.tuple #[.agg (inf7 x y (s.hd i).typ b z p q).toArray, .nilIface])) ∧ Below w.heap.size w w')
set_option maxHeartbeats 4000000 in
theorem LookupS_walk (h : Ms w A rb sb s tl ws) (hI : IV s tl L n) (i : Nat) (g : Int) :
    Calls Tryz.prog 25 #[.pointer (some ⟨A, 0, none⟩), .agg #[.int .u16 (i : Int), .int .u32 g]] w (LsPost s i g w) := by
  have bB := two_below (w := w) (.cells #[.int .u16 (i : Int), .int .u32 g] 32) (.cells #[.int .u16 0, .int .u32 0, .int .u8 0, .int .u64 0, .int .u64 0, .int .u16 0, .int .u32 0] 41)
  have hz : ((w.alloc (.cells #[.int .u16 (i : Int), .int .u32 g] 32)).alloc (.cells #[.int .u16 0, .int .u32 0, .int .u8 0, .int .u64 0, .int .u64 0, .int .u16 0, .int .u32 0] 41)).heap[w.heap.size]? = some (.cells #[.int .u16 (i : Int), .int .u32 g] 32 (0, 0)) := (heap_alloc_old _ _ (by simp)).trans (heap_new _ _)
  have hz2 : ((w.alloc (.cells #[.int .u16 (i : Int), .int .u32 g] 32)).alloc (.cells #[.int .u16 0, .int .u32 0, .int .u8 0, .int .u64 0, .int .u64 0, .int .u16 0, .int .u32 0] 41)).heap[w.heap.size + 1]? = some (.cells #[.int .u16 0, .int .u32 0, .int .u8 0, .int .u64 0, .int .u64 0, .int .u16 0, .int .u32 0] 41 (0, 0)) := new_at _ _ (Deep.nblk_alloc _ _)
  have HM := hideIt (h.below bB)
  have HB := hideIt bB
  have HI := hideIt hI
  have HZ := hideIt hz
  have HZ2 := hideIt hz2
  clear h hI bB hz hz2
  go_enter Tryz.func25, Tryz.ntmps25
  go_wp2_with fail
  generalize (w.alloc (.cells #[.int .u16 (i : Int), .int .u32 g] 32)).alloc (.cells #[.int .u16 0, .int .u32 0, .int .u8 0, .int .u64 0, .int .u64 0, .int .u16 0, .int .u32 0] 41) = w0 at *
  go_at_call 98
  refine (resolve_walk HM.out.am i g _).mono ?_
  rintro e w1 ⟨hb1, hh⟩
  have HB1 := hideIt (Below.thr HB.out hb1)
  have HM1 := hideIt (HM.out.below hb1)
  have HZ1 := hideIt ((hb1.block w.heap.size (heap_lt HZ.out)).trans HZ.out)
  have HY1 := hideIt ((hb1.block (w.heap.size + 1) (heap_lt HZ2.out)).trans HZ2.out)
  clear hb1
  rcases hh with ⟨hl, rfl⟩ | ⟨hl, v0, rfl, hv0⟩
  · have HL := hideIt hl
    obtain ⟨x0, x1, _, _⟩ := two_cells HZ1.out
    have HIn := hideIt (info_walk HM1.out.am hl.1 (HI.out.par' hl.1 hl.2.2.1))
    clear hl
    go_wp2_with fail
    go_at_call 46
    refine HIn.out.mono ?_
    rintro e w2 ⟨⟨b, z, p, q, rfl⟩, hb2⟩
    have hy2 := (hb2.block (w.heap.size + 1) (heap_lt HY1.out)).trans HY1.out
    obtain ⟨y0, y1, y2, y3, y4, y5, y6, g0, g1, g2, g3, g4, g5, g6⟩ := cells7 hy2
    have HLd := hideIt (World.rangeAt_setCells_same w2 (w.heap.size + 1) 0 (inf7 (i : Int) (s.hd i).gen (s.hd i).typ b z p q) (there_of hy2 7 (by simp)))
    have HF : Hid (LsPost s i g w (.returned (.tuple #[.agg (inf7 (i : Int) (s.hd i).gen (s.hd i).typ b z p q).toArray, .nilIface])) (w2.setCells (w.heap.size + 1) 0 (inf7 (i : Int) (s.hd i).gen (s.hd i).typ b z p q))) := Or.inr ⟨HL.out, ⟨_, _, _, _, _, _, rfl⟩, Below.cells (Below.thr HB1.out hb2) (by omega) _ _⟩
    clear hb2 hy2 x0 x1
    have HEq : Hid (inf7 (i : Int) (s.hd i).gen (s.hd i).typ b z p q = [.int .u16 (i : Int), .int .u32 (s.hd i).gen, .int .u8 (s.hd i).typ, .int .u64 b, .int .u64 z, .int .u16 p, .int .u32 q]) := rfl
    rw [HEq.out]
    go_wp2_with fail
    exact bodyPost_ret (results_two (by exact Tryz.results25) _ _ (w.heap.size + 1) _ _ (by rfl) (by rfl) (load41 HLd.out)) rfl HF.out
  · obtain ⟨b, rfl, hbc⟩ := hv0
    obtain ⟨y0, y1, y2, y3, y4, y5, y6, g0, g1, g2, g3, g4, g5, g6⟩ := cells7 HY1.out
    have hn8 : ∀ c, w1.cell? ⟨w.heap.size + 1, 0, none⟩ ≠ some (.int .u8 c) := fun c q => by rw [y0] at q; cases q
    have HE := hideIt (IsErr.cells (R := w.heap.size + 1) ⟨b, rfl, hbc⟩ hn8 (inf7 0 0 0 0 0 0 0) 0)
    have HF : Hid (LsPost s i g w (.returned (.tuple #[.agg (inf7 0 0 0 0 0 0 0).toArray, .iface 212 (.pointer (some ⟨b, 0, none⟩))])) (w1.setCells (w.heap.size + 1) 0 (inf7 0 0 0 0 0 0 0))) := Or.inl ⟨hl, _, _, rfl, ⟨HE.out, stale_ne i g, Below.cells HB1.out (by omega) _ _⟩, fun _ => rfl⟩
    have HLd := hideIt (World.rangeAt_setCells_same w1 (w.heap.size + 1) 0 (inf7 0 0 0 0 0 0 0) (there_of HY1.out 7 (by simp)))
    clear hbc hl hn8
    go_wp2_with fail
    exact bodyPost_ret (results_two (by exact Tryz.results25) _ _ (w.heap.size + 1) _ _ (by rfl) (by rfl) (load41 HLd.out)) rfl HF.out
end
end Go.Proofs.Qxb6500847aGreatDoor.Os
