/-
  answer for an *ImageError.
-/
import Derived.Test.Qxb6500847aGreatDoorOsZa
namespace Go.Proofs.Qxb6500847aGreatDoor.Os
open Go.RowKit FloorA Go.Extern.Stop Go.Stop Go.Extern
set_option maxRecDepth 100000
set_option maxHeartbeats 1600000 in
theorem answer_img (b : Nat) (str : ByteArray) (a1 a2 : Option Addr) (n1 c1 n2 c2 : Nat) (w : World) (hg : Ed w) (hv : w.cell? ⟨b, 1, none⟩ = some (.string str)) :
    Calls Tryz.prog 50 #[.iface 218 (.pointer (some ⟨b, 0, none⟩)), .slice a1 n1 c1, .slice a2 n2 c2] w (RsPost 17 (.slice none 0 0) (.slice none 0 0) w) := by
  have hgl : 2 < w.heap.size := cell_lt hg
  have HC := hideIt (codeOf_any b str _ (Ed.below hg (alloc_below (.cells #[.int .u8 0, .slice none 0 0, .slice none 0 0] 57)) hgl) (((alloc_below _).cell (p := ⟨b, 1, none⟩) (cell_lt hv)).trans hv))
  have hz : (w.alloc (.cells #[.int .u8 0, .slice none 0 0, .slice none 0 0] 57)).heap[w.heap.size]? = some (.cells #[.int .u8 0, .slice none 0 0, .slice none 0 0] 57 (0, 0)) := heap_new _ _
  have HZ := hideIt hz
  have HB := hideIt (alloc_below (w := w) (.cells #[.int .u8 0, .slice none 0 0, .slice none 0 0] 57))
  clear hg hz hv
  go_enter Tryz.func50, Tryz.ntmps50
  go_wp2_with fail
  generalize w.alloc (.cells #[.int .u8 0, .slice none 0 0, .slice none 0 0] 57) = w0 at *
  go_at_call 26
  refine HC.out.mono ?_
  rintro e w1 ⟨rfl, hb1⟩
  have hz1 := (hb1.block w.heap.size (heap_lt HZ.out)).trans HZ.out
  have HZ1 := hideIt (three_set hz1 (.int .u8 17) (.slice none 0 0) (.slice none 0 0))
  obtain ⟨x0, x1, x2, f0, f1, f2⟩ := three_cells hz1
  have HB1 := hideIt (Below.thr HB.out hb1)
  clear hb1 hz1
  go_wp2
  refine bodyPost_ret (v := .agg #[.int .u8 17, .slice none 0 0, .slice none 0 0]) ?_ rfl ⟨rfl, ((HB1.out.setCell (p := ⟨w.heap.size, 0, none⟩) (Nat.le_refl _) _).setCell (p := ⟨w.heap.size, 1, none⟩) (Nat.le_refl _) _).setCell (p := ⟨w.heap.size, 2, none⟩) (Nat.le_refl _) _⟩
  exact results_cell_row (by exact Tryz.results50) _ _ w.heap.size _ _ _ _ (by rfl) (by exact HZ1.out) Tryz.underlying57 rfl (by kernel_rfl)
end Go.Proofs.Qxb6500847aGreatDoor.Os
