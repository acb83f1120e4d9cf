/-
  The walk of the counting closure that gate.Least is handed.
-/
import Derived.Test.Qxb6500855aClosF
import Derived.Deep.RegionWith
import Derived.OneCell
namespace Go.Proofs.Qxb6500855a
open Go.RowKit Plain

/-- f as a function value. -/
def fVal (bf bl : Nat) : Value := .func (.func 6) #[] #[.pointer (some ⟨bf, 0, none⟩), .pointer (some ⟨bl, 0, none⟩)]

set_option maxHeartbeats 400000 in
theorem clos_g (x cnt : Int) (bc bF bf bl : Nat) (c : Int) (L : List (Int × Int)) (w : World)
    (hx : 0 ≤ x) (hx2 : x ≤ 100000) (hcnt : 0 ≤ cnt) (hcnt2 : cnt ≤ 100000)
    (hH : Held bc w bf bl c L) (hF : w.cell? ⟨bF, 0, none⟩ = some (fVal bf bl)) (hFb : bF < bc)
    (hC : w.cell? ⟨bc, 0, none⟩ = some (.int .i64 cnt)) (hCf : w.frozen? ⟨bc, 0, none⟩ = false) :
    Calls Try.prog 10 #[.int .i64 x, .pointer (some ⟨bc, 0, none⟩), .pointer (some ⟨bF, 0, none⟩)] w
      fun e w' => e = .returned (.tuple #[.int .i64 (F L c x), .bool (F L c x != top)]) ∧ Below w.heap.size (w.setCell ⟨bc, 0, none⟩ (.int .i64 (cnt + 1))) w' := by
  have hlt : bc < w.heap.size := cell_lt hC
  have hne : bF ≠ bc := by omega
  have hsc := (Below.refl bc w).setCell (p := ⟨bc, 0, none⟩) (Nat.le_refl _) (.int .i64 (cnt + 1))
  have hH1 : Held w.heap.size (w.setCell ⟨bc, 0, none⟩ (.int .i64 (cnt + 1))) bf bl c L := (hH.below hsc).mono (Nat.le_of_lt hlt)
  have hF1 : (w.setCell ⟨bc, 0, none⟩ (.int .i64 (cnt + 1))).cell? ⟨bF, 0, none⟩ = some (fVal bf bl) := by
    rw [hsc.cell hFb]; exact hF
  have hs1 : (w.setCell ⟨bc, 0, none⟩ (.int .i64 (cnt + 1))).heap.size = w.heap.size := by simp
  have hFl : bF < w.heap.size := by omega
  unfold fVal at hF hF1
  have HH : Hid (Held w.heap.size (w.setCell ⟨bc, 0, none⟩ (.int .i64 (cnt + 1))) bf bl c L) := hH1
  clear hH hH1 hsc
  go_enter Try.func10, Try.ntmps10
  go_wp2_with fail
  generalize hWe : w.setCell ⟨bc, 0, none⟩ (.int .i64 (cnt + 1)) = W at *
  generalize hBe : w.heap.size = B at *
  have HWe : Hid (w.setCell ⟨bc, 0, none⟩ (.int .i64 (cnt + 1)) = W) := hWe
  have HBe : Hid (w.heap.size = B) := hBe
  clear hWe hBe
  have HS : Hid (W.heap.size = B) := hs1
  clear hF hC hCf hs1
  go_region_with ((go_at_call 6; refine (clos_held (W := W) (B := B) hx hx2 HH.out (by first | assumption | exact Below.refl _ _ | exact (Below.refl _ _).drew | exact Below.drew (by assumption)) (by first | assumption | exact Nat.le_of_eq HS.out.symm)).mono ?_; rintro e w1 ⟨rfl, hb1, hB1⟩; have hF2 := (hb1.cell (p := ⟨bF, 0, none⟩) hFl).trans hF1))
  all_goals go_wp2
  all_goals go_ret2
  all_goals exact ⟨by rw [top_eq]; rfl, by rw [HWe.out, HBe.out]; assumption⟩
end Go.Proofs.Qxb6500855a
