/-
  The abstract model: Fits: all.
-/
import Derived.Test.Qxb6500847aGreatDoorMdFb
import Derived.Test.Qxb6500847aGreatDoorMdFc
import Derived.Test.Qxb6500847aGreatDoorMdFd
namespace Go.Proofs.Qxb6500847aGreatDoor.Os
open Go.RowKit FloorA
set_option maxRecDepth 100000
theorem fits_m (w : World) {t f v : Nat} (h2 : 2 ≤ t) (h7 : t ≤ 7) (hf : f < nF (t - 2)) (hv : v < 18446744073709551616) :
    Calls Tryz.prog 218 #[.int .u8 (t : Int), .int .i64 (f : Int), .int .u64 (v : Int)] w fun e w' => ∃ b, e = .returned (.bool b) ∧ (b = true ↔ fOk (t - 2) f (v : Int)) ∧ w' = w := by
  rcases (by omega : t = 2 ∨ t = 3 ∨ t = 4 ∨ t = 5 ∨ t = 6 ∨ t = 7) with rfl | rfl | rfl | rfl | rfl | rfl
  · exact fits_2 w hf hv
  · by_cases h : f < 9
    · exact fits_3a w h hv
    · exact fits_3b w (by omega) hf hv
  · exact fits_4 w hf hv
  · exact fits_5 w hf hv
  · exact fits_6 w hf hv
  · exact fits_7 w hf hv
end Go.Proofs.Qxb6500847aGreatDoor.Os
