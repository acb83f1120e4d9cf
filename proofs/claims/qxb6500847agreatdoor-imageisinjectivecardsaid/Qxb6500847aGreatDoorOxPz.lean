/-
  play, exactly: small things.
-/
import Derived.Test.Qxb6500847aGreatDoorOxP
import Derived.Test.Qxb6500847aGreatDoorOsGe
namespace Go.Proofs.Qxb6500847aGreatDoor.Os
open Go.RowKit FloorA
set_option maxRecDepth 100000
theorem flag_x (b : Bool) (w : World) : Calls Tryz.prog 69 #[.bool b] w fun e w' => e = .returned (.int .u64 (if b = true then 1 else 0)) ∧ w' = w := by
  cases b
  · go_enter Tryz.func69, Tryz.ntmps69
    go_wp2
    go_ret
    exact ⟨rfl, rfl⟩
  · go_enter Tryz.func69, Tryz.ntmps69
    go_wp2
    go_ret
    exact ⟨rfl, rfl⟩
theorem imgB_range (s : Av) (ws : Nat → Nat → Nat → Int) : ∀ x ∈ imgB s ws, 0 ≤ x ∧ x ≤ 255 := fun x hx => by
  unfold imgB at hx
  rcases List.mem_append.1 hx with h | h
  · exact eN_range _ x h
  · exact dbytes_range _ _ x h
theorem imgB_ne (s : Av) (ws : Nat → Nat → Nat → Int) : imgB s ws ≠ [] := fun e => by
  unfold imgB at e
  exact eN_ne s ws (List.append_eq_nil_iff.1 e).1
end Go.Proofs.Qxb6500847aGreatDoor.Os
