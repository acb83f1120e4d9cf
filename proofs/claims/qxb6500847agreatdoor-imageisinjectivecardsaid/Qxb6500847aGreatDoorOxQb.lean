/-
  Generation, exactly.
-/
import Derived.Test.Qxb6500847aGreatDoorOxQa
import Derived.Test.Qxb6500847aGreatDoorOsQb
namespace Go.Proofs.Qxb6500847aGreatDoor.Os
open Go.RowKit FloorA
set_option maxRecDepth 100000
section
variable {A : Nat} {s : Av} {w : World} {i : Nat}
def GnXP (X : Rs) (w : World) (e : Ending) (w' : World) : Prop :=
  (∃ v c, X = bad c ∧ e = .returned (.tuple #[.int .u32 0, .bool false, v]) ∧ Refu w v w' c) ∨ ((∃ (g : Int) (b : Bool), X = ⟨0, [], [g, if b = true then 1 else 0]⟩ ∧ e = .returned (.tuple #[.int .u32 g, .bool b, .nilIface])) ∧ Below w.heap.size w w')
set_option maxHeartbeats 1600000 in
theorem Generation_x (hA : Am w A s) (ws : Nat → Nat → Nat → Int) (i : Nat) :
    Calls Tryz.prog 59 #[.pointer (some ⟨A, 0, none⟩), .int .u16 (i : Int)] w (GnXP (genX (ob s ws) i) w) := by
  by_cases hi : i < 320
  · have c1 : ¬ (i : Int) ≥ 320 := by omega
    have e0 := hA.gen hi
    have HG : Hid (genX (ob s ws) i = ⟨0, [], [(s.hd i).gen, if ((s.hd i).typ != 0) = true then 1 else 0]⟩) := by
      show genX (ob s ws) i = _
      rw [genX_ok hi]
      by_cases q : (s.hd i).typ ≠ 0
      · rw [if_pos q, if_pos (by rw [bne_iff_ne]; exact q)]
      · rw [if_neg q, if_neg (fun k => q (by rw [bne_iff_ne] at k; exact k))]
    have e1 := hA.typ hi
    go_enter Tryz.func59, Tryz.ntmps59
    go_wp2_with fail
    go_region
    go_wp2_with fail
    exact bodyPost_ret (v := .tuple #[.int .u32 (s.hd i).gen, .bool ((s.hd i).typ != 0), .nilIface]) (by simp [results, Tryz.results59]) rfl (Or.inr ⟨⟨(s.hd i).gen, (s.hd i).typ != 0, HG.out, rfl⟩, below_d _⟩)
  · have c1 : (i : Int) ≥ 320 := by omega
    have HG : Hid (genX (ob s ws) i = bad 1) := if_neg hi
    go_enter Tryz.func59, Tryz.ntmps59
    go_wp2_with (go_at_call 123; refine (refuse_walk _ _ _ _ _ _).mono ?_; rintro e w2 ⟨v, rfl, hv, hb⟩)
    exact bodyPost_ret (by simp [results, Tryz.results59]) rfl (Or.inl ⟨v, _, HG.out, rfl, hv, by omega, hb⟩)
end
end Go.Proofs.Qxb6500847aGreatDoor.Os
