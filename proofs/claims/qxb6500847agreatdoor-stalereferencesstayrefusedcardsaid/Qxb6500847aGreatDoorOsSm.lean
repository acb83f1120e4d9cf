/-
  A map of references.
-/
import Derived.Test.Qxb6500847aGreatDoorOsLa
import Derived.DeepKeys4
namespace Go.Proofs.Qxb6500847aGreatDoor.Os
open Go.RowKit Go.WideElems Go.Maps FloorA
set_option maxRecDepth 100000
theorem laidOutP : laidOutB Tryz.prog = true := by kernel_rfl
theorem row32 : (32 : TypeId) < Tryz.prog.types.size := of_decide_eq_true (by kernel_rfl)
theorem wide32 : (match Tryz.prog.underlying 32 with | some (.array _ _) | some (.struct _) => true | _ => false) = true := by rw [Tryz.underlying32]
theorem law32 : Keyed Tryz.prog 32 := Keyed.of_law (deep_law_laid laidOutP (m := 3) (by omega) row32 (by kernel_rfl) wide32)
theorem kt32 : Tryz.prog.keyType 32 = true := by kernel_rfl
theorem fm32 (i g : Int) : (Value.agg #[.int .u16 i, .int .u32 g]).formed Tryz.prog 32 = true := by kernel_rfl
theorem kl32 (i g : Nat) (hi : i < 65536) (hg : g < 4294967296) : ∃ ls, Tryz.prog.keyLits (Tryz.prog.types.size + 1) 32 (Value.agg #[.int .u16 (i : Int), .int .u32 (g : Int)]).cells.toList = some ls := by
  rw [typesSize]
  have h29 : Tryz.prog.keyLits (490 + 1) 29 [.int .u16 (i : Int)] = some [.int .u16 (i : Int)] := by
    unfold Program.keyLits
    rw [Tryz.underlying29]
    exact if_pos ⟨rfl, WalkArith.wf_u16 ⟨by omega, by omega⟩⟩
  have h30 : Tryz.prog.keyLits (490 + 1) 30 [.int .u32 (g : Int)] = some [.int .u32 (g : Int)] := by
    unfold Program.keyLits
    rw [Tryz.underlying30]
    exact if_pos ⟨rfl, WalkArith.wf_u32 ⟨by omega, by omega⟩⟩
  refine ⟨[.int .u16 (i : Int), .int .u32 (g : Int)], ?_⟩
  unfold Program.keyLits
  rw [Tryz.underlying32]
  simp [Value.cells, cells32, cells29, cells30, h29, h30]
/-- What a reference reads as, as a key. -/
theorem key32 (i g : Nat) (hi : i < 65536) (hg : g < 4294967296) : ∃ l, keyOf Tryz.prog 32 (.agg #[.int .u16 (i : Int), .int .u32 (g : Int)]) = some l := by
  obtain ⟨ls, h⟩ := kl32 i g hi hg
  refine ⟨.string (keyBytes ls), ?_⟩
  unfold keyOf
  rw [Tryz.underlying32]
  simp only [kt32, fm32, h, Bool.and_self, if_true, Option.map_some]
end Go.Proofs.Qxb6500847aGreatDoor.Os
