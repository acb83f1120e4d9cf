/-
  'Rows.FullListingNeedsTrueFloorCardSaid' proved: the row, then the tied card.
-/
import Derived.Test.Qxb6500847aGreatDoorCards
import Derived.Test.Qxb6500847aGreatDoorTie
import Derived.Test.Qxb6500847aGreatDoorFloorJ
import Derived.Test.Qxb6500847aGreatDoorFloorCellsC
import Derived.ProofKit
import Derived.ChangeSame
import Derived.ChangeVars
import Derived.JoinedOf
import Derived.RowKit
import Derived.RowKitTokens
import Derived.LaidLaws
import Derived.LaidHandle
import Derived.Stop.Joined
import Derived.SevenTiedAt
namespace Go.Proofs.Qxb6500847aGreatDoor.FloorA
open Go.ChangeShapes Go.WideShapes Go.RowKit

theorem own : ownKnob Tryz.prog.godebug = none := by kernel_rfl
theorem et : Tryz.prog.globalNamed "errors.errorType" = some 2 := by kernel_rfl
theorem rt : (Tryz.prog.cutTypes.find? (·.1 == "internal/reflectlite.rtype")).map (·.2) = some 389 := by kernel_rfl
theorem oneRow : ((List.range 491).filter fun t => Tryz.prog.rowNamed t [101, 114, 114, 111, 114]) = [45] := by kernel_rfl
theorem typesSize : Tryz.prog.types.size = 491 := by kernel_rfl

/-- What the listed handle gives a walk: the variable's one cell. -/
theorem handle_of_laid {W : World} (h : laidMetH Tryz.prog Rows.fullListingNeedsTrueFloorRow.laid W) : W.cell? ⟨2, 0, none⟩ = some (.iface 389 (.agg #[.pointer (some ⟨6, 45, none⟩)])) := by
  have h' : laidMet Tryz.prog [("e2e/objstore.kinds", Rows.laid_e2e_objstore_kinds)] W ∧ handlesMet Tryz.prog [("errors.errorType", Rows.laid_errors_errorType)] W := h
  obtain ⟨name, u, ty, e1, e2, e3, e4, e5⟩ := h'.2 _ (List.mem_singleton.2 rfl)
  have en : name = [101, 114, 114, 111, 114] := (Option.some.inj e1).symm
  subst en
  obtain rfl := Option.some.inj (rt.symm.trans e2)
  have hm : ty ∈ (List.range 491).filter fun t => Tryz.prog.rowNamed t [101, 114, 114, 111, 114] := List.mem_filter.2 ⟨List.mem_range.2 (by rw [← typesSize]; exact e3), e4⟩
  rw [oneRow] at hm
  obtain rfl := List.mem_singleton.1 hm
  have hh : typeHandle Tryz.prog 45 = .pointer (some ⟨6, 45, none⟩) := by kernel_rfl
  rw [hh] at e5
  simpa using World.var?_cell et e5 0

def kindsCells : Array Value := #[.string ⟨#[110, 111, 110, 101]⟩, .int .u8 0, .int .i64 0, .int .i64 0, .string ⟨#[117, 110, 116, 121, 112, 101, 100]⟩, .int .u8 0, .int .i64 64, .int .i64 0, .string ⟨#[99, 110, 111, 100, 101]⟩, .int .u8 9, .int .i64 64, .int .i64 112, .string ⟨#[116, 104, 114, 101, 97, 100]⟩, .int .u8 10, .int .i64 64, .int .i64 18, .string ⟨#[101, 110, 100, 112, 111, 105, 110, 116]⟩, .int .u8 4, .int .i64 128, .int .i64 3, .string ⟨#[110, 111, 116, 105, 102, 105, 99, 97, 116, 105, 111, 110]⟩, .int .u8 5, .int .i64 64, .int .i64 4, .string ⟨#[114, 101, 112, 108, 121]⟩, .int .u8 4, .int .i64 64, .int .i64 2, .string ⟨#[105, 114, 113, 104, 97, 110, 100, 108, 101, 114]⟩, .int .u8 4, .int .i64 32, .int .i64 4]

/-- A world with the two variables laid. -/
def withLaid (w0 : World) : World :=
  { w0 with heap := (w0.heap.modify 1 fun
      | .cells _ t frozen => .cells kindsCells t frozen
      | o => o).modify 2 fun
      | .cells _ t frozen => .cells #[.iface 389 (.agg #[.pointer (some ⟨6, 45, none⟩)])] t frozen
      | o => o }
theorem withLaid_met (os : Os) : laidMetH Tryz.prog Rows.fullListingNeedsTrueFloorRow.laid ((withLaid (World.holding Tryz.prog os ⟨#[], #[], []⟩)).forCall (fun _ _ => 0) ⟨#[], #[], []⟩).memory :=
  laidMetH_of_parts (laidMet_of_run' 8 (by kernel_rfl) (by kernel_rfl)) (by kernel_rfl)

set_option maxRecDepth 100000 in
theorem lifted (os : Os) (started : os.Started) (H : Type) (enc : TypeId × Value → H) :
    ReturnsInHanded {} Tryz.checked os 9 .any (fun w args => (Rows.fullListingNeedsTrueFloorSpec.pre enc Tryz.prog Tryz.f9 [] false w args ∧ laidMetH Tryz.prog Rows.fullListingNeedsTrueFloorRow.laid w) ∧ sizedMet enc Tryz.prog Tryz.f9 (OpenSpec.ofChange Rows.fullListingNeedsTrueFloorSpec) false w args)
      (Rows.fullListingNeedsTrueFloorSpec.post enc Tryz.prog Tryz.f9 false true false false) := by
  refine returnsInHanded_of_change_and (C := Tryz.checked) (X := fun w _ => laidMetH Tryz.prog Rows.fullListingNeedsTrueFloorRow.laid w) (fun _ _ _ hh h => h.of_heap hh) own started (by kernel_rfl) Tryz.func9
    (ChangeSpec.witness_at (enc := enc) (C := Tryz.checked) (os := os) (X := fun w _ => laidMetH Tryz.prog Rows.fullListingNeedsTrueFloorRow.laid w) false (withLaid (World.holding Tryz.prog os ⟨#[], #[], []⟩)) #[] 8 rfl (by kernel_rfl) (by kernel_rfl) (by kernel_rfl) (by kernel_rfl) (by kernel_rfl) (withLaid_met os)) ?_
  intro W base args ds gs before hval0 hW _ _ hL _
  have hval : ∀ (j : Nat) t v, Tryz.f9.params[j]? = some t → args[j]? = some v → Value.okWide Tryz.prog W .any base t v := hval0
  have hW' := hW
  obtain ⟨p, q, hA0, hV0, rfl, hfz, hnd⟩ := hW
  have hA : DataW.TrodAll enc Tryz.prog W 0 (fun _ => true) true Tryz.f9.params.toList args.toList ds p := hA0
  have hV : DataW.TrodVars enc Tryz.prog W (fun _ => true) [] gs q := hV0
  rw [Tryz.params9] at hA hval
  obtain ⟨rfl, rfl, rfl⟩ := trodAll_none hA
  obtain ⟨rfl, rfl⟩ := trodVars_none hV
  have hg := handle_of_laid hL
  refine (full_walk W hg).mono fun e W' ⟨he, bel⟩ => ?_
  subst he
  exact ⟨_, rfl, _, _, _, [], [], [], hW', trodAll_mk1 (shut_bool Tryz.underlying4 _), rfl, rfl, bel.frame _, fun h => by cases h⟩

theorem row_holds : Rows.FullListingNeedsTrueFloorSaid :=
  OpenClaim.holds_of_wide 9 Tryz.f9 rfl rfl rfl rfl rfl rfl rfl ⟨rfl, rfl, rfl, rfl, rfl⟩ rfl rfl rfl rfl rfl named9 Tryz.func9 joined instanced wrapped
    (fun os started H enc _ => lifted os started H enc)
end Go.Proofs.Qxb6500847aGreatDoor.FloorA

namespace Go.Proofs.Qxb6500847aGreatDoor
theorem fullListingNeedsTrueFloor_card : Rows.FullListingNeedsTrueFloorCardSaid :=
  Claim7.holds_tied_plain_at .later [] [.handle, .data] true Rows.fullListingNeedsTrueFloorCard.stood.harness true
    FloorA.row_holds (fun _ h => by cases h) FloorA.byText (fun _ h => by cases h) fullListingNeedsTrueFloor_row_tie rfl ⟨rfl, rfl⟩ FloorA.mains rfl
    (fun f fn hf hfn => by
      obtain rfl : f = 9 := (Option.some.inj (FloorA.named9.symm.trans hf)).symm
      obtain rfl : fn = Tryz.f9 := (Option.some.inj (Tryz.func9.symm.trans hfn)).symm
      exact ⟨FloorA.looked, fun j t ht => by
        rw [Tryz.params9] at ht
        simp at ht⟩)
    FloorA.went
end Go.Proofs.Qxb6500847aGreatDoor
