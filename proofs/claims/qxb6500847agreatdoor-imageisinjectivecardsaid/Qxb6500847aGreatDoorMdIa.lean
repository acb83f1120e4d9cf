/-
  The abstract model: drop, at any generation.
-/
import Derived.Test.Qxb6500847aGreatDoorMdI
namespace Go.Proofs.Qxb6500847aGreatDoor.Os
open Go.RowKit FloorA
set_option maxRecDepth 100000
section
variable {w w' : World} {B : Nat} {wb : Nat → Nat} {M : Nat → En} {i : Nat}
set_option maxHeartbeats 2000000 in
theorem drop_g (h : Md w B wb M) (hgn : ∃ g : Nat, (M i).gen = (g : Int)) (hi : i < 320) (hg : (M i).gen < 4294967295) :
    Calls Tryz.prog 213 #[.pointer (some ⟨B, 0, none⟩), .int .i64 (i : Int)] w fun e w' => e = .returned (.tuple #[]) ∧ Md w' B wb (updM M i (enF ((M i).gen + 1))) ∧ Ext w.heap.size (fun b => b = B) w w' := by
  have i3 : (i : Int) < 320 := by omega
  obtain ⟨g, eg⟩ := hgn
  have z0 := h.gen hi
  have z1 := h.typ hi
  have z2 := h.bas hi
  have z3 := h.siz hi
  have z4 := h.par hi
  obtain ⟨v5, z5, _⟩ := h.wrd i hi
  have f0 := h.fz (i * 6)
  have f1 := h.fz (i * 6 + 1)
  have f2 := h.fz (i * 6 + 2)
  have f3 := h.fz (i * 6 + 3)
  have f4 := h.fz (i * 6 + 4)
  have f5 := h.fz (i * 6 + 5)
  have hw : IntKind.u32.wrap ((M i).gen + 1) = (M i).gen + 1 := by unfold IntKind.wrap; simp [IntKind.bits, IntKind.signed]; omega
  have HP := hideIt (h.put (wb' := wb) hi (enF ((M i).gen + 1)) (.slice none 0 0) (fun _ _ => rfl) (Or.inl ⟨rfl, _, _, rfl⟩) (fun q => absurd rfl q) (fun q => absurd rfl q))
  have HE := hideIt (Ext.cells (Ext.refl w.heap.size (fun b => b = B) w) rfl (ent6 (enF ((M i).gen + 1)) (.slice none 0 0)) (i * 6))
  clear h eg
  generalize (M i).gen = gn at *
  go_enter Tryz.func213, Tryz.ntmps213
  go_wp2_with fail
  go_region
  all_goals
    have HP2 : Hid (Md ((w.setCells B (i * 6) (ent6 (enF (gn + 1)) (.slice none 0 0))).drew) B wb (updM M i (enF (gn + 1)))) := HP.out.below (below_d _)
    have HE2 : Hid (Ext w.heap.size (fun b => b = B) w ((w.setCells B (i * 6) (ent6 (enF (gn + 1)) (.slice none 0 0))).drew)) := HE.out.andThen (below_d _) HE.out.size
    have hws : ((((((w.setCell ⟨B, i * 6, none⟩ (.int .u32 (gn + 1))).setCell ⟨B, i * 6 + 1, none⟩ (.int .u8 0)).setCell ⟨B, i * 6 + 2, none⟩ (.int .u64 0)).setCell ⟨B, i * 6 + 3, none⟩ (.int .u64 0)).setCell ⟨B, i * 6 + 4, none⟩ (.int .i64 (-1))).setCell ⟨B, i * 6 + 5, none⟩ (.slice none 0 0)).drew = (w.setCells B (i * 6) (ent6 (enF (gn + 1)) (.slice none 0 0))).drew := rfl
    rw [hws]
    clear hws
    generalize (w.setCells B (i * 6) (ent6 (enF (gn + 1)) (.slice none 0 0))).drew = w2 at *
    go_wp2_with fail
    go_end0
    exact ⟨rfl, HP2.out, HE2.out⟩
end
end Go.Proofs.Qxb6500847aGreatDoor.Os
