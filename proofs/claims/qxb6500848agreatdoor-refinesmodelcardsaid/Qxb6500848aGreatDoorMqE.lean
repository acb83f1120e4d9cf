/-
  The model's Step at a question.
-/
import Derived.Test.Qxb6500848aGreatDoorMqA
namespace Go.Proofs.Qxb6500848aGreatDoor
open Go.RowKit Pl Go.Maps
set_option maxRecDepth 100000

set_option maxHeartbeats 400000 in
theorem stepE {Y : Nat → Prop} {w : World} {hb ab nb : Nat} {B : List Nd} {regs : List Int} (hM : Mo Y w hb ab nb B regs) (hne : regs = []) (kd : Int) (hkd : 4 < kd) (oa ob oc o6 : Int) (wa pa : Option Addr) (wn wc pn pc : Nat) :
    Calls Tryz.prog 62 #[.pointer (some ⟨hb, 0, none⟩), .agg #[.int .i64 kd, .int .i64 oa, .int .i64 ob, .int .i64 oc, .slice wa wn wc, .slice pa pn pc, .int .i64 o6]] w (StPost (fun B' regs' v => B' = B ∧ regs' = regs ∧ v = zeroV) Y w hb ab nb B) := by
  have lk := hM.lh
  obtain ⟨rv, m0, m1, hR⟩ := hM.cells
  have hrl : ∃ ra rc, rv = .slice ra regs.length rc := by
    rcases hR with ⟨e, e2⟩ | ⟨rb, off, cap, _, e, _⟩
    · exact ⟨none, 0, by rw [e, e2]; rfl⟩
    · exact ⟨_, cap, e⟩
  have HT0 := hideIt (SP.start hM (.cells #[.int .i64 kd, .int .i64 oa, .int .i64 ob, .int .i64 oc, .slice wa wn wc, .slice pa pn pc, .int .i64 o6] 31))
  obtain ⟨ra, rc, rfl⟩ := hrl
  clear hM hR
  subst hne
  go_enter Tryz.func62, Tryz.ntmps62
  go_wp2_with fail
  have h := HT0.out
  have HP : Hid (StPost (fun B' regs' v => B' = B ∧ regs' = [] ∧ v = zeroV) Y w hb ab nb B (.returned (.agg #[.bool false, .bool false, .bool false, .bool false, .int .i64 0])) ((w.alloc (.cells #[.int .i64 kd, .int .i64 oa, .int .i64 ob, .int .i64 oc, .slice wa wn wc, .slice pa pn pc, .int .i64 o6] 31)).alloc (.cells #[.bool false, .bool false, .bool false, .bool false, .int .i64 0] 95))) := ⟨_, nb, B, [], zeroV, rfl, ⟨rfl, rfl, rfl⟩, h.mo, (by simp), h.ext, h.sub, h.le, h.tn, h.tr⟩
  clear h
  refine bodyPost_ret (v := .agg #[.bool false, .bool false, .bool false, .bool false, .int .i64 0]) ?_ rfl (by exact HP.out)
  exact results_cell_row (by exact Tryz.results62) _ _ (w.heap.size + 1) _ _ _ _ (by rfl) (by exact new_at _ _ (Deep.nblk_alloc _ _)) Tryz.underlying95 rfl (by kernel_rfl)

set_option maxHeartbeats 400000 in
theorem stepF {Y : Nat → Prop} {w : World} {hb ab nb : Nat} {B : List Nd} {regs : List Int} (hM : Mo Y w hb ab nb B regs) (hne : regs = []) (kd : Int) (hkd : kd < 0) (oa ob oc o6 : Int) (wa pa : Option Addr) (wn wc pn pc : Nat) :
    Calls Tryz.prog 62 #[.pointer (some ⟨hb, 0, none⟩), .agg #[.int .i64 kd, .int .i64 oa, .int .i64 ob, .int .i64 oc, .slice wa wn wc, .slice pa pn pc, .int .i64 o6]] w (StPost (fun B' regs' v => B' = B ∧ regs' = regs ∧ v = zeroV) Y w hb ab nb B) := by
  have lk := hM.lh
  obtain ⟨rv, m0, m1, hR⟩ := hM.cells
  have hrl : ∃ ra rc, rv = .slice ra regs.length rc := by
    rcases hR with ⟨e, e2⟩ | ⟨rb, off, cap, _, e, _⟩
    · exact ⟨none, 0, by rw [e, e2]; rfl⟩
    · exact ⟨_, cap, e⟩
  have HT0 := hideIt (SP.start hM (.cells #[.int .i64 kd, .int .i64 oa, .int .i64 ob, .int .i64 oc, .slice wa wn wc, .slice pa pn pc, .int .i64 o6] 31))
  obtain ⟨ra, rc, rfl⟩ := hrl
  clear hM hR
  subst hne
  go_enter Tryz.func62, Tryz.ntmps62
  go_wp2_with fail
  have h := HT0.out
  have HP : Hid (StPost (fun B' regs' v => B' = B ∧ regs' = [] ∧ v = zeroV) Y w hb ab nb B (.returned (.agg #[.bool false, .bool false, .bool false, .bool false, .int .i64 0])) ((w.alloc (.cells #[.int .i64 kd, .int .i64 oa, .int .i64 ob, .int .i64 oc, .slice wa wn wc, .slice pa pn pc, .int .i64 o6] 31)).alloc (.cells #[.bool false, .bool false, .bool false, .bool false, .int .i64 0] 95))) := ⟨_, nb, B, [], zeroV, rfl, ⟨rfl, rfl, rfl⟩, h.mo, (by simp), h.ext, h.sub, h.le, h.tn, h.tr⟩
  clear h
  refine bodyPost_ret (v := .agg #[.bool false, .bool false, .bool false, .bool false, .int .i64 0]) ?_ rfl (by exact HP.out)
  exact results_cell_row (by exact Tryz.results62) _ _ (w.heap.size + 1) _ _ _ _ (by rfl) (by exact new_at _ _ (Deep.nblk_alloc _ _)) Tryz.underlying95 rfl (by kernel_rfl)
end Go.Proofs.Qxb6500848aGreatDoor
