/-
  The walk of build, kind by kind.
-/
import Derived.Test.Qxb6500848aGreatDoorBuildK0
import Derived.Test.Qxb6500848aGreatDoorBuildK1
import Derived.Test.Qxb6500848aGreatDoorBuildT3
import Derived.Test.Qxb6500848aGreatDoorBuildT4
import Derived.Test.Qxb6500848aGreatDoorBuildT5
import Derived.Test.Qxb6500848aGreatDoorBuildT6
import Derived.Test.Qxb6500848aGreatDoorBuildT7
import Derived.Test.Qxb6500848aGreatDoorBuildT8
import Derived.Test.Qxb6500848aGreatDoorBuildT13
import Derived.Test.Qxb6500848aGreatDoorBuildT14
namespace Go.Proofs.Qxb6500848aGreatDoor
open Go.RowKit Pl Go.Maps
set_option maxRecDepth 100000

set_option maxHeartbeats 400000 in
theorem buildE {X : Nat → Prop} {w : World} {kb eb mb ab nb : Nat} {A : List Nd} {regs : List Int} (hM : Mc X w kb eb mb ab nb 65536 A regs) (hl : regs.length ≤ 8) {B0 : Nat} (hX : ∀ z, X z → B0 ≤ z) (hB : B0 ≤ w.heap.size) (kd oa ob oc o6 : Int) (wa pa : Option Addr) (wn wc pn pc : Nat) (hne : regs = []) (h4 : 4 < kd) :
    Calls Tryz.prog 65 #[.pointer (some ⟨kb, 0, none⟩), .agg #[.int .i64 kd, .int .i64 oa, .int .i64 ob, .int .i64 oc, .slice wa wn wc, .slice pa pn pc, .int .i64 o6]] w (BdPost X A B0 kb eb mb ab w) := by
  obtain ⟨rv, k0, k1, k2, hR⟩ := hM.cells
  have HM := hideIt hM
  have lk := hM.lk
  have hrl : ∃ ra rc, rv = .slice ra regs.length rc := by
    rcases hR with ⟨e, e2⟩ | ⟨rb, off, cap, _, e, _⟩
    · exact ⟨none, 0, by rw [e, e2]; rfl⟩
    · exact ⟨_, cap, e⟩
  obtain ⟨ra, rc, rfl⟩ := hrl
  clear hM hR
  subst hne
  go_enter Tryz.func65, Tryz.ntmps65
  go_wp2_with fail
  have HT0 := hideIt (BT.start HM.out hX hB (.cells #[.int .i64 kd, .int .i64 oa, .int .i64 ob, .int .i64 oc, .slice wa wn wc, .slice pa pn pc, .int .i64 o6] 31))

  have HP : Hid (BdPost X A B0 kb eb mb ab w (.returned (.agg #[.bool false, .bool false, .bool false, .bool false, .int .i64 0])) ((w.alloc (.cells #[.int .i64 kd, .int .i64 oa, .int .i64 ob, .int .i64 oc, .slice wa wn wc, .slice pa pn pc, .int .i64 o6] 31)).alloc (.cells #[.bool false, .bool false, .bool false, .bool false, .int .i64 0] 95))) := ⟨_, nb, A, [], false, false, false, false, 0, rfl, HT0.out.mc, hl, HT0.out.lo, HT0.out.bel, HT0.out.le, HT0.out.ext, HT0.out.sub⟩
  refine bodyPost_ret (v := .agg #[.bool false, .bool false, .bool false, .bool false, .int .i64 0]) ?_ rfl (by exact HP.out)
  exact results_cell_row (by exact Tryz.results65) _ _ (w.heap.size + 1) _ _ _ _ (by rfl) (by exact new_at _ _ (Deep.nblk_alloc _ _)) Tryz.underlying95 rfl (by kernel_rfl)

theorem build_walk {X : Nat → Prop} {w : World} {kb eb mb ab nb : Nat} {A : List Nd} {regs : List Int} (hM : Mc X w kb eb mb ab nb 65536 A regs) (hl : regs.length ≤ 8) {B0 : Nat} (hX : ∀ z, X z → B0 ≤ z) (hB : B0 ≤ w.heap.size) (kd oa ob oc o6 : Int) (wa pa : Option Addr) (wn wc pn pc : Nat) (h0 : 0 ≤ kd) (h14 : kd ≤ 14) :
    Calls Tryz.prog 65 #[.pointer (some ⟨kb, 0, none⟩), .agg #[.int .i64 kd, .int .i64 oa, .int .i64 ob, .int .i64 oc, .slice wa wn wc, .slice pa pn pc, .int .i64 o6]] w (BdPost X A B0 kb eb mb ab w) := by
  by_cases h4 : 4 < kd
  · by_cases hne : regs = []
    · exact buildE hM hl hX hB kd oa ob oc o6 wa pa wn wc pn pc hne h4
    · have h : kd = 5 ∨ kd = 6 ∨ kd = 7 ∨ kd = 8 ∨ kd = 9 ∨ kd = 10 ∨ kd = 11 ∨ kd = 12 ∨ kd = 13 ∨ kd = 14 := by omega
      rcases h with rfl | rfl | rfl | rfl | rfl | rfl | rfl | rfl | rfl | rfl
      · exact build5 hM hl hne hX hB oa ob oc o6 wa pa wn wc pn pc
      · exact build6 hM hl hne hX hB oa ob oc o6 wa pa wn wc pn pc
      · exact build7 hM hl hne hX hB oa ob oc o6 wa pa wn wc pn pc
      · exact build8 hM hl hne hX hB oa ob oc o6 wa pa wn wc pn pc
      · exact build9 hM hl hne hX hB oa ob oc o6 wa pa wn wc pn pc
      · exact build10 hM hl hne hX hB oa ob oc o6 wa pa wn wc pn pc
      · exact build11 hM hl hne hX hB oa ob oc o6 wa pa wn wc pn pc
      · exact build12 hM hl hne hX hB oa ob oc o6 wa pa wn wc pn pc
      · exact build13 hM hl hne hX hB oa ob oc o6 wa pa wn wc pn pc
      · exact build14 hM hl hne hX hB oa ob oc o6 wa pa wn wc pn pc
  · have h : kd = 0 ∨ kd = 1 ∨ kd = 2 ∨ kd = 3 ∨ kd = 4 := by omega
    rcases h with rfl | rfl | rfl | rfl | rfl
    · exact build0 hM hl hX hB oa ob oc o6 wa pa wn wc pn pc
    · exact build1 hM hl hX hB oa ob oc o6 wa pa wn wc pn pc
    · exact build2 hM hl hX hB oa ob oc o6 wa pa wn wc pn pc
    · exact build3 hM hl hX hB oa ob oc o6 wa pa wn wc pn pc
    · exact build4 hM hl hX hB oa ob oc o6 wa pa wn wc pn pc
end Go.Proofs.Qxb6500848aGreatDoor
