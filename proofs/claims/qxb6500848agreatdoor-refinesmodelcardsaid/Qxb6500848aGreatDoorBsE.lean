/-
  build, all kinds, and exactly which old blocks it turns.
-/
import Derived.Test.Qxb6500848aGreatDoorBsK0
import Derived.Test.Qxb6500848aGreatDoorBsK1
import Derived.Test.Qxb6500848aGreatDoorBsT3
import Derived.Test.Qxb6500848aGreatDoorBsT4
import Derived.Test.Qxb6500848aGreatDoorBsT5
import Derived.Test.Qxb6500848aGreatDoorBsT6
import Derived.Test.Qxb6500848aGreatDoorBsT7
import Derived.Test.Qxb6500848aGreatDoorBsT8
import Derived.Test.Qxb6500848aGreatDoorBsT13
import Derived.Test.Qxb6500848aGreatDoorBsT14
namespace Go.Proofs.Qxb6500848aGreatDoor
open Go.RowKit Pl Go.Maps
set_option maxRecDepth 100000

/-- What build answers. -/
def BuR (k oa ob oc : Int) (A : List Nd) (regs : List Int) (A' : List Nd) (regs' : List Int) (f0 f2 : Bool) : Prop :=
  if regs = [] ∧ 4 < k then A' = A ∧ regs' = regs ∧ f0 = false ∧ f2 = false else Bend (Bz k oa ob oc A regs) regs A' regs' f0 f2
theorem BuPost.mono {T : Nat → Prop} {R R' : List Nd → List Int → Bool → Bool → Prop} {X : Nat → Prop} {A : List Nd} {B0 kb eb mb ab : Nat} {w : World} {e : Ending} {w' : World} (h : BuPost T R X A B0 kb eb mb ab w e w') (hR : ∀ a b c d, R a b c d → R' a b c d) : BuPost T R' X A B0 kb eb mb ab w e w' := by
  obtain ⟨X', nb', A', regs', f0, f2, h1, h2, h3⟩ := h
  exact ⟨X', nb', A', regs', f0, f2, h1, hR _ _ _ _ h2, h3⟩

set_option maxHeartbeats 400000 in
theorem buildSE {X : Nat → Prop} {w : World} {kb eb mb ab nb : Nat} {A : List Nd} {regs : List Int} (hM : Mc X w kb eb mb ab nb 65536 A regs) (hl : regs.length ≤ 8) {B0 : Nat} (hX : ∀ z, X z → B0 ≤ z) (hB : B0 ≤ w.heap.size) (kd oa ob oc o6 : Int) (wa pa : Option Addr) (wn wc pn pc : Nat) (hne : regs = []) (h4 : 4 < kd) :
    Calls Tryz.prog 65 #[.pointer (some ⟨kb, 0, none⟩), .agg #[.int .i64 kd, .int .i64 oa, .int .i64 ob, .int .i64 oc, .slice wa wn wc, .slice pa pn pc, .int .i64 o6]] w (BuPost (Tb w kb mb ab nb) (fun A' regs' f0 f2 => A' = A ∧ regs' = regs ∧ f0 = false ∧ f2 = false) X A B0 kb eb mb ab w) := by
  obtain ⟨rv, k0, k1, k2, hR⟩ := hM.cells
  have HM := hideIt hM
  have lk := hM.lk
  have hrl : ∃ ra rc, rv = .slice ra regs.length rc := by
    rcases hR with ⟨e, e2⟩ | ⟨rb, off, cap, _, e, _⟩
    · exact ⟨none, 0, by rw [e, e2]; rfl⟩
    · exact ⟨_, cap, e⟩
  obtain ⟨ra, rc, rfl⟩ := hrl
  clear hM hR
  subst hne
  go_enter Tryz.func65, Tryz.ntmps65
  go_wp2_with fail
  have h := BTS.start HM.out hX hB (.cells #[.int .i64 kd, .int .i64 oa, .int .i64 ob, .int .i64 oc, .slice wa wn wc, .slice pa pn pc, .int .i64 o6] 31)
  have HP : Hid (BuPost (Tb w kb mb ab nb) (fun A' regs' f0 f2 => A' = A ∧ regs' = [] ∧ f0 = false ∧ f2 = false) X A B0 kb eb mb ab w (.returned (.agg #[.bool false, .bool false, .bool false, .bool false, .int .i64 0])) ((w.alloc (.cells #[.int .i64 kd, .int .i64 oa, .int .i64 ob, .int .i64 oc, .slice wa wn wc, .slice pa pn pc, .int .i64 o6] 31)).alloc (.cells #[.bool false, .bool false, .bool false, .bool false, .int .i64 0] 95))) := ⟨_, nb, A, [], false, false, rfl, ⟨rfl, rfl, rfl, rfl⟩, h.mc, hl, h.lo, h.bel, h.le, h.ext, h.sub, h.ex2, h.tn, h.tr⟩
  clear h
  refine bodyPost_ret (v := .agg #[.bool false, .bool false, .bool false, .bool false, .int .i64 0]) ?_ rfl (by exact HP.out)
  exact results_cell_row (by exact Tryz.results65) _ _ (w.heap.size + 1) _ _ _ _ (by rfl) (by exact new_at _ _ (Deep.nblk_alloc _ _)) Tryz.underlying95 rfl (by kernel_rfl)

theorem build_walkS {X : Nat → Prop} {w : World} {kb eb mb ab nb : Nat} {A : List Nd} {regs : List Int} (hM : Mc X w kb eb mb ab nb 65536 A regs) (hl : regs.length ≤ 8) {B0 : Nat} (hX : ∀ z, X z → B0 ≤ z) (hB : B0 ≤ w.heap.size) (kd oa ob oc o6 : Int) (wa pa : Option Addr) (wn wc pn pc : Nat) (h0 : 0 ≤ kd) (h14 : kd ≤ 14) :
    Calls Tryz.prog 65 #[.pointer (some ⟨kb, 0, none⟩), .agg #[.int .i64 kd, .int .i64 oa, .int .i64 ob, .int .i64 oc, .slice wa wn wc, .slice pa pn pc, .int .i64 o6]] w (BuPost (Tb w kb mb ab nb) (BuR kd oa ob oc A regs) X A B0 kb eb mb ab w) := by
  by_cases h : regs = [] ∧ 4 < kd
  · exact (buildSE hM hl hX hB kd oa ob oc o6 wa pa wn wc pn pc h.1 h.2).mono (fun _ _ q => q.mono (fun _ _ _ _ r => by unfold BuR; rw [if_pos h]; exact r))
  · have hm : ∀ e w', BuPost (Tb w kb mb ab nb) (Bend (Bz kd oa ob oc A regs) regs) X A B0 kb eb mb ab w e w' → BuPost (Tb w kb mb ab nb) (BuR kd oa ob oc A regs) X A B0 kb eb mb ab w e w' := fun _ _ q => q.mono (fun _ _ _ _ r => by unfold BuR; rw [if_neg h]; exact r)
    by_cases h4 : 4 < kd
    · have hne : regs ≠ [] := fun e => h ⟨e, h4⟩
      have hc : kd = 5 ∨ kd = 6 ∨ kd = 7 ∨ kd = 8 ∨ kd = 9 ∨ kd = 10 ∨ kd = 11 ∨ kd = 12 ∨ kd = 13 ∨ kd = 14 := by omega
      rcases hc with rfl | rfl | rfl | rfl | rfl | rfl | rfl | rfl | rfl | rfl
      · exact (buildS5 hM hl hne hX hB oa ob oc o6 wa pa wn wc pn pc).mono hm
      · exact (buildS6 hM hl hne hX hB oa ob oc o6 wa pa wn wc pn pc).mono hm
      · exact (buildS7 hM hl hne hX hB oa ob oc o6 wa pa wn wc pn pc).mono hm
      · exact (buildS8 hM hl hne hX hB oa ob oc o6 wa pa wn wc pn pc).mono hm
      · exact (buildS9 hM hl hne hX hB oa ob oc o6 wa pa wn wc pn pc).mono hm
      · exact (buildS10 hM hl hne hX hB oa ob oc o6 wa pa wn wc pn pc).mono hm
      · exact (buildS11 hM hl hne hX hB oa ob oc o6 wa pa wn wc pn pc).mono hm
      · exact (buildS12 hM hl hne hX hB oa ob oc o6 wa pa wn wc pn pc).mono hm
      · exact (buildS13 hM hl hne hX hB oa ob oc o6 wa pa wn wc pn pc).mono hm
      · exact (buildS14 hM hl hne hX hB oa ob oc o6 wa pa wn wc pn pc).mono hm
    · have hc : kd = 0 ∨ kd = 1 ∨ kd = 2 ∨ kd = 3 ∨ kd = 4 := by omega
      rcases hc with rfl | rfl | rfl | rfl | rfl
      · exact (buildS0 hM hl hX hB oa ob oc o6 wa pa wn wc pn pc).mono hm
      · exact (buildS1 hM hl hX hB oa ob oc o6 wa pa wn wc pn pc).mono hm
      · exact (buildS2 hM hl hX hB oa ob oc o6 wa pa wn wc pn pc).mono hm
      · exact (buildS3 hM hl hX hB oa ob oc o6 wa pa wn wc pn pc).mono hm
      · exact (buildS4 hM hl hX hB oa ob oc o6 wa pa wn wc pn pc).mono hm
end Go.Proofs.Qxb6500848aGreatDoor
