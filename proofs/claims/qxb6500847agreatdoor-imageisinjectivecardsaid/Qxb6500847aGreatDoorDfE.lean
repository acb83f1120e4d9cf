/-
  Differences: ownerWord; note, up to the limit.
-/
import Derived.Test.Qxb6500847aGreatDoorDfB
import Derived.Test.Qxb6500847aGreatDoorOxEk
namespace Go.Proofs.Qxb6500847aGreatDoor.Os
open Go.RowKit FloorA
set_option maxRecDepth 100000
theorem owner_m {p : Int} (h : p = 65535 ∨ ∃ q : Nat, q < 320 ∧ p = (q : Int)) (w : World) :
    Calls Tryz.prog 118 #[.int .u16 p] w fun e w' => e = .returned (.int .u64 (pz p + 1)) ∧ w' = w := by
  rcases h with rfl | ⟨q, hq, rfl⟩
  · go_enter Tryz.func118, Tryz.ntmps118
    go_wp2_with fail
    go_ret
    exact ⟨rfl, rfl⟩
  · have k1 : ((q : Int) == 65535) = false := by rw [beq_eq_false_iff_ne]; omega
    have k2 : IntKind.u64.wrap (q : Int) = (q : Int) := u64_same (by omega) (by omega)
    have k3 : IntKind.u64.wrap ((q : Int) + 1) = (q : Int) + 1 := u64_same (by omega) (by omega)
    have k4 : pz (q : Int) = (q : Int) := by unfold pz; rw [if_neg (by omega)]
    rw [k4]
    go_enter Tryz.func118, Tryz.ntmps118
    go_wp2_with fail
    go_ret
    exact ⟨rfl, rfl⟩
theorem note_t {w : World} {D lim : Nat} {P : List Df} (h : Dfm w D (tk lim P) lim) (hl : P.length ≤ 40000) {i p f : Nat} {p' f' : Int} (hp : p' = (p : Int)) (hf' : f' = (f : Int)) (hi : i < 65536) (hf : f < 65536) (x y : Int) :
    Calls Tryz.prog 117 #[.pointer (some ⟨D, 0, none⟩), .int .i64 (i : Int), .int .u8 p', .int .i64 f', .int .u64 x, .int .u64 y] w fun e w' => e = .returned (.tuple #[]) ∧ Dfm w' D (tk lim (P ++ nt x y ⟨i, p, f, x, y⟩)) lim ∧ Below D w w' := by
  subst hp hf'
  rw [tk_nt]
  exact note_m h (Nat.le_trans (tk_le lim P) hl) hi hf x y
/-- The lists of a round. -/
structure DfR (M N : Nat → En) (k : Nat) (L1 L2 L3 L4 L5 : List Df) : Prop where
  e1 : L1 = dfL M N k ++ nt (M k).gen (N k).gen ⟨k, 0, 0, (M k).gen, (N k).gen⟩
  e2 : L2 = L1 ++ nt (M k).typ (N k).typ ⟨k, 1, 0, (M k).typ, (N k).typ⟩
  e3 : L3 = L2 ++ nt (M k).bas (N k).bas ⟨k, 2, 0, (M k).bas, (N k).bas⟩
  e4 : L4 = L3 ++ nt (M k).siz (N k).siz ⟨k, 3, 0, (M k).siz, (N k).siz⟩
  e5 : L5 = L4 ++ nt (pz (M k).par + 1) (pz (N k).par + 1) ⟨k, 4, 0, pz (M k).par + 1, pz (N k).par + 1⟩
section
variable {M N : Nat → En} {k : Nat} {L1 L2 L3 L4 L5 : List Df}
theorem DfR.mk' (M N : Nat → En) (k : Nat) : ∃ L1 L2 L3 L4 L5, DfR M N k L1 L2 L3 L4 L5 := ⟨_, _, _, _, _, rfl, rfl, rfl, rfl, rfl⟩
theorem nt_same (x : Int) (d : Df) : nt x x d = [] := if_pos rfl
theorem DfR.dif (h : DfR M N k L1 L2 L3 L4 L5) (ht : (M k).typ ≠ (N k).typ) : dfL M N (k + 1) = L2 := by
  have : nt (M k).typ (N k).typ ⟨k, 1, 0, (M k).typ, (N k).typ⟩ = [⟨k, 1, 0, (M k).typ, (N k).typ⟩] := if_neg ht
  rw [dfL_succ, h.e2, h.e1, this]
  unfold dfE
  rw [if_neg ht, List.append_assoc]
theorem DfR.sam (h : DfR M N k L1 L2 L3 L4 L5) (ht : (M k).typ = (N k).typ) : dfL M N (k + 1) = L5 ++ dfW M N k (M k).wds.length := by
  rw [dfL_succ, h.e5, h.e4, h.e3, h.e2, h.e1]
  unfold dfE
  rw [if_pos ht, ← ht, nt_same]
  simp only [List.append_assoc, List.append_nil]
theorem DfR.non (h : DfR M N k L1 L2 L3 L4 L5) (hM : Mk M) (hN : Mk N) (hk : k < 320) (ht : (M k).typ = (N k).typ) (h0 : (M k).typ = 0) : dfL M N (k + 1) = L2 := by
  obtain ⟨a1, a2, a3⟩ := hM.fre k hk h0
  obtain ⟨b1, b2, b3⟩ := hN.fre k hk (ht ▸ h0)
  have hw : (M k).wds.length = 0 := by rw [hM.wln k hk, if_pos (by omega)]
  rw [h.sam ht, h.e5, h.e4, h.e3, a1, a2, a3, b1, b2, b3, hw, nt_same, nt_same, nt_same]
  simp [dfW]
theorem DfR.reg (h : DfR M N k L1 L2 L3 L4 L5) (hM : Mk M) (hk : k < 320) (ht : (M k).typ = (N k).typ) (h0 : (M k).typ = 1) : dfL M N (k + 1) = L5 := by
  have hw : (M k).wds.length = 0 := by rw [hM.wln k hk, if_pos (by omega)]
  rw [h.sam ht, hw]
  simp [dfW]
theorem DfR.len (h : DfR M N k L1 L2 L3 L4 L5) (hM : Mk M) (hk : k < 320) : (dfL M N k).length ≤ 39000 ∧ L1.length ≤ 39001 ∧ L2.length ≤ 39002 ∧ L3.length ≤ 39003 ∧ L4.length ≤ 39004 ∧ L5.length ≤ 39005 := by
  have h0 := dfL_le (N := N) k (fun i hi => hM.wlen i (by omega))
  have e1 := congrArg List.length h.e1
  have e2 := congrArg List.length h.e2
  have e3 := congrArg List.length h.e3
  have e4 := congrArg List.length h.e4
  have e5 := congrArg List.length h.e5
  have n1 := nt_le (M k).gen (N k).gen ⟨k, 0, 0, (M k).gen, (N k).gen⟩
  have n2 := nt_le (M k).typ (N k).typ ⟨k, 1, 0, (M k).typ, (N k).typ⟩
  have n3 := nt_le (M k).bas (N k).bas ⟨k, 2, 0, (M k).bas, (N k).bas⟩
  have n4 := nt_le (M k).siz (N k).siz ⟨k, 3, 0, (M k).siz, (N k).siz⟩
  have n5 := nt_le (pz (M k).par + 1) (pz (N k).par + 1) ⟨k, 4, 0, pz (M k).par + 1, pz (N k).par + 1⟩
  rw [List.length_append] at e1 e2 e3 e4 e5
  omega
theorem tk_stop {lim : Nat} (h : 0 < lim ∧ lim ≤ (tk lim (dfL M N k)).length) (hk : k ≤ 320) : tk lim (dfL M N 320) = tk lim (dfL M N k) := by
  obtain ⟨d, hd⟩ : ∃ d, 320 = k + d := ⟨320 - k, by omega⟩
  have key : ∀ d, ∃ r, dfL M N (k + d) = dfL M N k ++ r := fun d => by
    induction d with
    | zero => exact ⟨[], by simp⟩
    | succ d ih =>
      obtain ⟨r, hr⟩ := ih
      exact ⟨r ++ dfE M N (k + d), by rw [← Nat.add_assoc, dfL_succ, hr, List.append_assoc]⟩
  obtain ⟨r, hr⟩ := key d
  rw [hd, hr]
  exact tk_full h r
end
/-- The two entries' cells. -/
structure Ac (A A2 : Nat) (M N : Nat → En) (k : Nat) (w : World) : Prop where
  g1 : w.cell? ⟨A, k * 8, none⟩ = some (.int .u32 (M k).gen)
  g2 : w.cell? ⟨A2, k * 8, none⟩ = some (.int .u32 (N k).gen)
  t1 : w.cell? ⟨A, k * 8 + 1, none⟩ = some (.int .u8 (M k).typ)
  t2 : w.cell? ⟨A2, k * 8 + 1, none⟩ = some (.int .u8 (N k).typ)
  p1 : w.cell? ⟨A, k * 8 + 3, none⟩ = some (.int .u16 (M k).par)
  p2 : w.cell? ⟨A2, k * 8 + 3, none⟩ = some (.int .u16 (N k).par)
  b1 : w.cell? ⟨A, k * 8 + 6, none⟩ = some (.int .u64 (M k).bas)
  b2 : w.cell? ⟨A2, k * 8 + 6, none⟩ = some (.int .u64 (N k).bas)
  s1 : w.cell? ⟨A, k * 8 + 7, none⟩ = some (.int .u64 (M k).siz)
  s2 : w.cell? ⟨A2, k * 8 + 7, none⟩ = some (.int .u64 (N k).siz)
theorem Ac.of {w : World} {A A2 : Nat} {rb sb rb2 sb2 : Nat → Nat} {s s2 : Av} {tl tl2 : Nat → List Int} {ws ws2 : Nat → Nat → Nat → Int} (h : Ms w A rb sb s tl ws) (h2 : Ms w A2 rb2 sb2 s2 tl2 ws2) {k : Nat} (hk : k < 320) : Ac A A2 (ob s ws) (ob s2 ws2) k w := by
  have e := ob_at s ws hk
  have e2 := ob_at s2 ws2 hk
  refine ⟨?_, ?_, ?_, ?_, ?_, ?_, ?_, ?_, ?_, ?_⟩ <;> first | rw [e] | rw [e2]
  all_goals clear e e2
  all_goals first
    | exact h.am.gen hk
    | exact h.am.typ hk
    | exact h.am.par hk
    | exact h.am.bas hk
    | exact h.am.siz hk
    | exact h2.am.gen hk
    | exact h2.am.typ hk
    | exact h2.am.par hk
    | exact h2.am.bas hk
    | exact h2.am.siz hk
end Go.Proofs.Qxb6500847aGreatDoor.Os
