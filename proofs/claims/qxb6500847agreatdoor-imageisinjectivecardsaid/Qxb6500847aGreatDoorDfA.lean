/-
  Differences: plainly; the collector in memory.
-/
import Derived.Test.Qxb6500847aGreatDoorMdSs
import Derived.Test.Qxb6500847aGreatDoorMdO
import Derived.Deep.QuietTactic
namespace Go.Proofs.Qxb6500847aGreatDoor.Os
open Go.RowKit FloorA
set_option maxRecDepth 100000
/-- A point at which two states differ. -/
structure Df where
  i : Nat
  p : Nat
  f : Nat
  a : Int
  b : Int
def dfC (d : Df) : List Value := [.int .u16 (d.i : Int), .int .u8 (d.p : Int), .int .u16 (d.f : Int), .int .u64 d.a, .int .u64 d.b]
def dfCs (l : List Df) : List Value := l.flatMap dfC
def nt (x y : Int) (d : Df) : List Df := if x = y then [] else [d]
theorem nt_le (x y : Int) (d : Df) : (nt x y d).length ≤ 1 := by unfold nt; split <;> simp
/-- The words of entry i that differ, among the first k. -/
def dfW (M N : Nat → En) (i k : Nat) : List Df := (List.range k).flatMap (fun f => nt ((M i).wds.getD f 0) ((N i).wds.getD f 0) ⟨i, 5, f, (M i).wds.getD f 0, (N i).wds.getD f 0⟩)
def dfE (M N : Nat → En) (i : Nat) : List Df :=
  nt (M i).gen (N i).gen ⟨i, 0, 0, (M i).gen, (N i).gen⟩ ++
  (if (M i).typ = (N i).typ then
    nt (M i).bas (N i).bas ⟨i, 2, 0, (M i).bas, (N i).bas⟩ ++ nt (M i).siz (N i).siz ⟨i, 3, 0, (M i).siz, (N i).siz⟩ ++ nt (pz (M i).par + 1) (pz (N i).par + 1) ⟨i, 4, 0, pz (M i).par + 1, pz (N i).par + 1⟩ ++ dfW M N i (M i).wds.length
  else [⟨i, 1, 0, (M i).typ, (N i).typ⟩])
def dfL (M N : Nat → En) (k : Nat) : List Df := (List.range k).flatMap (dfE M N)
theorem dfL_succ (M N : Nat → En) (k : Nat) : dfL M N (k + 1) = dfL M N k ++ dfE M N k := by unfold dfL; rw [List.range_succ, List.flatMap_append]; simp
theorem dfW_succ (M N : Nat → En) (i k : Nat) : dfW M N i (k + 1) = dfW M N i k ++ nt ((M i).wds.getD k 0) ((N i).wds.getD k 0) ⟨i, 5, k, (M i).wds.getD k 0, (N i).wds.getD k 0⟩ := by unfold dfW; rw [List.range_succ, List.flatMap_append]; simp
theorem dfW_le (M N : Nat → En) (i : Nat) : ∀ k, (dfW M N i k).length ≤ k
  | 0 => by simp [dfW]
  | k + 1 => by
    have h1 := dfW_le M N i k
    have h2 := nt_le ((M i).wds.getD k 0) ((N i).wds.getD k 0) ⟨i, 5, k, (M i).wds.getD k 0, (N i).wds.getD k 0⟩
    rw [dfW_succ, List.length_append]
    omega
theorem dfE_le {M N : Nat → En} {i : Nat} (h : (M i).wds.length ≤ 112) : (dfE M N i).length ≤ 116 := by
  unfold dfE
  have h1 := nt_le (M i).gen (N i).gen ⟨i, 0, 0, (M i).gen, (N i).gen⟩
  have h2 := nt_le (M i).bas (N i).bas ⟨i, 2, 0, (M i).bas, (N i).bas⟩
  have h3 := nt_le (M i).siz (N i).siz ⟨i, 3, 0, (M i).siz, (N i).siz⟩
  have h4 := nt_le (pz (M i).par + 1) (pz (N i).par + 1) ⟨i, 4, 0, pz (M i).par + 1, pz (N i).par + 1⟩
  have h5 := dfW_le M N i (M i).wds.length
  split
  · simp only [List.length_append]
    omega
  · simp only [List.length_append, List.length_cons, List.length_nil]
    omega
theorem dfL_le {M N : Nat → En} : ∀ k, (∀ i, i < k → (M i).wds.length ≤ 112) → (dfL M N k).length ≤ k * 116
  | 0, _ => by simp [dfL]
  | k + 1, h => by
    have h1 := dfL_le (N := N) k (fun i hi => h i (by omega))
    have h2 := dfE_le (N := N) (h k (by omega))
    rw [dfL_succ, List.length_append]
    omega
/-- The list up to a limit; 0: no limit. -/
def tk (lim : Nat) (l : List Df) : List Df := if lim = 0 then l else l.take lim
/-- As note goes on. -/
theorem tk_snoc (lim : Nat) (l : List Df) (d : Df) : tk lim (l ++ [d]) = if 0 < lim ∧ lim ≤ (tk lim l).length then tk lim l else tk lim l ++ [d] := by
  unfold tk
  by_cases h : lim = 0
  · rw [if_pos h, if_pos h, if_neg (by omega)]
  · rw [if_neg h, if_neg h, List.length_take]
    by_cases q : lim ≤ l.length
    · rw [if_pos (by omega), List.take_append_of_le_length q]
    · rw [if_neg (by omega), List.take_of_length_le (by rw [List.length_append]; simp; omega), List.take_of_length_le (by omega)]
theorem tk_nt (lim : Nat) (l : List Df) (x y : Int) (d : Df) : tk lim (l ++ nt x y d) = if x ≠ y ∧ ¬ (0 < lim ∧ lim ≤ (tk lim l).length) then tk lim l ++ [d] else tk lim l := by
  unfold nt
  by_cases h : x = y
  · rw [if_pos h, List.append_nil, if_neg (fun q => q.1 h)]
  · rw [if_neg h, tk_snoc]
    by_cases q : 0 < lim ∧ lim ≤ (tk lim l).length
    · rw [if_pos q, if_neg (fun z => z.2 q)]
    · rw [if_neg q, if_pos ⟨h, q⟩]
theorem tk_full {lim : Nat} {l : List Df} (h : 0 < lim ∧ lim ≤ (tk lim l).length) (r : List Df) : tk lim (l ++ r) = tk lim l := by
  unfold tk at h ⊢
  rw [if_neg (by omega)] at h
  rw [if_neg (by omega), if_neg (by omega)]
  rw [List.length_take] at h
  exact List.take_append_of_le_length (by omega)
theorem tk_le (lim : Nat) (l : List Df) : (tk lim l).length ≤ l.length := by
  unfold tk
  split
  · omega
  · rw [List.length_take]; omega
/-- The collector lies in block D, what it has noted behind. -/
def Dfm (w : World) (D : Nat) (l : List Df) (lim : Nat) : Prop := ∃ v, w.heap[D]? = some (.cells #[v, .int .i64 (lim : Int)] 250 (0, 0)) ∧ w.ownsRow (D + 1) 88 5 v l.length (dfCs l)
theorem inf88 : (Tryz.prog.info? 88).map (fun i => (i.zero, i.size, i.bytes)) = some (some (.agg #[.int .u16 0, .int .u8 0, .int .u16 0, .int .u64 0, .int .u64 0]), 5, 24) := by kernel_rfl
section
variable {w w' : World} {D : Nat} {l : List Df} {lim : Nat}
theorem Dfm.below (h : Dfm w D l lim) (k : Below w.heap.size w w') : Dfm w' D l lim := by
  obtain ⟨v, h1, h2⟩ := h
  exact ⟨v, (k.block D (heap_lt h1)).trans h1, owns_keep h2 (fun q hq => k.block q (owns_lt h2 q hq).2)⟩
theorem full_m (h : Dfm w D l lim) : Calls Tryz.prog 116 #[.pointer (some ⟨D, 0, none⟩)] w fun e w' => e = .returned (.bool (decide (0 < lim ∧ lim ≤ l.length))) ∧ ∃ m, w' = w.drewN m := by
  obtain ⟨v, h1, h2⟩ := h
  obtain ⟨a, c, hf⟩ : ∃ a c, v = .slice a l.length c := by
    rcases h2.2 with ⟨e, e2⟩ | ⟨g, c, cur, e1, _⟩
    · exact ⟨none, 0, by rw [e, e2]⟩
    · exact ⟨_, c, e1⟩
  subst hf
  have c0 : w.cell? ⟨D, 0, none⟩ = some (.slice a l.length c) := box_cell h1 0
  have c1 : w.cell? ⟨D, 1, none⟩ = some (.int .i64 (lim : Int)) := box_cell h1 1
  obtain ⟨R, hR⟩ : ∃ R, R = decide (0 < lim ∧ lim ≤ l.length) := ⟨_, rfl⟩
  rw [← hR]
  have HR := hideIt hR
  clear h1 h2 hR
  generalize l.length = ll at *
  by_cases q : (lim : Int) > 0
  · have q0 : 0 < lim := by omega
    by_cases q2 : (ll : Int) ≥ (lim : Int)
    · have q3 : lim ≤ ll := by omega
      have HF : Hid (R = true) := by show R = true; rw [HR.out, decide_eq_true_eq]; omega
      clear HR
      go_enter Tryz.func116, Tryz.ntmps116
      go_wp2_with fail
      go_quiet (fail)
      go_wp2_with fail
      go_ret
      exact ⟨by rw [HF.out]; rfl, _, rfl⟩
    · have q3 : ¬ lim ≤ ll := by omega
      have HF : Hid (R = false) := by show R = false; rw [HR.out, decide_eq_false_iff_not]; omega
      clear HR
      go_enter Tryz.func116, Tryz.ntmps116
      go_wp2_with fail
      go_quiet (fail)
      go_wp2_with fail
      go_ret
      exact ⟨by rw [HF.out]; rfl, _, rfl⟩
  · have q0 : lim = 0 := by omega
    have HF : Hid (R = false) := by show R = false; rw [HR.out, decide_eq_false_iff_not]; omega
    subst q0
    clear HR
    go_enter Tryz.func116, Tryz.ntmps116
    go_wp2_with fail
    go_quiet (fail)
    go_wp2_with fail
    go_ret
    exact ⟨by rw [HF.out]; rfl, _, rfl⟩
end
end Go.Proofs.Qxb6500847aGreatDoor.Os
