/-
  Small functions: refuse, refOf, body, resolve.
-/
import Derived.Test.Qxb6500847aGreatDoorOsA
import Derived.Deep.Heap
import Derived.Deep.RegionHeld3
import Derived.Deep.RegionLaw
namespace Go.Proofs.Qxb6500847aGreatDoor.Os
open Go.RowKit FloorA
set_option maxRecDepth 100000

theorem heap_new (w : World) (o : Obj) : (w.alloc o).heap[w.heap.size]? = some o := Array.getElem?_push_size
theorem new_at (w : World) (o : Obj) {n : Nat} (h : w.heap.size = n) : (w.alloc o).heap[n]? = some o := by subst h; exact heap_new w o
theorem box_cell {w : World} {b : Nat} {cs : Array Value} {t : TypeId} {fr : Nat × Nat} (h : w.heap[b]? = some (.cells cs t fr)) (i : Nat) : w.cell? ⟨b, i, none⟩ = cs[i]? := by simp [World.cell?, h]
theorem heap_lt {w : World} {b : Nat} {o : Obj} (h : w.heap[b]? = some o) : b < w.heap.size := (Array.getElem?_eq_some_iff.1 h).1
theorem alloc_below {w : World} (o : Obj) : Below w.heap.size w (w.alloc o) := (Below.refl _ _).alloc (Nat.le_refl _) o
theorem below_d (w : World) : Below w.heap.size w w.drew := ⟨rfl, rfl, rfl, Nat.le_refl _, fun _ _ => rfl⟩
theorem two_below {w : World} (a b : Obj) : Below w.heap.size w ((w.alloc a).alloc b) := (alloc_below _).trans ((alloc_below _).mono (alloc_below _).size)

/-- An error of this package. -/
def IsErr (w : World) (v : Value) (code : Int) : Prop := ∃ b, v = .iface 212 (.pointer (some ⟨b, 0, none⟩)) ∧ w.cell? ⟨b, 0, none⟩ = some (.int .u8 code)
theorem IsErr.below {w w' : World} {v : Value} {code : Int} (h : IsErr w v code) (k : Below w.heap.size w w') : IsErr w' v code := by
  obtain ⟨b, e, hc⟩ := h
  exact ⟨b, e, (k.cell (p := ⟨b, 0, none⟩) (cell_lt hc)).trans hc⟩

theorem refuse_walk (code i g : Int) (c n : ByteArray) (w : World) :
    Calls Tryz.prog 123 #[.int .u8 code, .string c, .agg #[.int .u16 i, .int .u32 g], .string n] w fun e w' => ∃ v, e = .returned v ∧ IsErr w' v code ∧ Below w.heap.size w w' := by
  go_enter Tryz.func123, Tryz.ntmps123
  go_wp2
  go_ret
  exact ⟨_, rfl, ⟨_, rfl, (box_cell (new_at _ _ (Deep.nblk_alloc _ _)) 0).trans rfl⟩, two_below _ _⟩

section
variable {A : Nat} {s : Av} {w : World}
theorem Am.lt (hA : Am w A s) : A < w.heap.size := cell_lt (hA.cell 0 (by omega))
theorem Am.hdc (hA : Am w A s) {i f : Nat} (hi : i < 320) (hf : f < 8) : w.cell? ⟨A, i * 8 + f, none⟩ = some (hdC (s.hd i) f) := (hA.cell (i * 8 + f) (by omega)).trans (by rw [mem_hd _ hi hf])
theorem Am.gen (hA : Am w A s) {i : Nat} (hi : i < 320) : w.cell? ⟨A, i * 8, none⟩ = some (.int .u32 (s.hd i).gen) := hA.hdc hi (f := 0) (by omega)
theorem Am.typ (hA : Am w A s) {i : Nat} (hi : i < 320) : w.cell? ⟨A, i * 8 + 1, none⟩ = some (.int .u8 (s.hd i).typ) := hA.hdc hi (by omega)
theorem Am.rw (hA : Am w A s) {i : Nat} (hi : i < 320) : w.cell? ⟨A, i * 8 + 2, none⟩ = some (.int .u16 (s.hd i).row) := hA.hdc hi (by omega)
theorem Am.par (hA : Am w A s) {i : Nat} (hi : i < 320) : w.cell? ⟨A, i * 8 + 3, none⟩ = some (.int .u16 (s.hd i).par) := hA.hdc hi (by omega)
theorem Am.prv (hA : Am w A s) {i : Nat} (hi : i < 320) : w.cell? ⟨A, i * 8 + 4, none⟩ = some (.int .u16 (s.hd i).prv) := hA.hdc hi (by omega)
theorem Am.nxt (hA : Am w A s) {i : Nat} (hi : i < 320) : w.cell? ⟨A, i * 8 + 5, none⟩ = some (.int .u16 (s.hd i).nxt) := hA.hdc hi (by omega)
theorem Am.bas (hA : Am w A s) {i : Nat} (hi : i < 320) : w.cell? ⟨A, i * 8 + 6, none⟩ = some (.int .u64 (s.hd i).bas) := hA.hdc hi (by omega)
theorem Am.siz (hA : Am w A s) {i : Nat} (hi : i < 320) : w.cell? ⟨A, i * 8 + 7, none⟩ = some (.int .u64 (s.hd i).siz) := hA.hdc hi (by omega)
theorem Am.rgc (hA : Am w A s) {i f : Nat} (hi : i < 64) (hf : f < 4) : w.cell? ⟨A, 2565 + i * 4 + f, none⟩ = some (rgC (s.rg i) f) := (hA.cell (2565 + i * 4 + f) (by omega)).trans (by rw [mem_rg _ hi hf])

theorem refOf_walk (hA : Am w A s) {i : Nat} (hi : i < 320) :
    Calls Tryz.prog 124 #[.pointer (some ⟨A, 0, none⟩), .int .u16 (i : Int)] w fun e w' => e = .returned (.agg #[.int .u16 (i : Int), .int .u32 (s.hd i).gen]) ∧ Below w.heap.size w w' := by
  have h0 := hA.gen hi
  have la := hA.lt
  have hne : ((i : Int) == 65535) = false := by rw [beq_eq_false_iff_ne]; omega
  go_enter Tryz.func124, Tryz.ntmps124
  go_wp2
  refine bodyPost_ret (v := .agg #[.int .u16 (i : Int), .int .u32 (s.hd i).gen]) ?_ rfl ⟨rfl, alloc_below _⟩
  exact results_cell_row (by exact Tryz.results124) _ _ w.heap.size _ _ _ _ (by rfl) (by exact heap_new _ _) Tryz.underlying32 rfl (by kernel_rfl)
theorem refOf_none (A : Nat) (w : World) :
    Calls Tryz.prog 124 #[.pointer (some ⟨A, 0, none⟩), .int .u16 65535] w fun e w' => e = .returned (.agg #[.int .u16 0, .int .u32 0]) ∧ Below w.heap.size w w' := by
  go_enter Tryz.func124, Tryz.ntmps124
  go_wp2
  refine bodyPost_ret (v := .agg #[.int .u16 0, .int .u32 0]) ?_ rfl ⟨rfl, alloc_below _⟩
  exact results_cell_row (by exact Tryz.results124) _ _ w.heap.size _ _ _ _ (by rfl) (by exact heap_new _ _) Tryz.underlying32 rfl (by kernel_rfl)
theorem body_walk (A : Nat) {i : Nat} (h0 : 256 ≤ i) (h1 : i < 320) (w : World) :
    Calls Tryz.prog 45 #[.pointer (some ⟨A, 0, none⟩), .int .u16 (i : Int)] w fun e w' => e = .returned (.pointer (some ⟨A, 2565 + (i - 256) * 4, none⟩)) ∧ w' = w := by
  have e1 : IntKind.u16.wrap ((i : Int) - 256) = (i : Int) - 256 := by unfold IntKind.wrap; simp [IntKind.bits, IntKind.signed]; omega
  have e2 : ((i : Int) - 256).toNat = i - 256 := by omega
  have e3 : 0 ≤ (i : Int) - 256 := by omega
  have e4 : (i : Int) - 256 < 64 := by omega
  go_enter Tryz.func45, Tryz.ntmps45
  go_wp2
  go_ret
  exact ⟨rfl, rfl⟩
theorem end_walk (hA : Am w A s) {i : Nat} (hi : i < 320) :
    Calls Tryz.prog 47 #[.pointer (some ⟨A, i * 8, none⟩)] w fun e w' => e = .returned (.int .u64 (IntKind.u64.wrap ((s.hd i).bas + (s.hd i).siz))) ∧ w' = w.drew := by
  have h6 := hA.bas hi
  have h7 := hA.siz hi
  go_enter Tryz.func47, Tryz.ntmps47
  go_wp2_with fail
  go_region
  go_wp2_with fail
  go_ret
  exact ⟨rfl, rfl⟩

/-- The reference names a live entry. -/
def Live (s : Av) (i : Nat) (g : Int) : Prop := i < 320 ∧ g ≠ 0 ∧ (s.hd i).typ ≠ 0 ∧ (s.hd i).gen = g
set_option maxHeartbeats 800000 in
theorem resolve_walk (hA : Am w A s) (i : Nat) (g : Int) (c : ByteArray) :
    Calls Tryz.prog 98 #[.pointer (some ⟨A, 0, none⟩), .string c, .agg #[.int .u16 (i : Int), .int .u32 g]] w fun e w' => Below w.heap.size w w' ∧ ((Live s i g ∧ e = .returned (.tuple #[.pointer (some ⟨A, i * 8, none⟩), .nilIface])) ∨ (¬ Live s i g ∧ ∃ v, e = .returned (.tuple #[.pointer none, v]) ∧ IsErr w' v (if i < 320 ∧ g ≠ 0 then 2 else 1))) := by
  have la := hA.lt
  have bB := alloc_below (w := w) (.cells #[.int .u16 (i : Int), .int .u32 g] 32)
  by_cases h1 : i < 320
  · have k1 : ((i : Int) ≥ 320) = False := by simp; omega
    have h0 := hA.gen h1
    have ht := hA.typ h1
    by_cases h2 : g = 0
    · subst h2
      go_enter Tryz.func98, Tryz.ntmps98
      go_wp2_with (go_at_call 123; refine (refuse_walk _ _ _ _ _ _).mono ?_; rintro e w1 ⟨v, rfl, hv, hb⟩)
      refine bodyPost_ret (v := .tuple #[.pointer none, v]) (by simp [results, Tryz.results98]) rfl ⟨bB.trans (hb.mono bB.size), Or.inr ⟨fun q => q.2.1 rfl, v, rfl, ?_⟩⟩
      exact hv
    · have k2 : (g == 0) = false := by rw [beq_eq_false_iff_ne]; exact h2
      by_cases h3 : (s.hd i).typ = 0
      · rw [h3] at ht
        go_enter Tryz.func98, Tryz.ntmps98
        go_wp2_with fail
        go_region
        go_wp2_with (go_at_call 123; refine (refuse_walk _ _ _ _ _ _).mono ?_; rintro e w1 ⟨v, rfl, hv, hb⟩)
        refine bodyPost_ret (v := .tuple #[.pointer none, v]) (by simp [results, Tryz.results98]) rfl ⟨(bB.trans ((below_d _).mono bB.size)).trans (hb.mono (Nat.le_trans bB.size (below_d _).size)), Or.inr ⟨fun q => q.2.2.1 h3, v, rfl, ?_⟩⟩
        exact hv
      · have k3 : ((s.hd i).typ == 0) = false := by rw [beq_eq_false_iff_ne]; exact h3
        by_cases h4 : (s.hd i).gen = g
        · have k4 : ((s.hd i).gen != g) = false := by rw [h4]; simp
          go_enter Tryz.func98, Tryz.ntmps98
          go_wp2_with fail
          go_region
          go_wp2_with fail
          go_region
          go_wp2_with fail
          refine bodyPost_ret (v := .tuple #[.pointer (some ⟨A, i * 8, none⟩), .nilIface]) (by simp [results, Tryz.results98]) rfl ⟨(bB.trans ((below_d _).mono bB.size)).trans ((below_d _).mono (Nat.le_trans bB.size (below_d _).size)), Or.inl ⟨⟨h1, h2, h3, h4⟩, rfl⟩⟩
        · have k4 : ((s.hd i).gen != g) = true := by rw [bne_iff_ne]; exact h4
          go_enter Tryz.func98, Tryz.ntmps98
          go_wp2_with fail
          go_region
          go_wp2_with fail
          go_region
          go_wp2_with (go_at_call 123; refine (refuse_walk _ _ _ _ _ _).mono ?_; rintro e w1 ⟨v, rfl, hv, hb⟩)
          refine bodyPost_ret (v := .tuple #[.pointer none, v]) (by simp [results, Tryz.results98]) rfl ⟨((bB.trans ((below_d _).mono bB.size)).trans ((below_d _).mono (Nat.le_trans bB.size (below_d _).size))).trans (hb.mono (Nat.le_trans bB.size (Nat.le_trans (below_d _).size (below_d _).size))), Or.inr ⟨fun q => h4 q.2.2.2, v, rfl, ?_⟩⟩
          exact hv
  · have k1 : ((i : Int) ≥ 320) = True := by simp; omega
    go_enter Tryz.func98, Tryz.ntmps98
    go_wp2_with (go_at_call 123; refine (refuse_walk _ _ _ _ _ _).mono ?_; rintro e w1 ⟨v, rfl, hv, hb⟩)
    refine bodyPost_ret (v := .tuple #[.pointer none, v]) (by simp [results, Tryz.results98]) rfl ⟨bB.trans (hb.mono bB.size), Or.inr ⟨fun q => h1 q.1, v, rfl, ?_⟩⟩
    exact hv
end
end Go.Proofs.Qxb6500847aGreatDoor.Os
