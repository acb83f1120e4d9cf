/-
  Small functions: resolveRegion, Valid, TypeOf, SizeOf, info.
-/
import Derived.Test.Qxb6500847aGreatDoorOsB
namespace Go.Proofs.Qxb6500847aGreatDoor.Os
open Go.RowKit FloorA
set_option maxRecDepth 100000

section
variable {A : Nat} {s : Av} {w : World}

def RrPost (A : Nat) (s : Av) (i : Nat) (g : Int) (w : World) (e : Ending) (w' : World) : Prop :=
  Below w.heap.size w w' ∧ ((Live s i g ∧ (s.hd i).typ = 1 ∧ e = .returned (.tuple #[.pointer (some ⟨A, i * 8, none⟩), .nilIface])) ∨ (¬ (Live s i g ∧ (s.hd i).typ = 1) ∧ ∃ v, e = .returned (.tuple #[.pointer none, v]) ∧ ∃ code, code ≠ 0 ∧ IsErr w' v code ∧ (¬ Live s i g → code = if i < 320 ∧ g ≠ 0 then 2 else 1)))
set_option maxHeartbeats 800000 in
theorem resolveRegion_walk (hA : Am w A s) (i : Nat) (g : Int) (c : ByteArray) :
    Calls Tryz.prog 44 #[.pointer (some ⟨A, 0, none⟩), .string c, .agg #[.int .u16 (i : Int), .int .u32 g]] w (RrPost A s i g w) := by
  have bB := alloc_below (w := w) (.cells #[.int .u16 (i : Int), .int .u32 g] 32)
  have HA := hideIt (hA.below bB)
  have hz : (w.alloc (.cells #[.int .u16 (i : Int), .int .u32 g] 32)).heap[w.heap.size]? = some (.cells #[.int .u16 (i : Int), .int .u32 g] 32 (0, 0)) := heap_new _ _
  have HB := hideIt bB
  clear hA bB
  go_enter Tryz.func44, Tryz.ntmps44
  go_wp2_with fail
  go_at_call 98
  refine (resolve_walk HA.out i g c).mono ?_
  rintro e w1 ⟨hb1, hh⟩
  have HB1 := hideIt (HB.out.trans (hb1.mono HB.out.size))
  have HA1 := hideIt (HA.out.below hb1)
  have l0 : w.heap.size < w1.heap.size := Nat.lt_of_lt_of_le (heap_lt hz) hb1.size
  have hx := (hb1.block w.heap.size (heap_lt hz)).trans hz
  have x0 := box_cell hx 0
  have x1 := box_cell hx 1
  simp only [List.getElem?_toArray, List.getElem?_cons_zero, List.getElem?_cons_succ] at x0 x1
  clear hb1 hz hx
  rcases hh with ⟨hl, rfl⟩ | ⟨hl, v, rfl, hv⟩
  · have ht := HA1.out.typ hl.1
    by_cases h1 : (s.hd i).typ = 1
    · rw [h1] at ht
      go_wp2_with fail
      exact bodyPost_ret (v := .tuple #[.pointer (some ⟨A, i * 8, none⟩), .nilIface]) (by simp [results, Tryz.results44]) rfl ⟨HB1.out, Or.inl ⟨hl, h1, rfl⟩⟩
    · have k1 : ((s.hd i).typ != 1) = true := by rw [bne_iff_ne]; exact h1
      have Hl := hideIt hl
      clear hl
      go_wp2_with (go_at_call 123; refine (refuse_walk _ _ _ _ _ _).mono ?_; rintro e w2 ⟨v, rfl, hv, hb⟩)
      exact bodyPost_ret (v := .tuple #[.pointer none, v]) (by simp [results, Tryz.results44]) rfl ⟨HB1.out.trans (hb.mono HB1.out.size), Or.inr ⟨fun q => h1 q.2, v, rfl, 3, by omega, hv, fun q => absurd Hl.out q⟩⟩
  · have Hl := hideIt hl
    have Hv := hideIt hv
    have hi : ∃ b, v = .iface 212 (.pointer (some ⟨b, 0, none⟩)) := by obtain ⟨b, q, _⟩ := hv; exact ⟨b, q⟩
    obtain ⟨b, rfl⟩ := hi
    clear hl hv
    go_wp2_with fail
    exact bodyPost_ret (v := .tuple #[.pointer none, .iface 212 (.pointer (some ⟨b, 0, none⟩))]) (by simp [results, Tryz.results44]) rfl ⟨HB1.out, Or.inr ⟨fun q => Hl.out q.1, _, rfl, _, by split <;> omega, Hv.out, fun _ => rfl⟩⟩

instance (s : Av) (i : Nat) (g : Int) : Decidable (Live s i g) := by unfold Live; infer_instance
set_option maxHeartbeats 800000 in
theorem valid_walk (hA : Am w A s) (i : Nat) (g : Int) :
    Calls Tryz.prog 23 #[.pointer (some ⟨A, 0, none⟩), .agg #[.int .u16 (i : Int), .int .u32 g]] w fun e w' => e = .returned (.bool (decide (Live s i g))) ∧ Below w.heap.size w w' := by
  have la := hA.lt
  have bB := alloc_below (w := w) (.cells #[.int .u16 (i : Int), .int .u32 g] 32)
  have bb : Below w.heap.size w (w.alloc (.cells #[.int .u16 (i : Int), .int .u32 g] 32)).drew := bB.trans ((below_d _).mono bB.size)
  by_cases h1 : i < 320
  · have k1 : ((i : Int) < 320) = True := by simp; omega
    have h0 := hA.gen h1
    have ht := hA.typ h1
    by_cases h2 : g = 0
    · subst h2
      go_enter Tryz.func23, Tryz.ntmps23
      go_wp2_with fail
      go_region
      go_wp2_with fail
      go_ret
      exact ⟨by simp [Live], bb⟩
    · have k2 : (g != 0) = true := by rw [bne_iff_ne]; exact h2
      by_cases h3 : (s.hd i).typ = 0
      · rw [h3] at ht
        go_enter Tryz.func23, Tryz.ntmps23
        go_wp2_with fail
        go_region
        go_wp2_with fail
        go_ret
        exact ⟨by simp [Live, h3], bb⟩
      · have k3 : ((s.hd i).typ != 0) = true := by rw [bne_iff_ne]; exact h3
        by_cases h4 : (s.hd i).gen = g
        · have k4 : ((s.hd i).gen == g) = true := by rw [h4]; simp
          go_enter Tryz.func23, Tryz.ntmps23
          go_wp2_with fail
          go_region
          go_wp2_with fail
          go_ret
          exact ⟨by simp [Live, h1, h2, h3, h4], bb⟩
        · have k4 : ((s.hd i).gen == g) = false := by rw [beq_eq_false_iff_ne]; exact h4
          go_enter Tryz.func23, Tryz.ntmps23
          go_wp2_with fail
          go_region
          go_wp2_with fail
          go_ret
          exact ⟨by simp [Live, h4], bb⟩
  · have k1 : ((i : Int) < 320) = False := by simp; omega
    go_enter Tryz.func23, Tryz.ntmps23
    go_wp2_with fail
    go_region
    go_wp2_with fail
    go_ret
    exact ⟨by simp [Live, h1], bb⟩
end
end Go.Proofs.Qxb6500847aGreatDoor.Os
