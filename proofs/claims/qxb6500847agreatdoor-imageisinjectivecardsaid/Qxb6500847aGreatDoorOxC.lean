/-
  resolveRegion, with its code.
-/
import Derived.Test.Qxb6500847aGreatDoorOsT
namespace Go.Proofs.Qxb6500847aGreatDoor.Os
open Go.RowKit FloorA
set_option maxRecDepth 100000
section
variable {A : Nat} {s : Av} {w : World}
def RxPost (A : Nat) (s : Av) (i : Nat) (g : Int) (w : World) (e : Ending) (w' : World) : Prop :=
  Below w.heap.size w w' ∧ ((Live s i g ∧ (s.hd i).typ = 1 ∧ e = .returned (.tuple #[.pointer (some ⟨A, i * 8, none⟩), .nilIface])) ∨ (¬ (Live s i g ∧ (s.hd i).typ = 1) ∧ ∃ v, e = .returned (.tuple #[.pointer none, v]) ∧ ∃ code, code ≠ 0 ∧ IsErr w' v code ∧ code = (if Live s i g then 3 else stale i g)))
set_option maxHeartbeats 800000 in
theorem resolveRegion_x (hA : Am w A s) (i : Nat) (g : Int) (c : ByteArray) :
    Calls Tryz.prog 44 #[.pointer (some ⟨A, 0, none⟩), .string c, .agg #[.int .u16 (i : Int), .int .u32 g]] w (RxPost A s i g w) := by
  have bB := alloc_below (w := w) (.cells #[.int .u16 (i : Int), .int .u32 g] 32)
  have HA := hideIt (hA.below bB)
  have hz : (w.alloc (.cells #[.int .u16 (i : Int), .int .u32 g] 32)).heap[w.heap.size]? = some (.cells #[.int .u16 (i : Int), .int .u32 g] 32 (0, 0)) := heap_new _ _
  have HB := hideIt bB
  clear hA bB
  go_enter Tryz.func44, Tryz.ntmps44
  go_wp2_with fail
  go_at_call 98
  refine (resolve_walk HA.out i g c).mono ?_
  rintro e w1 ⟨hb1, hh⟩
  have HB1 := hideIt (HB.out.trans (hb1.mono HB.out.size))
  have HA1 := hideIt (HA.out.below hb1)
  have l0 : w.heap.size < w1.heap.size := Nat.lt_of_lt_of_le (heap_lt hz) hb1.size
  have hx := (hb1.block w.heap.size (heap_lt hz)).trans hz
  have x0 := box_cell hx 0
  have x1 := box_cell hx 1
  simp only [List.getElem?_toArray, List.getElem?_cons_zero, List.getElem?_cons_succ] at x0 x1
  clear hb1 hz hx
  rcases hh with ⟨hl, rfl⟩ | ⟨hl, v, rfl, hv⟩
  · have ht := HA1.out.typ hl.1
    by_cases h1 : (s.hd i).typ = 1
    · rw [h1] at ht
      go_wp2_with fail
      exact bodyPost_ret (v := .tuple #[.pointer (some ⟨A, i * 8, none⟩), .nilIface]) (by simp [results, Tryz.results44]) rfl ⟨HB1.out, Or.inl ⟨hl, h1, rfl⟩⟩
    · have k1 : ((s.hd i).typ != 1) = true := by rw [bne_iff_ne]; exact h1
      have Hl := hideIt hl
      clear hl
      go_wp2_with (go_at_call 123; refine (refuse_walk _ _ _ _ _ _).mono ?_; rintro e w2 ⟨v, rfl, hv, hb⟩)
      exact bodyPost_ret (v := .tuple #[.pointer none, v]) (by simp [results, Tryz.results44]) rfl ⟨HB1.out.trans (hb.mono HB1.out.size), Or.inr ⟨fun q => h1 q.2, v, rfl, 3, by omega, hv, (if_pos Hl.out).symm⟩⟩
  · have Hl := hideIt hl
    have Hv := hideIt hv
    have hi : ∃ b, v = .iface 212 (.pointer (some ⟨b, 0, none⟩)) := by obtain ⟨b, q, _⟩ := hv; exact ⟨b, q⟩
    obtain ⟨b, rfl⟩ := hi
    clear hl hv
    go_wp2_with fail
    exact bodyPost_ret (v := .tuple #[.pointer none, .iface 212 (.pointer (some ⟨b, 0, none⟩))]) (by simp [results, Tryz.results44]) rfl ⟨HB1.out, Or.inr ⟨fun q => Hl.out q.1, _, rfl, _, by split <;> omega, Hv.out, (if_neg Hl.out).symm⟩⟩

end
end Go.Proofs.Qxb6500847aGreatDoor.Os
