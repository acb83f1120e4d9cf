/-
  statVals.
-/
import Derived.Test.Qxb6500847aGreatDoorOsSt0
import Derived.Test.Qxb6500847aGreatDoorOsPh
import Derived.Test.Qxb6500847aGreatDoorOxB
import Derived.Test.Qxb6500847aGreatDoorOsQc
namespace Go.Proofs.Qxb6500847aGreatDoor.Os
open Go.RowKit FloorA
set_option maxRecDepth 100000
theorem ix51_0 (l : Nat → Int) (w : World) : (Instr.index 51 (.agg #[.int .i64 (l 0), .int .i64 (l 1), .int .i64 (l 2), .int .i64 (l 3), .int .i64 (l 4), .int .i64 (l 5), .int .i64 (l 6), .int .i64 (l 7)]) (.int .i64 0)).run Tryz.prog w = .ok (.int .i64 (l 0)) w := by kernel_rfl
theorem ix51_1 (l : Nat → Int) (w : World) : (Instr.index 51 (.agg #[.int .i64 (l 0), .int .i64 (l 1), .int .i64 (l 2), .int .i64 (l 3), .int .i64 (l 4), .int .i64 (l 5), .int .i64 (l 6), .int .i64 (l 7)]) (.int .i64 1)).run Tryz.prog w = .ok (.int .i64 (l 1)) w := by kernel_rfl
theorem ix51_2 (l : Nat → Int) (w : World) : (Instr.index 51 (.agg #[.int .i64 (l 0), .int .i64 (l 1), .int .i64 (l 2), .int .i64 (l 3), .int .i64 (l 4), .int .i64 (l 5), .int .i64 (l 6), .int .i64 (l 7)]) (.int .i64 2)).run Tryz.prog w = .ok (.int .i64 (l 2)) w := by kernel_rfl
theorem ix51_3 (l : Nat → Int) (w : World) : (Instr.index 51 (.agg #[.int .i64 (l 0), .int .i64 (l 1), .int .i64 (l 2), .int .i64 (l 3), .int .i64 (l 4), .int .i64 (l 5), .int .i64 (l 6), .int .i64 (l 7)]) (.int .i64 3)).run Tryz.prog w = .ok (.int .i64 (l 3)) w := by kernel_rfl
theorem ix51_4 (l : Nat → Int) (w : World) : (Instr.index 51 (.agg #[.int .i64 (l 0), .int .i64 (l 1), .int .i64 (l 2), .int .i64 (l 3), .int .i64 (l 4), .int .i64 (l 5), .int .i64 (l 6), .int .i64 (l 7)]) (.int .i64 4)).run Tryz.prog w = .ok (.int .i64 (l 4)) w := by kernel_rfl
theorem ix51_5 (l : Nat → Int) (w : World) : (Instr.index 51 (.agg #[.int .i64 (l 0), .int .i64 (l 1), .int .i64 (l 2), .int .i64 (l 3), .int .i64 (l 4), .int .i64 (l 5), .int .i64 (l 6), .int .i64 (l 7)]) (.int .i64 5)).run Tryz.prog w = .ok (.int .i64 (l 5)) w := by kernel_rfl
theorem ix51_6 (l : Nat → Int) (w : World) : (Instr.index 51 (.agg #[.int .i64 (l 0), .int .i64 (l 1), .int .i64 (l 2), .int .i64 (l 3), .int .i64 (l 4), .int .i64 (l 5), .int .i64 (l 6), .int .i64 (l 7)]) (.int .i64 6)).run Tryz.prog w = .ok (.int .i64 (l 6)) w := by kernel_rfl
theorem ix51_7 (l : Nat → Int) (w : World) : (Instr.index 51 (.agg #[.int .i64 (l 0), .int .i64 (l 1), .int .i64 (l 2), .int .i64 (l 3), .int .i64 (l 4), .int .i64 (l 5), .int .i64 (l 6), .int .i64 (l 7)]) (.int .i64 7)).run Tryz.prog w = .ok (.int .i64 (l 7)) w := by kernel_rfl
theorem ix51 (l : Nat → Int) {k : Nat} (hk : k < 8) (w : World) : (Instr.index 51 (.agg #[.int .i64 (l 0), .int .i64 (l 1), .int .i64 (l 2), .int .i64 (l 3), .int .i64 (l 4), .int .i64 (l 5), .int .i64 (l 6), .int .i64 (l 7)]) (.int .i64 (k : Int))).run Tryz.prog w = .ok (.int .i64 (l k)) w := by
  have hc : k = 0 ∨ k = 1 ∨ k = 2 ∨ k = 3 ∨ k = 4 ∨ k = 5 ∨ k = 6 ∨ k = 7 := by omega
  rcases hc with rfl | rfl | rfl | rfl | rfl | rfl | rfl | rfl
  · exact ix51_0 l w
  · exact ix51_1 l w
  · exact ix51_2 l w
  · exact ix51_3 l w
  · exact ix51_4 l w
  · exact ix51_5 l w
  · exact ix51_6 l w
  · exact ix51_7 l w
/-- The words of a Stats. -/
def svL (o a b c d e f : Int) (l : Nat → Int) (p q : Int) : List Int := [IntKind.u64.wrap o, IntKind.u64.wrap a, IntKind.u64.wrap b, IntKind.u64.wrap c, IntKind.u64.wrap d, IntKind.u64.wrap e, IntKind.u64.wrap f] ++ (List.range 8).map (fun j => IntKind.u64.wrap (l j)) ++ [p, q]
section
variable {w : World}
set_option maxHeartbeats 8000000 in
theorem statVals_walk (o a b c d e5 f : Int) (l : Nat → Int) (p q : Int) :
    Calls Tryz.prog 58 #[.agg (st17 o a b c d e5 f l p q).toArray] w (fun e w' => ∃ v, e = .returned v ∧ IsU w.heap.size w' v (svL o a b c d e5 f l p q) ∧ Below w.heap.size w w') := by
  obtain ⟨i0, hi0, hz0, hz1, hz2⟩ := info_parts inf34
  have hb : Below w.heap.size w ((w.alloc (.cells #[.int .i64 o, .int .i64 a, .int .i64 b, .int .i64 c, .int .i64 d, .int .i64 e5, .int .i64 f, .int .i64 (l 0), .int .i64 (l 1), .int .i64 (l 2), .int .i64 (l 3), .int .i64 (l 4), .int .i64 (l 5), .int .i64 (l 6), .int .i64 (l 7), .int .u64 p, .int .u64 q] 53)).alloc (.cells #[.int .u64 (IntKind.u64.wrap o), .int .u64 (IntKind.u64.wrap a), .int .u64 (IntKind.u64.wrap b), .int .u64 (IntKind.u64.wrap c), .int .u64 (IntKind.u64.wrap d), .int .u64 (IntKind.u64.wrap e5), .int .u64 (IntKind.u64.wrap f)] 34)) := Below.thr (alloc_below _) (alloc_below _)
  have hx : ((w.alloc (.cells #[.int .i64 o, .int .i64 a, .int .i64 b, .int .i64 c, .int .i64 d, .int .i64 e5, .int .i64 f, .int .i64 (l 0), .int .i64 (l 1), .int .i64 (l 2), .int .i64 (l 3), .int .i64 (l 4), .int .i64 (l 5), .int .i64 (l 6), .int .i64 (l 7), .int .u64 p, .int .u64 q] 53)).alloc (.cells #[.int .u64 (IntKind.u64.wrap o), .int .u64 (IntKind.u64.wrap a), .int .u64 (IntKind.u64.wrap b), .int .u64 (IntKind.u64.wrap c), .int .u64 (IntKind.u64.wrap d), .int .u64 (IntKind.u64.wrap e5), .int .u64 (IntKind.u64.wrap f)] 34)).heap[w.heap.size]? = some (.cells #[.int .i64 o, .int .i64 a, .int .i64 b, .int .i64 c, .int .i64 d, .int .i64 e5, .int .i64 f, .int .i64 (l 0), .int .i64 (l 1), .int .i64 (l 2), .int .i64 (l 3), .int .i64 (l 4), .int .i64 (l 5), .int .i64 (l 6), .int .i64 (l 7), .int .u64 p, .int .u64 q] 53 (0, 0)) := (heap_alloc_old _ _ (by simp)).trans (heap_new _ _)
  have hn : ((w.alloc (.cells #[.int .i64 o, .int .i64 a, .int .i64 b, .int .i64 c, .int .i64 d, .int .i64 e5, .int .i64 f, .int .i64 (l 0), .int .i64 (l 1), .int .i64 (l 2), .int .i64 (l 3), .int .i64 (l 4), .int .i64 (l 5), .int .i64 (l 6), .int .i64 (l 7), .int .u64 p, .int .u64 q] 53)).alloc (.cells #[.int .u64 (IntKind.u64.wrap o), .int .u64 (IntKind.u64.wrap a), .int .u64 (IntKind.u64.wrap b), .int .u64 (IntKind.u64.wrap c), .int .u64 (IntKind.u64.wrap d), .int .u64 (IntKind.u64.wrap e5), .int .u64 (IntKind.u64.wrap f)] 34)).heap[w.heap.size + 1]? = some (.cells #[.int .u64 (IntKind.u64.wrap o), .int .u64 (IntKind.u64.wrap a), .int .u64 (IntKind.u64.wrap b), .int .u64 (IntKind.u64.wrap c), .int .u64 (IntKind.u64.wrap d), .int .u64 (IntKind.u64.wrap e5), .int .u64 (IntKind.u64.wrap f)] 34 (0, 0)) := new_at _ _ (Deep.nblk_alloc _ _)
  have hO : OwnK .u64 34 (w.heap.size + 1) ((w.alloc (.cells #[.int .i64 o, .int .i64 a, .int .i64 b, .int .i64 c, .int .i64 d, .int .i64 e5, .int .i64 f, .int .i64 (l 0), .int .i64 (l 1), .int .i64 (l 2), .int .i64 (l 3), .int .i64 (l 4), .int .i64 (l 5), .int .i64 (l 6), .int .i64 (l 7), .int .u64 p, .int .u64 q] 53)).alloc (.cells #[.int .u64 (IntKind.u64.wrap o), .int .u64 (IntKind.u64.wrap a), .int .u64 (IntKind.u64.wrap b), .int .u64 (IntKind.u64.wrap c), .int .u64 (IntKind.u64.wrap d), .int .u64 (IntKind.u64.wrap e5), .int .u64 (IntKind.u64.wrap f)] 34)) (.slice (some ⟨w.heap.size + 1, 0, none⟩) 7 7) [IntKind.u64.wrap o, IntKind.u64.wrap a, IntKind.u64.wrap b, IntKind.u64.wrap c, IntKind.u64.wrap d, IntKind.u64.wrap e5, IntKind.u64.wrap f] :=
    ⟨by simp, Or.inr ⟨w.heap.size + 1, 7, _, rfl, Nat.le_refl _, hn, Nat.le_refl _, by unfold maxLen; omega, by simp, by simp⟩⟩
  have HB := hideIt hb
  have HX := hideIt hx
  have HO := hideIt hO
  have hs : w.heap.size + 1 ≤ ((w.alloc (.cells #[.int .i64 o, .int .i64 a, .int .i64 b, .int .i64 c, .int .i64 d, .int .i64 e5, .int .i64 f, .int .i64 (l 0), .int .i64 (l 1), .int .i64 (l 2), .int .i64 (l 3), .int .i64 (l 4), .int .i64 (l 5), .int .i64 (l 6), .int .i64 (l 7), .int .u64 p, .int .u64 q] 53)).alloc (.cells #[.int .u64 (IntKind.u64.wrap o), .int .u64 (IntKind.u64.wrap a), .int .u64 (IntKind.u64.wrap b), .int .u64 (IntKind.u64.wrap c), .int .u64 (IntKind.u64.wrap d), .int .u64 (IntKind.u64.wrap e5), .int .u64 (IntKind.u64.wrap f)] 34)).heap.size := by simp
  clear hb hx hn hO
  show Calls Tryz.prog 58 #[.agg #[.int .i64 o, .int .i64 a, .int .i64 b, .int .i64 c, .int .i64 d, .int .i64 e5, .int .i64 f, .int .i64 (l 0), .int .i64 (l 1), .int .i64 (l 2), .int .i64 (l 3), .int .i64 (l 4), .int .i64 (l 5), .int .i64 (l 6), .int .i64 (l 7), .int .u64 p, .int .u64 q]] w _
  go_enter Tryz.func58, Tryz.ntmps58
  go_wp2_with fail
  generalize (w.alloc (.cells #[.int .i64 o, .int .i64 a, .int .i64 b, .int .i64 c, .int .i64 d, .int .i64 e5, .int .i64 f, .int .i64 (l 0), .int .i64 (l 1), .int .i64 (l 2), .int .i64 (l 3), .int .i64 (l 4), .int .i64 (l 5), .int .i64 (l 6), .int .i64 (l 7), .int .u64 p, .int .u64 q] 53)).alloc (.cells #[.int .u64 (IntKind.u64.wrap o), .int .u64 (IntKind.u64.wrap a), .int .u64 (IntKind.u64.wrap b), .int .u64 (IntKind.u64.wrap c), .int .u64 (IntKind.u64.wrap d), .int .u64 (IntKind.u64.wrap e5), .int .u64 (IntKind.u64.wrap f)] 34) = w2 at *
  go_loopw [3, 30] (fun v3 v30 wr => ∃ (k : Nat) (bs : List Int), v30 = .int .i64 (k : Int) ∧ k ≤ 8 ∧ bs = [IntKind.u64.wrap o, IntKind.u64.wrap a, IntKind.u64.wrap b, IntKind.u64.wrap c, IntKind.u64.wrap d, IntKind.u64.wrap e5, IntKind.u64.wrap f] ++ (List.range k).map (fun j => IntKind.u64.wrap (l j)) ∧ OwnK .u64 34 (w.heap.size + 1) wr v3 bs ∧ Below w.heap.size w wr ∧ w.heap.size + 1 ≤ wr.heap.size ∧ wr.heap[w.heap.size]? = some (.cells #[.int .i64 o, .int .i64 a, .int .i64 b, .int .i64 c, .int .i64 d, .int .i64 e5, .int .i64 f, .int .i64 (l 0), .int .i64 (l 1), .int .i64 (l 2), .int .i64 (l 3), .int .i64 (l 4), .int .i64 (l 5), .int .i64 (l 6), .int .i64 (l 7), .int .u64 p, .int .u64 q] 53 (0, 0))) (fun _ v30 _ => 8 - (intOf v30).toNat)
  case atStart => exact ⟨0, _, rfl, Nat.zero_le _, rfl, HO.out, HB.out, hs, HX.out⟩
  case round =>
    obtain ⟨k, bs, rfl, hk, hbs, hown, hbw, hsz, hx⟩ := hrel
    have HOw := hideIt hown
    have HBw := hideIt hbw
    have HXw := hideIt hx
    obtain ⟨ad, cap, rfl⟩ := hown.shape
    have hbl : bs.length ≤ 20 := by rw [hbs]; simp; omega
    have HBs := hideIt hbs
    clear hbs
    have x15 := box_cell hx 15
    have x16 := box_cell hx 16
    simp only [List.getElem?_toArray, List.getElem?_cons_succ, List.getElem?_cons_zero] at x15 x16
    clear hown hbw hx
    by_cases hlt : k < 8
    · have hix := fun w => ix51 l hlt w
      have hk' : (k : Int) < 8 := by omega
      clear x15 x16
      go_wp2_with ((at_builtin; refine wpList_append_own_at _ rfl (.tmp 33) (.tmp 36) 35 rfl (w.heap.size + 1) 34 i0 (.int .u64 0) 1 8 Tryz.underlying35 hi0 hz0 hz1 hz2 rfl (by decide) _ _ _ rfl (HOw.out.alloc _) ⟨wr.heap.size, 0, none⟩ 1 1 [.int .u64 (IntKind.u64.wrap (l k))] rfl rfl (new_one wr _ rfl _ _) (ones _ _) (by unfold maxLen; omega) (by omega) (by simp; omega) ?_; intro b1 w4 hown1 hgrow1 _ hwh1))
      obtain ⟨o1, _⟩ := OwnK.app (xs := [IntKind.u64.wrap (l k)]) hown1 rfl hgrow1 hwh1
      have hb4 := OwnK.belowOf HOw.out hgrow1 (Nat.le_refl _) hsz
      exact ⟨⟨k + 1, bs ++ [IntKind.u64.wrap (l k)], by go_num, by omega, by rw [HBs.out, List.range_succ, List.map_append, List.append_assoc]; rfl, o1, HBw.out.trans (hb4.mono (by omega)), Nat.le_trans hsz hb4.size, (hb4.block w.heap.size (by omega)).trans HXw.out⟩, by simp [intOf]; omega⟩
    · obtain rfl : k = 8 := by omega
      clear hk hlt
      go_wp2_with ((at_builtin; go_loud (refine wpList_append_own_at _ rfl (.tmp 39) (.tmp 44) 35 rfl (w.heap.size + 1) 34 i0 (.int .u64 0) 1 8 Tryz.underlying35 hi0 hz0 hz1 hz2 rfl (by decide) _ _ _ rfl (HOw.out.alloc _) ⟨wr.heap.size, 0, none⟩ 2 2 [.int .u64 p, .int .u64 q] rfl rfl (new_two wr _ rfl _ _ _) (twos _ _ _) (by unfold maxLen; omega) (by omega) (by simp; omega) ?_; intro b1 w4 hown1 hgrow1 _ hwh1; (obtain ⟨o1, _⟩ := OwnK.app (xs := [p, q]) hown1 rfl hgrow1 hwh1; have HB4 := hideIt (HBw.out.trans ((OwnK.belowOf HOw.out hgrow1 (Nat.le_refl _) hsz).mono (Nat.le_succ _))); obtain ⟨ad1, cap1, rfl⟩ := o1.shape; have HU1 := hideIt (IsU.of_own o1); clear hown1 hgrow1 hwh1 o1))))
      go_ret
      refine ⟨_, rfl, ?_, HB4.out⟩
      have h1 : Sq w.heap.size w4 (.slice ad1 (bs.length + 2) cap1) (bs ++ [p, q]).length ((bs ++ [p, q]).map (.int .u64)) := by
        have h0 := Sq.mono HU1.out (Nat.le_succ w.heap.size)
        rw [show (bs ++ [p, q]).length = bs.length + 2 by simp] at h0 ⊢
        exact h0
      show IsU w.heap.size w4 (.slice ad1 (bs.length + 2) cap1) _
      rw [show svL o a b c d e5 f l p q = bs ++ [p, q] by rw [HBs.out]; rfl]
      exact h1
end
end Go.Proofs.Qxb6500847aGreatDoor.Os
