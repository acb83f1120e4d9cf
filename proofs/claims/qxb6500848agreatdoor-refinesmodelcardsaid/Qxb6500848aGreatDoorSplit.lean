/-
  split.
-/
import Derived.Test.Qxb6500848aGreatDoorSetsB
namespace Go.Proofs.Qxb6500848aGreatDoor.Pl

theorem countP_two {α : Type} (p q r : α → Bool) (h : ∀ i, r i = (p i || q i)) (h2 : ∀ i, (p i && q i) = false) : ∀ l : List α, l.countP p + l.countP q = l.countP r
  | [] => by simp
  | a :: l => by
    have ih := countP_two p q r h h2 l
    have e := h a
    have e2 := h2 a
    rw [List.countP_cons, List.countP_cons, List.countP_cons]
    cases hp : p a <;> cases hq : q a <;> simp [hp, hq] at e e2 <;> simp [e] <;> omega

theorem popc_split (a b : Nat) : popc (a &&& b) + popc (a ^^^ (a &&& b)) = popc a := by
  unfold popc
  refine countP_two _ _ _ (fun i => ?_) (fun i => ?_) _
  · rw [Nat.testBit_and, Nat.testBit_xor, Nat.testBit_and]
    cases a.testBit i <;> cases b.testBit i <;> rfl
  · rw [Nat.testBit_and, Nat.testBit_xor, Nat.testBit_and]
    cases a.testBit i <;> cases b.testBit i <;> rfl

def andL (s t : List Nat) : List Nat := List.zipWith (fun a b => a &&& b) s t
def outL (s t : List Nat) : List Nat := List.zipWith (fun a b => a ^^^ (a &&& b)) s t

theorem cnt_split : ∀ (s t : List Nat), s.length = t.length → cnt (andL s t) + cnt (outL s t) = cnt s
  | [], _, _ => by simp [andL, outL, cnt]
  | a :: s, [], h => by simp at h
  | a :: s, b :: t, h => by
    have ih := cnt_split s t (by simpa using h)
    have := popc_split a b
    simp only [andL, outL, cnt, List.zipWith_cons_cons, List.map_cons, List.sum_cons] at *
    omega

theorem popc_pos {a : Nat} (h : popc a ≠ 0) : a ≠ 0 := fun e => h (by subst e; simp [popc])
theorem cnt_pos : ∀ {l : List Nat}, cnt l ≠ 0 → ∃ b ∈ l, b ≠ 0
  | [], h => absurd rfl h
  | a :: l, h => by
    by_cases e : popc a = 0
    · obtain ⟨b, hb, h0⟩ := cnt_pos (l := l) (fun e2 => h (by unfold cnt at *; simp [e, e2]))
      exact ⟨b, List.mem_cons_of_mem _ hb, h0⟩
    · exact ⟨a, by simp, popc_pos e⟩
end Go.Proofs.Qxb6500848aGreatDoor.Pl

namespace Go.Proofs.Qxb6500848aGreatDoor
open Go.RowKit Pl
set_option maxRecDepth 100000

theorem andnot_nat (a b : Nat) (ha : a < 2 ^ 64) (hb : b < 2 ^ 64) : Go.bits .andNot .u64 (a : Int) (b : Int) = ((a ^^^ (a &&& b) : Nat) : Int) := by
  have e : Go.bits .andNot .u64 (a : Int) (b : Int) = IntKind.u64.wrap (((BitVec.ofInt 64 (a : Int)).toNat &&& (2 ^ 64 - 1 - (BitVec.ofInt 64 (b : Int)).toNat) : Nat) : Int) := by
    show IntKind.u64.wrap ((BitVec.ofInt 64 (a : Int) &&& ~~~ BitVec.ofInt 64 (b : Int)).toNat : Int) = _
    rw [BitVec.toNat_and, BitVec.toNat_not]
  rw [e, BitVec.ofInt_natCast, BitVec.toNat_ofNat, Nat.mod_eq_of_lt ha, BitVec.ofInt_natCast, BitVec.toNat_ofNat, Nat.mod_eq_of_lt hb]
  have e2 : a &&& (2 ^ 64 - 1 - b) = a ^^^ (a &&& b) := by
    apply Nat.eq_of_testBit_eq
    intro i
    have h1 : 2 ^ 64 - 1 - b = 2 ^ 64 - (b + 1) := by omega
    rw [Nat.testBit_and, Nat.testBit_xor, Nat.testBit_and, h1, Nat.testBit_two_pow_sub_succ hb]
    by_cases hi : i < 64
    · simp only [hi, decide_true, Bool.true_and]
      cases a.testBit i <;> cases b.testBit i <;> rfl
    · have h2 : a.testBit i = false := Nat.testBit_lt_two_pow (Nat.lt_of_lt_of_le ha (Nat.pow_le_pow_right (by decide) (by omega)))
      simp [h2]
  rw [e2]
  have h3 : a ^^^ (a &&& b) < 2 ^ 64 := Nat.xor_lt_two_pow ha (Nat.and_lt_two_pow a hb)
  generalize a ^^^ (a &&& b) = r at *
  simp [IntKind.wrap, IntKind.bits, IntKind.signed]; omega

/-- The first k words of l, then 0s. -/
def upTo (l : List Nat) (k : Nat) : List Nat := (List.range 3072).map fun j => if j < k then l.getD j 0 else 0
theorem upTo_len (l : List Nat) (k : Nat) : (upTo l k).length = 3072 := by rw [upTo, List.length_map, List.length_range]
theorem upTo_get (l : List Nat) (k j : Nat) (h : j < 3072) : (upTo l k)[j]'(by rw [upTo_len]; exact h) = if j < k then l.getD j 0 else 0 := by
  unfold upTo
  rw [List.getElem_map, List.getElem_range]
theorem upTo_zero (l : List Nat) : upTo l 0 = List.replicate 3072 0 := by
  apply List.ext_getElem
  · rw [upTo_len, List.length_replicate]
  · intro j h1 h2
    rw [upTo_get l 0 j (by rw [upTo_len] at h1; exact h1), List.getElem_replicate]
    rfl
theorem upTo_set (l : List Nat) (k : Nat) (hl : k < l.length) : (upTo l k).set k l[k] = upTo l (k + 1) := by
  apply List.ext_getElem
  · rw [List.length_set, upTo_len, upTo_len]
  · intro j h1 h2
    have hj : j < 3072 := by rw [upTo_len] at h2; exact h2
    rw [List.getElem_set, upTo_get l (k + 1) j hj]
    by_cases e : k = j
    · subst e
      rw [if_pos rfl, if_pos (by omega), getD_lt hl]
    · rw [if_neg e, upTo_get l k j hj]
      by_cases h : j < k
      · rw [if_pos h, if_pos (by omega)]
      · rw [if_neg h, if_neg (by omega)]
theorem upTo_all (l : List Nat) (hl : l.length = 3072) : upTo l 3072 = l := by
  apply List.ext_getElem
  · rw [upTo_len, hl]
  · intro j h1 h2
    have hj : j < 3072 := by rw [upTo_len] at h1; exact h1
    rw [upTo_get l 3072 j hj, if_pos hj, getD_lt h2]
theorem andL_len {s t : List Nat} (hs : Cl s) (ht : Cl t) : (andL s t).length = 3072 := by rw [andL, List.length_zipWith, hs.1, ht.1]; rfl
theorem outL_len {s t : List Nat} (hs : Cl s) (ht : Cl t) : (outL s t).length = 3072 := by rw [outL, List.length_zipWith, hs.1, ht.1]; rfl

theorem WB.alloc {w : World} {b : Nat} {l : List Nat} (h : WB w b l) (o : Obj) : WB (w.alloc o) b l := (Deep.blk_alloc_lt w o b (heap_lt h)).trans h

/-- Two new rows. -/
def Two (s t : List Nat) (w : World) (e : Ending) (w' : World) : Prop := ∃ b1 b2, e = .returned (.tuple #[.slice (some ⟨b1, 0, none⟩) 3072 3072, .slice (some ⟨b2, 0, none⟩) 3072 3072]) ∧ WB w' b1 (andL s t) ∧ WB w' b2 (outL s t) ∧ w.heap.size ≤ b1 ∧ w.heap.size ≤ b2 ∧ Below w.heap.size w w'

set_option maxHeartbeats 4000000 in
theorem split_walk {X Y : Nat → Prop} {w : World} {v1 v2 : Value} {s t : List Nat} (h1 : Words X w v1 s) (h2 : Words Y w v2 t) (hs : Cl s) (ht : Cl t) :
    Calls Tryz.prog 70 #[v1, v2] w (Two s t w) := by
  have hm1 := run_make_row' (P := Tryz.prog) 53 120 (.int .u64 0) 8 Tryz.underlying53 info_u64 rfl .i64 .i64 3072 (by omega) (by omega)
  rw [show ((3072 : Nat) : Int) = 3072 from rfl] at hm1
  obtain ⟨ad1, cap1, rfl, _, _, q1⟩ := h1
  obtain ⟨ad2, cap2, rfl, _, _, q2⟩ := h2
  obtain ⟨g1, o1, rfl, _, hc1⟩ := q1 (fun e => by have := hs.1; rw [e] at this; cases this)
  obtain ⟨g2, o2, rfl, _, hc2⟩ := q2 (fun e => by have := ht.1; rw [e] at this; cases this)
  have gl1 : g1 < w.heap.size := cell_lt (hc1 0 (by rw [hs.1]; decide))
  have gl2 : g2 < w.heap.size := cell_lt (hc2 0 (by rw [ht.1]; decide))
  rw [hs.1, ht.1]
  have HC1 : Hid (∀ j (h : j < s.length), w.cell? ⟨g1, o1 + j, none⟩ = some (encW s[j])) := hc1
  have HC2 : Hid (∀ j (h : j < t.length), w.cell? ⟨g2, o2 + j, none⟩ = some (encW t[j])) := hc2
  have Hs := hideIt hs
  have Ht := hideIt ht
  clear q1 q2 hc1 hc2 hs ht
  have WA1 : Hid (WB ((w.alloc (.cells (madeCells #[.int .u64 0] 3072) 120)).alloc (.cells (madeCells #[.int .u64 0] 3072) 120)).drew w.heap.size (List.replicate 3072 0)) := (WB.new w 3072).alloc _
  have WA2 : Hid (WB ((w.alloc (.cells (madeCells #[.int .u64 0] 3072) 120)).alloc (.cells (madeCells #[.int .u64 0] 3072) 120)).drew (w.heap.size + 1) (List.replicate 3072 0)) := by
    have := WB.new (w.alloc (.cells (madeCells #[.int .u64 0] 3072) 120)) 3072
    rw [Deep.nblk_alloc] at this
    exact this
  have HBel : Hid (Below w.heap.size w ((w.alloc (.cells (madeCells #[.int .u64 0] 3072) 120)).alloc (.cells (madeCells #[.int .u64 0] 3072) 120)).drew) := ((alloc_below _).trans ((alloc_below _).mono (by rw [Deep.nblk_alloc]; omega))).drew
  go_enter Tryz.func70, Tryz.ntmps70
  go_wp2_with fail
  go_region
  · go_wp2_with fail
    go_loopw [11] (fun i wr => ∃ k : Nat, k ≤ 3072 ∧ i = .int .i64 k ∧ WB wr w.heap.size (upTo (andL s t) k) ∧ WB wr (w.heap.size + 1) (upTo (outL s t) k) ∧ Below w.heap.size w wr) (fun i _ => 3072 - (intOf i).toNat)
    case atStart => exact ⟨0, by omega, rfl, by rw [upTo_zero]; exact WA1.out, by rw [upTo_zero]; exact WA2.out, HBel.out⟩
    case round =>
      obtain ⟨k, hk, rfl, hW1, hW2, hb⟩ := hrel
      by_cases hlt : k < 3072
      · have hlt' : (k : Int) < 3072 := by omega
        have c1 := (hb.cell (p := ⟨g1, o1 + k, none⟩) gl1).trans (HC1.out k (by rw [Hs.out.1]; exact hlt))
        have c2 := (hb.cell (p := ⟨g2, o2 + k, none⟩) gl2).trans (HC2.out k (by rw [Ht.out.1]; exact hlt))
        obtain ⟨d1, d2⟩ := hW1.cell (k := k) (by rw [upTo_len]; exact hlt)
        obtain ⟨d3, d4⟩ := hW2.cell (k := k) (by rw [upTo_len]; exact hlt)
        have a1 := Hs.out.2 _ (List.getElem_mem (by rw [Hs.out.1]; exact hlt : k < s.length))
        have a2 := Ht.out.2 _ (List.getElem_mem (by rw [Ht.out.1]; exact hlt : k < t.length))
        have S1 : Hid ((upTo (andL s t) k).set k (s[k]'(by rw [Hs.out.1]; exact hlt) &&& t[k]'(by rw [Ht.out.1]; exact hlt)) = upTo (andL s t) (k + 1)) := by
          show _ = _
          have := upTo_set (andL s t) k (by rw [andL_len Hs.out Ht.out]; exact hlt)
          simpa [andL] using this
        have S2 : Hid ((upTo (outL s t) k).set k (s[k]'(by rw [Hs.out.1]; exact hlt) ^^^ (s[k]'(by rw [Hs.out.1]; exact hlt) &&& t[k]'(by rw [Ht.out.1]; exact hlt))) = upTo (outL s t) (k + 1)) := by
          show _ = _
          have := upTo_set (outL s t) k (by rw [outL_len Hs.out Ht.out]; exact hlt)
          simpa [outL] using this
        generalize s[k]'(by rw [Hs.out.1]; exact hlt) = x at *
        generalize t[k]'(by rw [Ht.out.1]; exact hlt) = y at *
        generalize (upTo (andL s t) k)[k]'(by rw [upTo_len]; exact hlt) = u1 at d1
        generalize (upTo (outL s t) k)[k]'(by rw [upTo_len]; exact hlt) = u2 at d3
        have fa := and_nat x y a1 a2
        have fo := andnot_nat x y a1 a2
        have HW1 := hideIt hW1
        have HW2 := hideIt hW2
        have HB := hideIt hb
        generalize x &&& y = z1 at *
        generalize x ^^^ z1 = z2 at *
        clear hW1 hW2 hb a1 a2
        go_wp2_with fail
        go_region
        go_wp2_with fail
        go_region
        go_wp2_with fail
        go_roundw
        case rel => exact ⟨k + 1, by omega, by go_num, S1.out ▸ ((HW1.out.set k z1).other (by omega) k _), S2.out ▸ ((HW2.out.other (by omega) k _).set k z2), (Below.setCell (p := ⟨(w.heap.size + 1), k, none⟩) (Below.setCell (p := ⟨w.heap.size, k, none⟩) HB.out.drew (by show w.heap.size ≤ w.heap.size; omega) _).drew (by show w.heap.size ≤ (w.heap.size + 1); omega) _)⟩
        case measure => simp [intOf]; omega
      · obtain rfl : k = 3072 := by omega
        have HW1 : Hid (WB wr w.heap.size (andL s t)) := by
          rw [upTo_all _ (andL_len Hs.out Ht.out)] at hW1; exact hW1
        have HW2 : Hid (WB wr (w.heap.size + 1) (outL s t)) := by
          rw [upTo_all _ (outL_len Hs.out Ht.out)] at hW2; exact hW2
        have HB := hideIt hb
        clear hW1 hW2 hb
        go_wp2
        go_ret2
        exact ⟨_, _, rfl, HW1.out, HW2.out, by omega, by omega, HB.out⟩
  · go_wp2_with fail
    go_loopw [11] (fun i wr => ∃ k : Nat, k ≤ 3072 ∧ i = .int .i64 k ∧ WB wr (w.heap.size + 1) (upTo (andL s t) k) ∧ WB wr w.heap.size (upTo (outL s t) k) ∧ Below w.heap.size w wr) (fun i _ => 3072 - (intOf i).toNat)
    case atStart => exact ⟨0, by omega, rfl, by rw [upTo_zero]; exact WA2.out, by rw [upTo_zero]; exact WA1.out, HBel.out⟩
    case round =>
      obtain ⟨k, hk, rfl, hW1, hW2, hb⟩ := hrel
      by_cases hlt : k < 3072
      · have hlt' : (k : Int) < 3072 := by omega
        have c1 := (hb.cell (p := ⟨g1, o1 + k, none⟩) gl1).trans (HC1.out k (by rw [Hs.out.1]; exact hlt))
        have c2 := (hb.cell (p := ⟨g2, o2 + k, none⟩) gl2).trans (HC2.out k (by rw [Ht.out.1]; exact hlt))
        obtain ⟨d1, d2⟩ := hW1.cell (k := k) (by rw [upTo_len]; exact hlt)
        obtain ⟨d3, d4⟩ := hW2.cell (k := k) (by rw [upTo_len]; exact hlt)
        have a1 := Hs.out.2 _ (List.getElem_mem (by rw [Hs.out.1]; exact hlt : k < s.length))
        have a2 := Ht.out.2 _ (List.getElem_mem (by rw [Ht.out.1]; exact hlt : k < t.length))
        have S1 : Hid ((upTo (andL s t) k).set k (s[k]'(by rw [Hs.out.1]; exact hlt) &&& t[k]'(by rw [Ht.out.1]; exact hlt)) = upTo (andL s t) (k + 1)) := by
          show _ = _
          have := upTo_set (andL s t) k (by rw [andL_len Hs.out Ht.out]; exact hlt)
          simpa [andL] using this
        have S2 : Hid ((upTo (outL s t) k).set k (s[k]'(by rw [Hs.out.1]; exact hlt) ^^^ (s[k]'(by rw [Hs.out.1]; exact hlt) &&& t[k]'(by rw [Ht.out.1]; exact hlt))) = upTo (outL s t) (k + 1)) := by
          show _ = _
          have := upTo_set (outL s t) k (by rw [outL_len Hs.out Ht.out]; exact hlt)
          simpa [outL] using this
        generalize s[k]'(by rw [Hs.out.1]; exact hlt) = x at *
        generalize t[k]'(by rw [Ht.out.1]; exact hlt) = y at *
        generalize (upTo (andL s t) k)[k]'(by rw [upTo_len]; exact hlt) = u1 at d1
        generalize (upTo (outL s t) k)[k]'(by rw [upTo_len]; exact hlt) = u2 at d3
        have fa := and_nat x y a1 a2
        have fo := andnot_nat x y a1 a2
        have HW1 := hideIt hW1
        have HW2 := hideIt hW2
        have HB := hideIt hb
        generalize x &&& y = z1 at *
        generalize x ^^^ z1 = z2 at *
        clear hW1 hW2 hb a1 a2
        go_wp2_with fail
        go_region
        go_wp2_with fail
        go_region
        go_wp2_with fail
        go_roundw
        case rel => exact ⟨k + 1, by omega, by go_num, S1.out ▸ ((HW1.out.set k z1).other (by omega) k _), S2.out ▸ ((HW2.out.other (by omega) k _).set k z2), (Below.setCell (p := ⟨w.heap.size, k, none⟩) (Below.setCell (p := ⟨(w.heap.size + 1), k, none⟩) HB.out.drew (by show w.heap.size ≤ (w.heap.size + 1); omega) _).drew (by show w.heap.size ≤ w.heap.size; omega) _)⟩
        case measure => simp [intOf]; omega
      · obtain rfl : k = 3072 := by omega
        have HW1 : Hid (WB wr (w.heap.size + 1) (andL s t)) := by
          rw [upTo_all _ (andL_len Hs.out Ht.out)] at hW1; exact hW1
        have HW2 : Hid (WB wr w.heap.size (outL s t)) := by
          rw [upTo_all _ (outL_len Hs.out Ht.out)] at hW2; exact hW2
        have HB := hideIt hb
        clear hW1 hW2 hb
        go_wp2
        go_ret2
        exact ⟨_, _, rfl, HW1.out, HW2.out, by omega, by omega, HB.out⟩
end Go.Proofs.Qxb6500848aGreatDoor
