/-
  The decoder's state, and the walk of 'entry' at a free entry.
-/
import Derived.Test.Qxb6500847aGreatDoorFloorB
namespace Go.Proofs.Qxb6500847aGreatDoor.FloorA
open Go.RowKit
set_option maxRecDepth 100000

/-- The decoder lies in block D, its arena in block A, the image's bytes in block g; below B nothing has turned since W0. -/
structure Dec (W0 : World) (B D A g n cap p : Nat) (w : World) : Prop where
  below : Below B W0 w
  gB : g < B
  DB : B ≤ D
  AB : B ≤ A
  ne : D ≠ A
  buf : w.cell? ⟨D, 0, none⟩ = some (.slice (some ⟨g, 0, none⟩) n cap)
  pos : w.cell? ⟨D, 1, none⟩ = some (.int .i64 p)
  err : w.cell? ⟨D, 2, none⟩ = some (.pointer none)
  ar : w.cell? ⟨D, 3, none⟩ = some (.pointer (some ⟨A, 0, none⟩))
  at' : ∀ i, i < 320 → ∃ x, w.cell? ⟨D, 4 + i, none⟩ = some x
  free : ∀ i, i < 324 → w.frozen? ⟨D, i, none⟩ = false
  head : ∀ i, i < 320 → ∃ x, w.cell? ⟨A, i * 8, none⟩ = some x
  hfree : ∀ i, i < 320 → w.frozen? ⟨A, i * 8, none⟩ = false

theorem set_same {w : World} {a : Addr} {v u : Value} (h : w.cell? a = some u) : (w.setCell a v).cell? a = some v := by
  exact World.cell?_setCell_same (w := w) (a := a) (v := v) (u := u) h
theorem set_other {w : World} {a b : Addr} {v : Value} (h : a ≠ b) : (w.setCell a v).cell? b = w.cell? b := by
  exact World.cell?_setCell_other (w := w) (a := a) (b := b) (v := v) h

section
variable {W0 w : World} {B D A g n cap p : Nat}
theorem Dec.drewN (h : Dec W0 B D A g n cap p w) (q : Nat) : Dec W0 B D A g n cap p (w.drewN q) :=
  ⟨below_drewN h.below q, h.gB, h.DB, h.AB, h.ne, h.buf, h.pos, h.err, h.ar, h.at', h.free, h.head, h.hfree⟩
theorem some_set {w : World} {p q : Addr} {u : Value} (h : ∃ x, w.cell? q = some x) : ∃ x, (w.setCell p u).cell? q = some x := by
  obtain ⟨x, hx⟩ := h
  by_cases e : p = q
  · subst e; exact ⟨u, set_same hx⟩
  · exact ⟨x, by rw [set_other e]; exact hx⟩
theorem Dec.setPos (h : Dec W0 B D A g n cap p w) (p' : Nat) : Dec W0 B D A g n cap p' (w.setCell ⟨D, 1, none⟩ (.int .i64 p')) := by
  refine ⟨h.below.setCell h.DB _, h.gB, h.DB, h.AB, h.ne, ?_, set_same h.pos, ?_, ?_, fun i hi => some_set (h.at' i hi), fun i hi => by rw [World.frozen?_setCell]; exact h.free i hi, fun i hi => some_set (h.head i hi), fun i hi => by rw [World.frozen?_setCell]; exact h.hfree i hi⟩
  · rw [set_other (by simp)]; exact h.buf
  · rw [set_other (by simp)]; exact h.err
  · rw [set_other (by simp)]; exact h.ar
theorem Dec.setAt (h : Dec W0 B D A g n cap p w) (i : Nat) (u : Value) : Dec W0 B D A g n cap p (w.setCell ⟨D, 4 + i, none⟩ u) := by
  refine ⟨h.below.setCell h.DB _, h.gB, h.DB, h.AB, h.ne, ?_, ?_, ?_, ?_, fun j hj => some_set (h.at' j hj), fun i hi => by rw [World.frozen?_setCell]; exact h.free i hi, fun i hi => some_set (h.head i hi), fun i hi => by rw [World.frozen?_setCell]; exact h.hfree i hi⟩
  · rw [set_other (by simp)]; exact h.buf
  · rw [set_other (by simp)]; exact h.pos
  · rw [set_other (by simp)]; exact h.err
  · rw [set_other (by simp)]; exact h.ar
theorem Dec.setHead (h : Dec W0 B D A g n cap p w) (o : Nat) (u : Value) : Dec W0 B D A g n cap p (w.setCell ⟨A, o, none⟩ u) := by
  have hne := h.ne
  refine ⟨h.below.setCell h.AB _, h.gB, h.DB, h.AB, h.ne, ?_, ?_, ?_, ?_, fun j hj => some_set (h.at' j hj), fun i hi => by rw [World.frozen?_setCell]; exact h.free i hi, fun i hi => some_set (h.head i hi), fun i hi => by rw [World.frozen?_setCell]; exact h.hfree i hi⟩
  · rw [set_other (fun e => hne (congrArg Addr.block e).symm)]; exact h.buf
  · rw [set_other (fun e => hne (congrArg Addr.block e).symm)]; exact h.pos
  · rw [set_other (fun e => hne (congrArg Addr.block e).symm)]; exact h.err
  · rw [set_other (fun e => hne (congrArg Addr.block e).symm)]; exact h.ar
theorem UvAt.below {w' : World} {L m : Nat} {v : Int} (h : UvAt W0 g p L v m) (hb : Below B W0 w') (hg : g < B) : UvAt w' g p L v m := by
  have e : ∀ o, w'.cell? ⟨g, o, none⟩ = W0.cell? ⟨g, o, none⟩ := fun o => hb.cell hg
  rcases h with ⟨h0, h1, h2, h3, h4⟩ | ⟨h0, h1, h2, h3, h4, h5⟩
  · exact .inl ⟨h0, h1, h2, h3, by rw [e]; exact h4⟩
  · exact .inr ⟨h0, h1, h2, h3, by rw [e]; exact h4, by rw [e]; exact h5⟩
end

theorem number_dec {W0 w : World} {B D A g n cap p m : Nat} {v most : Int} {what : ByteArray} (hd : Dec W0 B D A g n cap p w) (hp : p < n) (hn : n ≤ 100000) (hcap : n ≤ cap) (huv : UvAt W0 g p (n - p) v m) (hmost : v ≤ most) :
    Calls Tryz.prog 103 #[.pointer (some ⟨D, 0, none⟩), .string what, .int .u64 most] w
      fun e w' => e = .returned (.int .u64 v) ∧ Dec W0 B D A g n cap (p + m) w' := by
  have hm : m ≤ 2 := by rcases huv with ⟨rfl, _⟩ | ⟨rfl, _⟩ <;> omega
  refine (number_any D g p n cap v most m what w hd.buf hd.pos hd.err (hd.free 1 (by omega)) hp hn hcap (huv.below hd.below hd.gB) hm hmost).mono ?_
  rintro e w' ⟨rfl, q, rfl⟩
  refine ⟨rfl, ?_⟩
  have := (hd.drewN q).setPos (p + m)
  simpa using this

theorem setFreeGen_dec {W0 w : World} {B D A g n cap p idx : Nat} {gen : Int} (hd : Dec W0 B D A g n cap p w) (h1 : idx < 320) (hg0 : 0 ≤ gen) (hg1 : gen < 4294967295) :
    Calls Tryz.prog 105 #[.pointer (some ⟨A, 0, none⟩), .int .u16 (idx : Int), .int .u32 gen] w
      fun e w' => e = .returned (.tuple #[]) ∧ Dec W0 B D A g n cap p w' := by
  obtain ⟨x, hx⟩ := hd.head idx h1
  refine (setFreeGen_any A (idx : Int) gen x w (by omega) (by omega) hg0 hg1 (by simpa using hx) (by simpa using hd.hfree idx h1)).mono ?_
  rintro e w' ⟨rfl, rfl⟩
  exact ⟨rfl, hd.setHead _ _⟩

set_option maxHeartbeats 1600000 in
/-- A free entry, one generation above the floor, is taken. -/
theorem entry_free {W0 w : World} {B D A g n cap p next : Nat} (hd : Dec W0 B D A g n cap p w) (hp : p + 3 ≤ n) (hn : n ≤ 100000) (hcap : n ≤ cap) (hnext : next < 320)
    (h0 : UvAt W0 g p (n - p) 0 1) (h1 : UvAt W0 g (p + 1) (n - (p + 1)) 1 1) (h2 : UvAt W0 g (p + 1 + 1) (n - (p + 1 + 1)) 0 1) :
    Calls Tryz.prog 106 #[.pointer (some ⟨D, 0, none⟩), .int .i64 next, .int .u32 1] w
      fun e w' => e = .returned (.tuple #[.int .i64 next, .int .u64 1]) ∧ Dec W0 B D A g n cap (p + 3) w' := by
  have HD := hideIt hd
  have H0 := hideIt h0
  have H1 := hideIt h1
  have H2 := hideIt h2
  have d1 := hd.pos
  have d2 := hd.err
  have hlt : (next : Int) < 320 := by omega
  clear hd h0 h1 h2
  go_enter Tryz.func106, Tryz.ntmps106
  go_wp2_with fail
  refine (number_dec HD.out (by omega) hn hcap H0.out (by omega)).mono ?_
  rintro e w1 ⟨rfl, hd1⟩
  have HD1 := hideIt hd1
  clear hd1
  go_wp2_with fail
  refine (number_dec HD1.out (by omega) hn hcap H1.out (by omega)).mono ?_
  rintro e w2 ⟨rfl, hd2⟩
  have HD2 := hideIt hd2
  clear hd2
  go_wp2_with fail
  refine (number_dec HD2.out (by omega) hn hcap H2.out (by omega)).mono ?_
  rintro e w3 ⟨rfl, hd3⟩
  have HD3 := hideIt hd3
  have e1 := hd3.err
  have e2 := hd3.ar
  obtain ⟨x, e3⟩ := hd3.at' next hnext
  have e4 := hd3.free (4 + next) (by omega)
  clear hd3
  go_wp2_with fail
  refine (setFreeGen_dec (HD3.out.setAt next _) hnext (by omega) (by omega)).mono ?_
  rintro e w4 ⟨rfl, hd4⟩
  have HD4 := hideIt hd4
  clear hd4
  go_wp2_with fail
  go_ret2
  exact ⟨rfl, HD4.out⟩

theorem cell_of_two {w : World} {b : Nat} {u v : Value} {t : TypeId} (h : w.heap[b]? = some (.cells #[u, v] t (0, 0))) : w.cell? ⟨b, 0, none⟩ = some u ∧ w.cell? ⟨b, 1, none⟩ = some v := by
  simp [World.cell?, h]

/-- The decoder behind a fault: its third cell points to the fault, in a new block. -/
structure Fault (W0 : World) (B D : Nat) (w : World) : Prop where
  below : Below B W0 w
  where' : ∃ b off s, w.cell? ⟨D, 2, none⟩ = some (.pointer (some ⟨b, 0, none⟩)) ∧ w.cell? ⟨b, 0, none⟩ = some (.int .i64 off) ∧ w.cell? ⟨b, 1, none⟩ = some (.string s)

theorem fail_dec {W0 w : World} {B D A g n cap p : Nat} {at' : Int} {s : ByteArray} (hd : Dec W0 B D A g n cap p w) :
    Calls Tryz.prog 104 #[.pointer (some ⟨D, 0, none⟩), .int .i64 at', .string s] w fun e w' => e = .returned (.tuple #[]) ∧ Fault W0 B D w' := by
  refine (fail_any D at' s w hd.err (hd.free 2 (by omega))).mono ?_
  rintro e w' ⟨rfl, rfl⟩
  have hlt : D < w.heap.size := cell_lt hd.err
  have hB : B ≤ w.heap.size := by have := hd.DB; omega
  refine ⟨rfl, (hd.below.setCell hd.DB _).alloc (by simp; omega) _, w.heap.size, at', s, ?_, ?_, ?_⟩
  · have e : ((w.setCell ⟨D, 2, none⟩ (.pointer (some ⟨w.heap.size, 0, none⟩))).alloc (.cells #[.int .i64 at', .string s] 220)).cell? ⟨D, 2, none⟩ = (w.setCell ⟨D, 2, none⟩ (.pointer (some ⟨w.heap.size, 0, none⟩))).cell? ⟨D, 2, none⟩ :=
      World.cell?_of_block (heap_alloc_old _ _ (by simp; omega))
    rw [e]
    exact set_same hd.err
  · have h := heap_alloc_new (w.setCell ⟨D, 2, none⟩ (.pointer (some ⟨w.heap.size, 0, none⟩))) (.cells #[.int .i64 at', .string s] 220)
    rw [show (w.setCell ⟨D, 2, none⟩ (.pointer (some ⟨w.heap.size, 0, none⟩))).heap.size = w.heap.size by simp] at h
    exact (cell_of_two h).1
  · have h := heap_alloc_new (w.setCell ⟨D, 2, none⟩ (.pointer (some ⟨w.heap.size, 0, none⟩))) (.cells #[.int .i64 at', .string s] 220)
    rw [show (w.setCell ⟨D, 2, none⟩ (.pointer (some ⟨w.heap.size, 0, none⟩))).heap.size = w.heap.size by simp] at h
    exact (cell_of_two h).2

set_option maxHeartbeats 1600000 in
/-- A free entry at the floor itself is refused. -/
theorem entry_floor {W0 w : World} {B D A g n cap p next : Nat} (hd : Dec W0 B D A g n cap p w) (hp : p + 3 ≤ n) (hn : n ≤ 100000) (hcap : n ≤ cap) (hnext : next < 320)
    (h0 : UvAt W0 g p (n - p) 0 1) (h1 : UvAt W0 g (p + 1) (n - (p + 1)) 0 1) (h2 : UvAt W0 g (p + 1 + 1) (n - (p + 1 + 1)) 0 1) :
    Calls Tryz.prog 106 #[.pointer (some ⟨D, 0, none⟩), .int .i64 next, .int .u32 1] w
      fun e w' => ∃ v, e = .returned (.tuple #[.int .i64 next, .int .u64 v]) ∧ Fault W0 B D w' := by
  have HD := hideIt hd
  have H0 := hideIt h0
  have H1 := hideIt h1
  have H2 := hideIt h2
  have d1 := hd.pos
  have d2 := hd.err
  have hlt : (next : Int) < 320 := by omega
  clear hd h0 h1 h2
  go_enter Tryz.func106, Tryz.ntmps106
  go_wp2_with fail
  refine (number_dec HD.out (by omega) hn hcap H0.out (by omega)).mono ?_
  rintro e w1 ⟨rfl, hd1⟩
  have HD1 := hideIt hd1
  clear hd1
  go_wp2_with fail
  refine (number_dec HD1.out (by omega) hn hcap H1.out (by omega)).mono ?_
  rintro e w2 ⟨rfl, hd2⟩
  have HD2 := hideIt hd2
  clear hd2
  go_wp2_with fail
  refine (number_dec HD2.out (by omega) hn hcap H2.out (by omega)).mono ?_
  rintro e w3 ⟨rfl, hd3⟩
  have HD3 := hideIt hd3
  have e1 := hd3.err
  obtain ⟨x, e3⟩ := hd3.at' next hnext
  have e4 := hd3.free (4 + next) (by omega)
  clear hd3
  go_wp2_with fail
  refine (fail_dec (HD3.out.setAt next _)).mono ?_
  rintro e w4 ⟨rfl, hd4⟩
  have HD4 := hideIt hd4
  clear hd4
  go_wp2_with fail
  go_ret2
  exact ⟨0, rfl, HD4.out⟩
end Go.Proofs.Qxb6500847aGreatDoor.FloorA
