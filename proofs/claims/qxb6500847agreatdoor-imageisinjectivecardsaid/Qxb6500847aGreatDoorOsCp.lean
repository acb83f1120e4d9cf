/-
  copyPayload: the calls.
-/
import Derived.Test.Qxb6500847aGreatDoorOsTe
import Derived.Test.Qxb6500847aGreatDoorOsQf
import Derived.Test.Qxb6500847aGreatDoorOsQb
import Derived.BigQuiet
import Derived.Deep.MidRow
namespace Go.Proofs.Qxb6500847aGreatDoor.Os
open Go.RowKit FloorA
set_option maxRecDepth 100000
section
variable {A : Nat} {rb sb : Nat → Nat} {s : Av} {tl : Nat → List Int} {ws : Nat → Nat → Nat → Int} {w : World} {L : Nat → List Nat} {n : Nat}
theorem RdPost.from {t i : Nat} {g : Int} {w0 w' : World} {e : Ending} (h : RdPost t s ws i g w0 e w') (hb : Below w.heap.size w w0) : RdPost t s ws i g w e w' := ⟨Below.thr hb h.1, h.2⟩
theorem cpyX_dead {i j : Nat} {g gg : Int} (h : ¬ Live s i g) : cpyX (ob s ws) i g j gg = (stale i g, ob s ws) := by
  unfold cpyX
  rw [if_pos (stale_nz h), chk_stale h]
theorem cpyX_reg {i j : Nat} {g gg : Int} (h : Live s i g) (ht : (s.hd i).typ = 1) : cpyX (ob s ws) i g j gg = (3, ob s ws) := by
  unfold cpyX
  rw [chk_live h, if_neg (by simp), ob_at _ _ h.1, if_pos ht]
/-- A copy by way of a getter and a setter. -/
theorem cpy_set {i j t r : Nat} {g gg : Int} (hW : Wr ws) (h : Live s i g) (t6 : t < 6) (ht : (s.hd i).typ = ((t + 2 : Nat) : Int)) (hr : (s.hd i).row = (r : Int)) (r1 : r < nR t) : updS s ws j gg t (fun _ => ws t r) = cpyX (ob s ws) i g j gg := by
  have e1 : (ob s ws i).typ = ((t + 2 : Nat) : Int) := by rw [ob_at _ _ h.1]; exact ht
  have n1 : (ob s ws i).typ ≠ 1 := by rw [e1]; omega
  have ew := wds_obj (ws := ws) h.1 ht hr
  unfold cpyX
  rw [chk_live h, if_neg (by simp), if_neg n1]
  by_cases hj : Live s j gg
  · rw [chk_live hj, if_neg (by simp)]
    have e2 : (ob s ws j).typ = (s.hd j).typ := by rw [ob_at _ _ hj.1]
    by_cases q : (s.hd j).typ = ((t + 2 : Nat) : Int)
    · rw [if_neg (by rw [e1, e2, q]; simp), ew]
      unfold updS
      rw [if_pos hj, if_pos q, if_pos (hW t r t6 r1).2]
    · rw [if_pos (by rw [e1, e2]; exact q)]
      unfold updS
      rw [if_pos hj, if_neg q]
  · rw [if_pos (stale_nz hj), chk_stale hj]
    unfold updS
    rw [if_neg hj]
theorem get_at0 {W1 : World} (h : Ms w A rb sb s tl ws) (hI : IV s tl L n) (hK : Kd w) (kl : 1 < w.heap.size) (i : Nat) (g : Int) (hb : Below w.heap.size w W1) :
    Calls Tryz.prog 189 #[.pointer (some ⟨A, 0, none⟩), .agg #[.int .u16 (i : Int), .int .u32 g]] W1 (RdPost 0 s ws i g w) :=
  (get_walk0 (h.below hb) hI (hK.below hb kl) (Nat.lt_of_lt_of_le kl hb.size) i g).mono (fun _ _ q => q.from hb)
theorem set_at0 {W1 : World} (h : Ms w A rb sb s tl ws) (hI : IV s tl L n) (hW : Wr ws) (hK : Kd w) (kl : 1 < w.heap.size) (i : Nat) (g : Int) (W : Nat → Int) (hq : Wt 0 W) (hb : Below w.heap.size w W1) :
    Calls Tryz.prog 190 #[.pointer (some ⟨A, 0, none⟩), .agg #[.int .u16 (i : Int), .int .u32 g], .agg (rowL 0 W).toArray] W1 (MrPost A rb sb s tl ws (updS s ws i g 0 (fun _ => W)) w) :=
  (set_walk0 (h.below hb) hI hW (hK.below hb kl) (Nat.lt_of_lt_of_le kl hb.size) i g W hq).mono (fun _ _ q => q.from hb)
theorem get_at1 {W1 : World} (h : Ms w A rb sb s tl ws) (hI : IV s tl L n) (hK : Kd w) (kl : 1 < w.heap.size) (i : Nat) (g : Int) (hb : Below w.heap.size w W1) :
    Calls Tryz.prog 193 #[.pointer (some ⟨A, 0, none⟩), .agg #[.int .u16 (i : Int), .int .u32 g]] W1 (RdPost 1 s ws i g w) :=
  (get_walk1 (h.below hb) hI (hK.below hb kl) (Nat.lt_of_lt_of_le kl hb.size) i g).mono (fun _ _ q => q.from hb)
theorem set_at1 {W1 : World} (h : Ms w A rb sb s tl ws) (hI : IV s tl L n) (hW : Wr ws) (hK : Kd w) (kl : 1 < w.heap.size) (i : Nat) (g : Int) (W : Nat → Int) (hq : Wt 1 W) (hb : Below w.heap.size w W1) :
    Calls Tryz.prog 194 #[.pointer (some ⟨A, 0, none⟩), .agg #[.int .u16 (i : Int), .int .u32 g], .agg (rowL 1 W).toArray] W1 (MrPost A rb sb s tl ws (updS s ws i g 1 (fun _ => W)) w) :=
  (set_walk1 (h.below hb) hI hW (hK.below hb kl) (Nat.lt_of_lt_of_le kl hb.size) i g W hq).mono (fun _ _ q => q.from hb)
theorem get_at2 {W1 : World} (h : Ms w A rb sb s tl ws) (hI : IV s tl L n) (hK : Kd w) (kl : 1 < w.heap.size) (i : Nat) (g : Int) (hb : Below w.heap.size w W1) :
    Calls Tryz.prog 195 #[.pointer (some ⟨A, 0, none⟩), .agg #[.int .u16 (i : Int), .int .u32 g]] W1 (RdPost 2 s ws i g w) :=
  (get_walk2 (h.below hb) hI (hK.below hb kl) (Nat.lt_of_lt_of_le kl hb.size) i g).mono (fun _ _ q => q.from hb)
theorem set_at2 {W1 : World} (h : Ms w A rb sb s tl ws) (hI : IV s tl L n) (hW : Wr ws) (hK : Kd w) (kl : 1 < w.heap.size) (i : Nat) (g : Int) (W : Nat → Int) (hq : Wt 2 W) (hb : Below w.heap.size w W1) :
    Calls Tryz.prog 196 #[.pointer (some ⟨A, 0, none⟩), .agg #[.int .u16 (i : Int), .int .u32 g], .agg (rowL 2 W).toArray] W1 (MrPost A rb sb s tl ws (updS s ws i g 2 (fun _ => W)) w) :=
  (set_walk2 (h.below hb) hI hW (hK.below hb kl) (Nat.lt_of_lt_of_le kl hb.size) i g W hq).mono (fun _ _ q => q.from hb)
theorem get_at3 {W1 : World} (h : Ms w A rb sb s tl ws) (hI : IV s tl L n) (hK : Kd w) (kl : 1 < w.heap.size) (i : Nat) (g : Int) (hb : Below w.heap.size w W1) :
    Calls Tryz.prog 197 #[.pointer (some ⟨A, 0, none⟩), .agg #[.int .u16 (i : Int), .int .u32 g]] W1 (RdPost 3 s ws i g w) :=
  (get_walk3 (h.below hb) hI (hK.below hb kl) (Nat.lt_of_lt_of_le kl hb.size) i g).mono (fun _ _ q => q.from hb)
theorem set_at3 {W1 : World} (h : Ms w A rb sb s tl ws) (hI : IV s tl L n) (hW : Wr ws) (hK : Kd w) (kl : 1 < w.heap.size) (i : Nat) (g : Int) (W : Nat → Int) (hq : Wt 3 W) (hb : Below w.heap.size w W1) :
    Calls Tryz.prog 198 #[.pointer (some ⟨A, 0, none⟩), .agg #[.int .u16 (i : Int), .int .u32 g], .agg (rowL 3 W).toArray] W1 (MrPost A rb sb s tl ws (updS s ws i g 3 (fun _ => W)) w) :=
  (set_walk3 (h.below hb) hI hW (hK.below hb kl) (Nat.lt_of_lt_of_le kl hb.size) i g W hq).mono (fun _ _ q => q.from hb)
theorem get_at4 {W1 : World} (h : Ms w A rb sb s tl ws) (hI : IV s tl L n) (hK : Kd w) (kl : 1 < w.heap.size) (i : Nat) (g : Int) (hb : Below w.heap.size w W1) :
    Calls Tryz.prog 199 #[.pointer (some ⟨A, 0, none⟩), .agg #[.int .u16 (i : Int), .int .u32 g]] W1 (RdPost 4 s ws i g w) :=
  (get_walk4 (h.below hb) hI (hK.below hb kl) (Nat.lt_of_lt_of_le kl hb.size) i g).mono (fun _ _ q => q.from hb)
theorem set_at4 {W1 : World} (h : Ms w A rb sb s tl ws) (hI : IV s tl L n) (hW : Wr ws) (hK : Kd w) (kl : 1 < w.heap.size) (i : Nat) (g : Int) (W : Nat → Int) (hq : Wt 4 W) (hb : Below w.heap.size w W1) :
    Calls Tryz.prog 200 #[.pointer (some ⟨A, 0, none⟩), .agg #[.int .u16 (i : Int), .int .u32 g], .agg (rowL 4 W).toArray] W1 (MrPost A rb sb s tl ws (updS s ws i g 4 (fun _ => W)) w) :=
  (set_walk4 (h.below hb) hI hW (hK.below hb kl) (Nat.lt_of_lt_of_le kl hb.size) i g W hq).mono (fun _ _ q => q.from hb)
theorem get_at5 {W1 : World} (h : Ms w A rb sb s tl ws) (hI : IV s tl L n) (hK : Kd w) (kl : 1 < w.heap.size) (i : Nat) (g : Int) (hb : Below w.heap.size w W1) :
    Calls Tryz.prog 201 #[.pointer (some ⟨A, 0, none⟩), .agg #[.int .u16 (i : Int), .int .u32 g]] W1 (RdPost 5 s ws i g w) :=
  (get_walk5 (h.below hb) hI (hK.below hb kl) (Nat.lt_of_lt_of_le kl hb.size) i g).mono (fun _ _ q => q.from hb)
theorem set_at5 {W1 : World} (h : Ms w A rb sb s tl ws) (hI : IV s tl L n) (hW : Wr ws) (hK : Kd w) (kl : 1 < w.heap.size) (i : Nat) (g : Int) (W : Nat → Int) (hq : Wt 5 W) (hb : Below w.heap.size w W1) :
    Calls Tryz.prog 202 #[.pointer (some ⟨A, 0, none⟩), .agg #[.int .u16 (i : Int), .int .u32 g], .agg (rowL 5 W).toArray] W1 (MrPost A rb sb s tl ws (updS s ws i g 5 (fun _ => W)) w) :=
  (set_walk5 (h.below hb) hI hW (hK.below hb kl) (Nat.lt_of_lt_of_le kl hb.size) i g W hq).mono (fun _ _ q => q.from hb)
/-- The boxes of the two references. -/
def cpW (i j : Nat) (g gg : Int) (w : World) : World := (w.alloc (.cells #[.int .u16 (i : Int), .int .u32 g] 32)).alloc (.cells #[.int .u16 (j : Int), .int .u32 gg] 32)
structure Rb (b i j : Nat) (g gg : Int) (w : World) : Prop where
  i0 : w.cell? ⟨b, 0, none⟩ = some (.int .u16 (i : Int))
  i1 : w.cell? ⟨b, 1, none⟩ = some (.int .u32 g)
  j0 : w.cell? ⟨b + 1, 0, none⟩ = some (.int .u16 (j : Int))
  j1 : w.cell? ⟨b + 1, 1, none⟩ = some (.int .u32 gg)
theorem Rb.below {b i j : Nat} {g gg : Int} {w' : World} (h : Rb b i j g gg w) (k : Below w.heap.size w w') : Rb b i j g gg w' :=
  ⟨(k.cell (p := ⟨b, 0, none⟩) (cell_lt h.i0)).trans h.i0, (k.cell (p := ⟨b, 1, none⟩) (cell_lt h.i1)).trans h.i1, (k.cell (p := ⟨b + 1, 0, none⟩) (cell_lt h.j0)).trans h.j0, (k.cell (p := ⟨b + 1, 1, none⟩) (cell_lt h.j1)).trans h.j1⟩
theorem Rb.li {b i j : Nat} {g gg : Int} (h : Rb b i j g gg w) : (loadVar 32 ⟨b, 0, none⟩).run Tryz.prog w = .ok (.agg #[.int .u16 (i : Int), .int .u32 g]) w := load_ref h.i0 h.i1
theorem Rb.lj {b i j : Nat} {g gg : Int} (h : Rb b i j g gg w) : (loadVar 32 ⟨b + 1, 0, none⟩).run Tryz.prog w = .ok (.agg #[.int .u16 (j : Int), .int .u32 gg]) w := load_ref h.j0 h.j1
theorem cpW_rb (i j : Nat) (g gg : Int) (w : World) : Rb w.heap.size i j g gg (cpW i j g gg w) := by
  have h0 : (cpW i j g gg w).heap[w.heap.size]? = some (.cells #[.int .u16 (i : Int), .int .u32 g] 32 (0, 0)) := (heap_alloc_old _ _ (by simp)).trans (heap_new _ _)
  have h1 : (cpW i j g gg w).heap[w.heap.size + 1]? = some (.cells #[.int .u16 (j : Int), .int .u32 gg] 32 (0, 0)) := new_at _ _ (Deep.nblk_alloc _ _)
  exact ⟨(ref_agg h0).1, (ref_agg h0).2, (ref_agg h1).1, (ref_agg h1).2⟩
theorem cpW_below (i j : Nat) (g gg : Int) (w : World) : Below w.heap.size w (cpW i j g gg w) := two_below (w := w) _ _
/-- A row put into a new block. -/
structure Nr (t : Nat) (T : TypeId) (Z : Array Value) (row : List Value) (w w' : World) : Prop where
  eq : (w.alloc (.cells Z T)).setCells w.heap.size 0 row = w'
  th : (w.alloc (.cells Z T)).there w.heap.size 0 row.toArray.size
  sz : (Tryz.prog.info? T).map (·.size) = some row.length
  one : ∀ v ∈ row, v.oneCell' = true
  rng : w'.rangeAt w.heap.size 0 row
  blw : Below w.heap.size w w'
theorem row_new {t : Nat} (ht : t < 6) {Z : Array Value} {T : TypeId} (hT : tyT t = T) (hZ : Z.size = nC t) (W : Nat → Int) : ∃ w', Nr t T Z (rowL t W) w w' := by
  have hth : (w.alloc (.cells Z T)).there w.heap.size 0 (rowL t W).length := by rw [rowL_len]; exact new_row hZ T
  subst hT
  exact ⟨_, rfl, by rw [List.size_toArray]; exact hth, row_sz ht W, row_one t W, World.rangeAt_setCells_same _ _ _ _ hth, (St1.many _ _ _ _).ext.toBelow (alloc_below _) (Nat.le_refl _) (by simp)⟩
end
end Go.Proofs.Qxb6500847aGreatDoor.Os
