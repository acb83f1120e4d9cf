/-
  The reader.
-/
import Derived.Test.Qxb6500847aGreatDoorOsEb
namespace Go.Proofs.Qxb6500847aGreatDoor.Os
open Go.RowKit FloorA
set_option maxRecDepth 100000
/-- The reader, at position p, no fault yet. -/
structure Rd (D A g n cap p : Nat) (w : World) : Prop where
  buf : w.cell? ⟨D, 0, none⟩ = some (.slice (some ⟨g, 0, none⟩) n cap)
  pos : w.cell? ⟨D, 1, none⟩ = some (.int .i64 (p : Int))
  err : w.cell? ⟨D, 2, none⟩ = some (.pointer none)
  ar : w.cell? ⟨D, 3, none⟩ = some (.pointer (some ⟨A, 0, none⟩))
  at' : ∀ i, i < 320 → ∃ x, w.cell? ⟨D, 4 + i, none⟩ = some (.int .i64 x)
  frz : ∀ o, w.frozen? ⟨D, o, none⟩ = false
/-- The reader behind a fault. -/
structure Flt (D A : Nat) (w : World) : Prop where
  whr : ∃ b off s, w.cell? ⟨D, 2, none⟩ = some (.pointer (some ⟨b, 0, none⟩)) ∧ w.cell? ⟨b, 0, none⟩ = some (.int .i64 off) ∧ w.cell? ⟨b, 1, none⟩ = some (.string s)
  pos : ∃ p, w.cell? ⟨D, 1, none⟩ = some (.int .i64 p)
  ar : w.cell? ⟨D, 3, none⟩ = some (.pointer (some ⟨A, 0, none⟩))
section
variable {D A g n cap p : Nat} {w w' : World}
theorem frz_ext {T : Nat → Prop} (e : Ext w.heap.size T w w') {b : Nat} (hb : b < w.heap.size) (hT : ¬ T b) (q : Nat) : w'.frozen? ⟨b, q, none⟩ = w.frozen? ⟨b, q, none⟩ := by
  unfold World.frozen?
  rw [show w'.heap[(⟨b, q, none⟩ : Addr).block]? = w.heap[(⟨b, q, none⟩ : Addr).block]? from e.block b hb hT]
theorem Rd.lt (h : Rd D A g n cap p w) : D < w.heap.size := cell_lt h.err
theorem Rd.ext {T : Nat → Prop} (h : Rd D A g n cap p w) (e : Ext w.heap.size T w w') (hT : ¬ T D) : Rd D A g n cap p w' := by
  have l := h.lt
  have c : ∀ o, w'.cell? ⟨D, o, none⟩ = w.cell? ⟨D, o, none⟩ := fun o => e.cell (p := ⟨D, o, none⟩) l hT
  exact ⟨(c 0).trans h.buf, (c 1).trans h.pos, (c 2).trans h.err, (c 3).trans h.ar, fun i hi => by
    obtain ⟨x, hx⟩ := h.at' i hi
    exact ⟨x, (c _).trans hx⟩, fun o => (frz_ext e l hT o).trans (h.frz o)⟩
theorem Rd.setPos (h : Rd D A g n cap p w) (q : Nat) : Rd D A g n cap q (w.setCell ⟨D, 1, none⟩ (.int .i64 (q : Int))) := by
  refine ⟨?_, set_same h.pos, ?_, ?_, fun i hi => ?_, fun o => by rw [World.frozen?_setCell]; exact h.frz o⟩
  · rw [set_other (by simp)]; exact h.buf
  · rw [set_other (by simp)]; exact h.err
  · rw [set_other (by simp)]; exact h.ar
  · obtain ⟨x, hx⟩ := h.at' i hi
    exact ⟨x, by rw [set_other (by simp <;> omega)]; exact hx⟩
theorem Rd.setAt (h : Rd D A g n cap p w) (i : Nat) (u : Int) : Rd D A g n cap p (w.setCell ⟨D, 4 + i, none⟩ (.int .i64 u)) := by
  refine ⟨?_, ?_, ?_, ?_, fun j hj => ?_, fun o => by rw [World.frozen?_setCell]; exact h.frz o⟩
  · rw [set_other (by simp)]; exact h.buf
  · rw [set_other (by simp <;> omega)]; exact h.pos
  · rw [set_other (by simp <;> omega)]; exact h.err
  · rw [set_other (by simp <;> omega)]; exact h.ar
  · obtain ⟨x, hx⟩ := h.at' j hj
    by_cases e : i = j
    · subst e; exact ⟨u, set_same hx⟩
    · exact ⟨x, by rw [set_other (by simp <;> omega)]; exact hx⟩
theorem Rd.drewN (h : Rd D A g n cap p w) (q : Nat) : Rd D A g n cap p (w.drewN q) := ⟨h.buf, h.pos, h.err, h.ar, h.at', h.frz⟩
theorem own_ext (w : World) (D o : Nat) (v : Value) : Ext w.heap.size (fun b => b = D) w (w.setCell ⟨D, o, none⟩ v) := Ext.setCell (X := fun b => b = D) (p := ⟨D, o, none⟩) (Ext.refl _ _ _) (Or.inr rfl) _
theorem Ext.drewN {B : Nat} {X : Nat → Prop} {w w' : World} (h : Ext B X w w') (q : Nat) : Ext B X w (w'.drewN q) := ⟨h.os, h.tape, h.output, h.size, h.block⟩
def FaPost (D A : Nat) (w : World) (e : Ending) (w' : World) : Prop := e = .returned (.tuple #[]) ∧ Flt D A w' ∧ Ext w.heap.size (fun b => b = D) w w'
set_option maxHeartbeats 800000 in
theorem fail_walk (h : Rd D A g n cap p w) (at' : Int) (reason : ByteArray) :
    Calls Tryz.prog 104 #[.pointer (some ⟨D, 0, none⟩), .int .i64 at', .string reason] w (FaPost D A w) := by
  refine (fail_any D at' reason w h.err (h.frz 2)).mono ?_
  rintro e w' ⟨rfl, rfl⟩
  have hlt := h.lt
  have keep : ∀ o, ((w.setCell ⟨D, 2, none⟩ (.pointer (some ⟨w.heap.size, 0, none⟩))).alloc (.cells #[.int .i64 at', .string reason] 220)).cell? ⟨D, o, none⟩ = (w.setCell ⟨D, 2, none⟩ (.pointer (some ⟨w.heap.size, 0, none⟩))).cell? ⟨D, o, none⟩ :=
    fun o => World.cell?_of_block (heap_alloc_old _ _ (by simp <;> omega))
  have h2 := heap_alloc_new (w.setCell ⟨D, 2, none⟩ (.pointer (some ⟨w.heap.size, 0, none⟩))) (.cells #[.int .i64 at', .string reason] 220)
  rw [show (w.setCell ⟨D, 2, none⟩ (.pointer (some ⟨w.heap.size, 0, none⟩))).heap.size = w.heap.size by simp] at h2
  refine ⟨rfl, ⟨⟨w.heap.size, at', reason, ?_, (cell_of_two h2).1, (cell_of_two h2).2⟩, ⟨p, ?_⟩, ?_⟩, ?_⟩
  · rw [keep]; exact set_same h.err
  · rw [keep, set_other (by simp)]; exact h.pos
  · rw [keep, set_other (by simp)]; exact h.ar
  · exact (own_ext w D 2 _).trans (Ext.of_below (alloc_below _) (fun _ => False)) (by simp) (fun _ _ q => absurd q id)
set_option maxHeartbeats 800000 in
theorem fail_again (h : Flt D A w) (at' : Int) (reason : ByteArray) :
    Calls Tryz.prog 104 #[.pointer (some ⟨D, 0, none⟩), .int .i64 at', .string reason] w (fun e w' => e = .returned (.tuple #[]) ∧ w' = w) := by
  obtain ⟨⟨b, off, s, h1, _, _⟩, _⟩ := h
  go_enter Tryz.func104, Tryz.ntmps104
  go_wp2_with fail
  go_end0
  exact ⟨rfl, rfl⟩
set_option maxHeartbeats 800000 in
theorem number_dead (h : Flt D A w) (what : ByteArray) (most : Int) :
    Calls Tryz.prog 103 #[.pointer (some ⟨D, 0, none⟩), .string what, .int .u64 most] w (fun e w' => e = .returned (.int .u64 0) ∧ w' = w) := by
  obtain ⟨⟨b, off, s, h1, _, _⟩, _⟩ := h
  go_enter Tryz.func103, Tryz.ntmps103
  go_wp2_with fail
  exact bodyPost_ret (by simp [results, Tryz.results103]) rfl ⟨rfl, rfl⟩
def NuPost (D A g n cap p v : Nat) (most : Int) (w : World) (e : Ending) (w' : World) : Prop :=
  Ext w.heap.size (fun b => b = D) w w' ∧ (((v : Int) ≤ most ∧ e = .returned (.int .u64 (v : Int)) ∧ Rd D A g n cap (p + (uvs v).length) w') ∨ (¬ (v : Int) ≤ most ∧ e = .returned (.int .u64 0) ∧ Flt D A w'))
set_option maxHeartbeats 1600000 in
theorem number_walk (h : Rd D A g n cap p w) (v : Nat) (what : ByteArray) (most : Int) (hws : what.size ≤ 100) (hv : v < 18446744073709551616) (hL : p + (uvs v).length ≤ n) (hn : n ≤ big) (hcap : n ≤ cap) (hb : BytesAt w g p (uvs v)) :
    Calls Tryz.prog 103 #[.pointer (some ⟨D, 0, none⟩), .string what, .int .u64 most] w (NuPost D A g n cap p v most w) := by
  have HU : Hid (∀ q, BytesAt (w.drewN q) g p (uvs v)) := fun q => hb
  have hbuf := h.buf
  have hpos := h.pos
  have herr := h.err
  have hfz := h.frz 1
  have HR := hideIt h
  have hup := uvs_pos v
  unfold big at hn
  have hp1 : (0 : Int) ≤ (p : Int) := by omega
  have hp2 : (p : Int) ≤ (n : Int) := by omega
  have hnc : (n : Int) ≤ (cap : Int) := by omega
  have hp3 : p ≤ n := by omega
  have hul := uvs_len hv
  have HL : Hid ((uvs v).length ≤ n - p) := by show _ ≤ _; omega
  have HUV := hideIt (fun q => uvarint_walk g p (n - p) (cap - p) v (w.drewN q) hv HL.out (HU.out q))
  generalize hln : (uvs v).length = ln at *
  have HLN := hideIt hln
  clear hb h hln
  by_cases hle : (v : Int) ≤ most
  · have c1 : ¬ (v : Int) > most := by omega
    go_enter Tryz.func103, Tryz.ntmps103
    go_wp2_with fail
    go_quiet ((go_at_call 225; exact Calls.quiet_of_same (HUV.out _)))
    go_wp2_with fail
    refine bodyPost_ret (v := .int .u64 (v : Int)) (by simp [results, Tryz.results103]) rfl ⟨?_, Or.inl ⟨hle, rfl, ?_⟩⟩
    · exact (Ext.refl w.heap.size (fun b => b = D) w).drewN nq |>.trans (own_ext _ D 1 _) (Nat.le_refl _) (fun _ _ q => q)
    · rw [HLN.out]
      have := (HR.out.drewN nq).setPos (p + ln)
      simpa using this
  · have c1 : (v : Int) > most := by omega
    have HF : Hid (∀ q at' r, Calls Tryz.prog 104 #[.pointer (some ⟨D, 0, none⟩), .int .i64 at', .string r] (w.drewN q) (FaPost D A (w.drewN q))) := fun q at' r => fail_walk (HR.out.drewN q) at' r
    go_enter Tryz.func103, Tryz.ntmps103
    go_wp2_with fail
    go_quiet ((go_at_call 225; exact Calls.quiet_of_same (HUV.out _)))
    go_wp2_with fail
    go_at_call 104
    refine (HF.out _ _ _).mono ?_
    rintro e w1 ⟨rfl, hfl, hx⟩
    have HX : Hid (Flt D A w1 ∧ Ext w.heap.size (fun b => b = D) w w1) := ⟨hfl, ((Ext.refl w.heap.size (fun b => b = D) w).drewN nq).trans hx (Nat.le_refl _) (fun _ _ q => q)⟩
    clear hfl hx
    go_wp2_with fail
    exact bodyPost_ret (by simp [results, Tryz.results103]) rfl ⟨HX.out.2, Or.inr ⟨by omega, rfl, HX.out.1⟩⟩
end
end Go.Proofs.Qxb6500847aGreatDoor.Os
