/-
  reg, Class.
-/
import Derived.Test.Qxb6500848aGreatDoorMach2
namespace Go.Proofs.Qxb6500848aGreatDoor
open Go.RowKit Pl Go.Maps
set_option maxRecDepth 100000

theorem Reg.at {X : Nat → Prop} {w : World} {kb ab nb mb : Nat} {rv : Value} {regs : List Int} (h : Reg X w kb ab nb mb rv regs) {j : Nat} (hj : j < regs.length) : ∃ rb off cap, rv = .slice (some ⟨rb, off, none⟩) regs.length cap ∧ w.cell? ⟨rb, off + j, none⟩ = some (.int .i64 regs[j]) := by
  rcases h with ⟨_, e⟩ | ⟨rb, off, cap, cells, e, _, _, hh, _, _, _, hc⟩
  · rw [e] at hj; cases hj
  · exact ⟨rb, off, cap, e, (box_cell hh _).trans (hc j hj)⟩

set_option maxHeartbeats 2000000 in
theorem reg_walk {X : Nat → Prop} {w : World} {kb eb mb ab nb : Nat} {lim : Int} {A : List Nd} {regs : List Int} (hM : Mc X w kb eb mb ab nb lim A regs) (hne : regs ≠ []) (hl : regs.length ≤ 9) (i : Int) :
    Calls Tryz.prog 67 #[.pointer (some ⟨kb, 0, none⟩), .int .i64 i] w fun e w' => ∃ r, Sm A r ∧ e = .returned (.int .i64 r) ∧ w' = w.drew := by
  obtain ⟨rv, k0, k1, k2, hR⟩ := hM.cells
  have hpos : 0 < regs.length := List.length_pos_iff.2 hne
  have n0 : (0 : Int) < (regs.length : Int) := by omega
  have q0 : 0 ≤ i % (regs.length : Int) := Int.emod_nonneg _ (by omega)
  have q1 : i % (regs.length : Int) < (regs.length : Int) := Int.emod_lt_of_pos _ n0
  have hj : (i % (regs.length : Int)).toNat < regs.length := by omega
  obtain ⟨rb, off, cap, rfl, hc⟩ := hR.at hj
  have Hv := hideIt (hM.val _ (List.getElem_mem hj))
  generalize regs[(i % (regs.length : Int)).toNat] = r at *
  have Hf := hideIt (fun W => fold_walk i (regs.length : Int) n0 (by omega) W)
  clear hM hR hne
  generalize hm : i % (regs.length : Int) = m at *
  have Hm := hideIt hm
  clear hm
  go_enter Tryz.func67, Tryz.ntmps67
  go_wp2_with fail
  go_region_held3 (fun w' => w'.cell? ⟨kb, 2, none⟩ = some (.slice (some ⟨rb, off, none⟩) regs.length cap) ∧ w'.cell? ⟨rb, off + m.toNat, none⟩ = some (.int .i64 r)) (go_keep)
    (first | (go_at_call 46; refine (Hf.out _).mono ?_; rintro e w' ⟨rfl, rfl⟩))
  all_goals
    go_wp2_with fail
    go_ret
    exact ⟨r, Hv.out, rfl, rfl⟩

/-- What a constructor hands back, of the number only that it is one. -/
def MV (n : Nat) (X : Nat → Prop) (w : World) (ab nb : Nat) (lim : Int) (A : List Nd) (e : Ending) (w' : World) : Prop :=
  ∃ X' nb' A' z ev, Grow X w ab nb lim A X' w' nb' A' ∧ e = .returned (.tuple #[.int .i64 z, ev]) ∧ ((ev = .nilIface ∧ Valid A' z ∧ sz A' z ≤ n) ∨ ((∃ t v, ev = .iface t v) ∧ lim ≤ A'.length))
theorem Made.mv {nf : Nf} {X : Nat → Prop} {w : World} {ab nb : Nat} {lim : Int} {A : List Nd} {e : Ending} {w' : World} {n : Nat} (h : Made nf X w ab nb lim A e w') (hb : ∀ {A' : List Nd} {z : Int}, Le A A' → Wf A' → Val A' nf z → sz A' z ≤ n) : MV n X w ab nb lim A e w' := by
  obtain ⟨X', nb', A', z, ev, h1, h2, h3⟩ := h
  exact ⟨X', nb', A', z, ev, h1, h2, h3.imp (fun h => ⟨h.1, h.2.valid, hb h1.le h1.st.ar.wf h.2⟩) (fun h => ⟨h.1, h.2.2.1⟩)⟩

theorem MV.hundred {X : Nat → Prop} {w : World} {ab nb : Nat} {lim : Int} {A : List Nd} {e : Ending} {w' : World} (h : MV 60 X w ab nb lim A e w') : MV 100 X w ab nb lim A e w' := by
  obtain ⟨X', nb', A', z, ev, h1, h2, h3⟩ := h
  exact ⟨X', nb', A', z, ev, h1, h2, h3.imp (fun h => ⟨h.1, h.2.1, by have := h.2.2; omega⟩) id⟩

set_option maxHeartbeats 1000000 in
theorem class_walk {X : Nat → Prop} {w : World} {ab nb : Nat} {lim : Int} {A : List Nd} (hS : St X w ab nb lim A) (hlim : lim ≤ 65536) {b : Nat} {l : List Nat} (hW : WB w b l) (hl : Cl l) (hb : ¬ X b) :
    Calls Tryz.prog 100 #[.pointer (some ⟨ab, 0, none⟩), .slice (some ⟨b, 0, none⟩) 3072 3072] w (MV 100 X w ab nb lim A) := by
  have hw : Words X w (.slice (some ⟨b, 0, none⟩) 3072 3072) l := by
    have := hW.words (X := X) hb (by rw [hl.1]; decide)
    rw [hl.1] at this
    exact this
  have HS := hideIt hS
  have Hw := hideIt hw
  have Hl := hideIt hl
  have Hok : Hid (NdOk A A.length ⟨3, l, [], 0, 0⟩) := by
    refine ⟨by simp, by simp, by simp, by simp, by simp, fun _ => hl, by simp, by simp, by simp, by simp, by simp, ⟨by simp, by simp, by simp, by simp, by simp, by simp⟩⟩
  clear hS hW hl hw
  by_cases hc : cnt l = 0
  · go_enter Tryz.func100, Tryz.ntmps100
    go_wp2_with (go_at_call 71; refine (count_walk Hw.out (Nat.le_of_eq Hl.out.1) Hl.out.2).mono ?_; rintro e w1 ⟨rfl, hw1⟩; obtain rfl := hw1.symm; rw [hc])
    go_ret2
    exact (Made.id HS.out (Below.refl _ _) HS.out.ar.wf.v0).mv (fun _ hB hv => by rw [← hv.1, sz0 hB]; omega)
  · obtain ⟨cn, ecn⟩ : ∃ cn, cn = cnt l := ⟨_, rfl⟩
    rw [← ecn] at hc
    have hc' : ((cn : Int) == 0) = false := by rw [beq_eq_false_iff_ne]; omega
    go_enter Tryz.func100, Tryz.ntmps100
    go_wp2_with (first
      | (go_at_call 71; refine (count_walk Hw.out (Nat.le_of_eq Hl.out.1) Hl.out.2).mono ?_; rintro e w1 ⟨rfl, hw1⟩; obtain rfl := hw1.symm; rw [← ecn])
      | (go_at_call 132; refine (intern_walk HS.out ⟨3, l, [], 0, 0⟩ Hok.out (Seq.nil X _) Hw.out hlim).mono ?_; rintro e w2 ⟨X', nb', A', z, ev, hG, rfl, hh⟩))
    go_ret2
    exact Made.mv (nf := .nd ⟨3, l, [], 0, 0⟩) ⟨X', nb', A', z, ev, hG, rfl, hh⟩ (fun _ hB hv => by rw [sz_low hB hv.1 (by rw [hv.2])]; omega)
end Go.Proofs.Qxb6500848aGreatDoor
