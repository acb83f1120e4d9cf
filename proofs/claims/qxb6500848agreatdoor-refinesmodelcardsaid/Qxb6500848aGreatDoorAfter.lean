/-
  The walk of afterOne.
-/
import Derived.Test.Qxb6500848aGreatDoorEng
import Derived.Deep.RegionHeld3
namespace Go.Proofs.Qxb6500848aGreatDoor
open Go.RowKit Pl Go.Maps
set_option maxRecDepth 100000

theorem below_dd (W : World) : Below W.heap.size W W.drew.drew := ⟨rfl, rfl, rfl, Nat.le_refl _, fun _ _ => rfl⟩
theorem below_d (W : World) : Below W.heap.size W W.drew := ⟨rfl, rfl, rfl, Nat.le_refl _, fun _ _ => rfl⟩

set_option maxHeartbeats 1000000 in
theorem after8 {x : Int} {nd : Nd} {sv kv : Value} {X : Nat → Prop} {w : World} {eb mb ab nb : Nat} {lim : Int} {A : List Nd} (hE : En X w eb mb ab nb lim A) (hx : Valid A x) (h8 : nd.kind = 8) :
    Calls Tryz.prog 143 #[.pointer (some ⟨eb, 0, none⟩), .int .i64 x, .agg #[.int .i64 nd.kind, sv, kv, .int .i64 nd.lo, .int .i64 nd.hi]] w (Made (.id x) X w ab nb lim A) := by
  have HS := hideIt hE.st
  have Hx := hideIt hx
  have b8 : (nd.kind == 8) = true := by simp [h8]
  clear hE hx h8
  go_enter Tryz.func143, Tryz.ntmps143
  go_wp2
  go_ret2
  exact Made.id HS.out (alloc_below _) Hx.out

set_option maxHeartbeats 2000000 in
theorem after9 {x : Int} {nd : Nd} {sv kv : Value} {X : Nat → Prop} {w : World} {eb mb ab nb : Nat} {lim : Int} {A : List Nd} (hE : En X w eb mb ab nb lim A) (hlim : lim ≤ 65536) (hx : Valid A x) (hnode : nodeAt A x = nd) (hk : Ints X w kv nd.kids) (h9 : nd.kind = 9) :
    Calls Tryz.prog 143 #[.pointer (some ⟨eb, 0, none⟩), .int .i64 x, .agg #[.int .i64 nd.kind, sv, kv, .int .i64 nd.lo, .int .i64 nd.hi]] w (Made (loopN A (kid nd 0) (max (nd.lo - 1) 0) (if nd.hi = -1 then -1 else nd.hi - 1)) X w ab nb lim A) := by
  have hok := hE.st.ar.wf.at hx
  rw [hnode] at hok
  obtain ⟨y, ey⟩ := hok.one (Or.inr (Or.inr h9))
  obtain ⟨l1, l2, l3, l4⟩ := hok.loop h9
  have hvy : Valid A y := (hE.st.ar.wf.kidValid hx (by rw [hnode, ey]; exact List.mem_singleton.2 rfl)).1
  have ek : kid nd 0 = y := by simp [kid, ey]
  rw [ek]
  rw [ey] at hk
  have HK := hideIt hk
  obtain ⟨ka, kc, rfl, k1, k2, k3⟩ := hk
  obtain ⟨g, o, rfl, hxg, hc⟩ := k3 (by simp)
  have hc0 := hc 0 (by simp)
  simp only [List.getElem_cons_zero, Nat.add_zero] at hc0
  simp only [List.length_singleton] at *
  have gl : g < w.heap.size := cell_lt hc0
  have b8 : (nd.kind == 8) = false := by rw [h9]; rfl
  obtain ⟨ea, eb', ec, ee⟩ := hE.eng
  have e0 := box_cell ee 0
  simp only [List.getElem?_toArray, List.getElem?_cons_zero] at e0
  have el := hE.lb
  have HE := hideIt hE
  have Hvy := hideIt hvy
  have Hxe := hideIt hE.xe
  have Hxg := hideIt hxg
  have ha := hE.st.ar.la
  clear hE hx hnode hok ey ek k3 hc ee h9 hvy hxg
  obtain ⟨kd, bs, ks, lo, hi⟩ := nd
  simp only at *
  have KP : Hid (∀ (W : World) (X' : Nat → Prop) (w1 : World) (nb' : Nat) (A' : List Nd), Grow X W ab nb lim A X' w1 nb' A' → Below (w.heap.size + 1) (w.alloc (.cells #[.int .i64 kd, sv, .slice (some ⟨g, o, none⟩) 1 kc, .int .i64 lo, .int .i64 hi] 110)) W → w1.cell? ⟨eb, 0, none⟩ = some (.pointer (some ⟨ab, 0, none⟩)) ∧ w1.cell? ⟨w.heap.size, 2, none⟩ = some (.slice (some ⟨g, o, none⟩) 1 kc) ∧ w1.cell? ⟨g, o, none⟩ = some (.int .i64 y)) := fun W X' w1 nb' A' hG hW => by
    have sz : w.heap.size + 1 ≤ W.heap.size := by have := hW.size; rw [Deep.nblk_alloc] at this; exact this
    have nin : ∀ b, ¬ X b → ¬ (b = ab ∨ b = nb) := fun b hb e => hb (e.elim (fun e => e.symm ▸ HE.out.st.ar.xa) (fun e => e.symm ▸ HE.out.st.ar.xn))
    have nw : ¬ X w.heap.size := fun h => Nat.lt_irrefl _ (HE.out.st.xlt _ h)
    refine ⟨?_, ?_, ?_⟩
    · rw [hG.ext.cell (p := ⟨eb, 0, none⟩) (by show eb < _; omega) (nin eb Hxe.out), hW.cell (p := ⟨eb, 0, none⟩) (by show eb < _; omega), (alloc_below _).cell (p := ⟨eb, 0, none⟩) el]
      exact e0
    · rw [hG.ext.cell (p := ⟨w.heap.size, 2, none⟩) (by show w.heap.size < _; omega) (nin _ nw), hW.cell (p := ⟨w.heap.size, 2, none⟩) (by show w.heap.size < _; omega)]
      exact box_cell (heap_new _ _) 2
    · rw [hG.ext.cell (p := ⟨g, o, none⟩) (by show g < _; omega) (nin g Hxg.out), hW.cell (p := ⟨g, o, none⟩) (by show g < _; omega), (alloc_below _).cell (p := ⟨g, o, none⟩) gl]
      exact hc0
  have ng : w.heap.size ≠ g := by omega
  have ne : w.heap.size ≠ eb := by omega
  by_cases hlo : 1 ≤ lo
  · by_cases qhi : hi = -1
    · have em : max (lo - 1) 0 = lo - 1 := by omega
      rw [em]
      rw [if_pos qhi]
      subst qhi
      go_enter Tryz.func143, Tryz.ntmps143
      go_wp2_with fail
      go_region
      go_wp2_with fail
      go_region_held3 (fun w1 => w1.cell? ⟨eb, 0, none⟩ = some (.pointer (some ⟨ab, 0, none⟩)) ∧ w1.cell? ⟨w.heap.size, 2, none⟩ = some (.slice (some ⟨g, o, none⟩) 1 kc) ∧ w1.cell? ⟨g, o, none⟩ = some (.int .i64 y)) (first | (exact KP.out _ _ _ _ _ hG ⟨rfl, rfl, rfl, Nat.le_refl _, fun _ _ => rfl⟩) | go_keep)
        (first | (go_at_call 107; refine (loop_walk (lo := lo - 1) (hi := (-1)) ((HE.out.st.below (alloc_below _) (Nat.le_refl _)).below (below_dd _) (Nat.le_refl _)) hlim Hvy.out (by omega) (by omega) (by omega) (by omega)).mono ?_; rintro e w1 ⟨X', nb', A', z, ev, hG, rfl, hh⟩))
      go_wp2_with fail
      go_ret2
      exact Made.after ((alloc_below _).trans ((below_dd _).mono (alloc_below _).size)) ⟨X', nb', A', z, ev, hG, rfl, hh⟩
    · have em : max (lo - 1) 0 = lo - 1 := by omega
      rw [em]
      have bh : (hi != -1) = true := by simp [qhi]
      have bh2 : (hi == -1) = false := by simp [qhi]
      rw [if_neg qhi]
      go_enter Tryz.func143, Tryz.ntmps143
      go_wp2_with fail
      go_region
      go_wp2_with fail
      go_region_held3 (fun w1 => w1.cell? ⟨eb, 0, none⟩ = some (.pointer (some ⟨ab, 0, none⟩)) ∧ w1.cell? ⟨w.heap.size, 2, none⟩ = some (.slice (some ⟨g, o, none⟩) 1 kc) ∧ w1.cell? ⟨g, o, none⟩ = some (.int .i64 y)) (first | (exact KP.out _ _ _ _ _ hG ⟨rfl, rfl, rfl, Nat.le_refl _, fun _ _ => rfl⟩) | go_keep)
        (first | (go_at_call 107; refine (loop_walk (lo := lo - 1) (hi := (hi - 1)) ((HE.out.st.below (alloc_below _) (Nat.le_refl _)).below (below_dd _) (Nat.le_refl _)) hlim Hvy.out (by omega) (by omega) (by omega) (by omega)).mono ?_; rintro e w1 ⟨X', nb', A', z, ev, hG, rfl, hh⟩))
      go_wp2_with fail
      go_ret2
      exact Made.after ((alloc_below _).trans ((below_dd _).mono (alloc_below _).size)) ⟨X', nb', A', z, ev, hG, rfl, hh⟩
  · by_cases qhi : hi = -1
    · exfalso; omega
    · have em : max (lo - 1) 0 = 0 := by omega
      rw [em]
      have bh : (hi != -1) = true := by simp [qhi]
      have bh2 : (hi == -1) = false := by simp [qhi]
      rw [if_neg qhi]
      go_enter Tryz.func143, Tryz.ntmps143
      go_wp2_with fail
      go_region
      go_wp2_with fail
      go_region_held3 (fun w1 => w1.cell? ⟨eb, 0, none⟩ = some (.pointer (some ⟨ab, 0, none⟩)) ∧ w1.cell? ⟨w.heap.size, 2, none⟩ = some (.slice (some ⟨g, o, none⟩) 1 kc) ∧ w1.cell? ⟨g, o, none⟩ = some (.int .i64 y)) (first | (exact KP.out _ _ _ _ _ hG ⟨rfl, rfl, rfl, Nat.le_refl _, fun _ _ => rfl⟩) | go_keep)
        (first | (go_at_call 107; refine (loop_walk (lo := 0) (hi := (hi - 1)) ((HE.out.st.below (alloc_below _) (Nat.le_refl _)).below (below_dd _) (Nat.le_refl _)) hlim Hvy.out (by omega) (by omega) (by omega) (by omega)).mono ?_; rintro e w1 ⟨X', nb', A', z, ev, hG, rfl, hh⟩))
      go_wp2_with fail
      go_ret2
      exact Made.after ((alloc_below _).trans ((below_dd _).mono (alloc_below _).size)) ⟨X', nb', A', z, ev, hG, rfl, hh⟩
end Go.Proofs.Qxb6500848aGreatDoor
