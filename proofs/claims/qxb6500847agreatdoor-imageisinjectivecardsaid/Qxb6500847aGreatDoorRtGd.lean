/-
  RetypeKeepsIntervalsDisjoint: the model's step beside what the arena has answered.
-/
import Derived.Test.Qxb6500847aGreatDoorRtG
import Derived.Test.Qxb6500847aGreatDoorOxSm
import Derived.Test.Qxb6500847aGreatDoorOxLz
namespace Go.Proofs.Qxb6500847aGreatDoor.Os
open Go.RowKit FloorA
set_option maxRecDepth 100000
section
variable {w0 w w' : World} {D : Nat → Nat → Prop} {Z : Nat → Prop} {P B : Nat} {M N : Nat → En}
theorem Sq.turn {B0 n : Nat} {v : Value} {xs : List Value} {X : Nat → Prop} (h : Sq B0 w v n xs) (e : Ext w.heap.size X w w') (hX : ∀ b, B0 ≤ b → ¬ X b) : Sq B0 w' v n xs := by
  obtain ⟨ad, cap, rfl, hr⟩ := h
  refine ⟨ad, cap, rfl, fun hn => ?_⟩
  obtain ⟨b, o, rfl, hb, hx⟩ := hr hn
  refine ⟨b, o, rfl, hb, fun j u hj => ?_⟩
  have := hx j u hj
  exact (e.cell (p := ⟨b, o + j, none⟩) (cell_lt this) (hX b hb)).trans this
theorem SdM.short (h : SdM M) (v : OpV) : Shrt (stepX M v).1 := by
  obtain ⟨s, tl, ws, L, n, hS, rfl⟩ := h
  exact stp_len s ws v
theorem Snd.bytes {im : List Int} (h : Snd M im) : (∀ x ∈ im, 0 ≤ x ∧ x ≤ 255) ∧ im ≠ [] := by
  obtain ⟨s, tl, ws, L, n, _, _, _, _, rfl⟩ := h
  exact ⟨imgB_range s ws, imgB_ne s ws⟩
theorem quo_run (F Zn : Nat) (hF6 : (F : Int) ≤ 281474976710656) (hZ1 : (1 : Int) ≤ (Zn : Int)) : ∃ Q : Nat, Q = F / Zn ∧ IntKind.u64.wrap ((F : Int) / (Zn : Int)) = (Q : Int) ∧ IntKind.u64.wrap ((F : Int).tdiv (Zn : Int)) = (Q : Int) ∧ (∀ W, (Op.intDiv .quo .u64 (F : Int) (Zn : Int)).run Tryz.prog W = .ok (.int .u64 (Q : Int)) W) ∧ ∀ W, (binOp .quo 34 (.int .u64 (F : Int)) (.int .u64 (Zn : Int))).run Tryz.prog W = .ok (.int .u64 (Q : Int)) W := by
  have hZi : ¬ ((Zn : Int) = 0) := by omega
  have e0 : ((F / Zn : Nat) : Int) = (F : Int) / (Zn : Int) := Int.natCast_ediv _ _
  have e1 : F / Zn ≤ F := Nat.div_le_self _ _
  have e2 : IntKind.u64.wrap ((F : Int) / (Zn : Int)) = ((F / Zn : Nat) : Int) := by
    rw [← e0]
    generalize F / Zn = q at *
    exact u64_same (by omega) (by omega)
  have e3 : (F : Int).tdiv (Zn : Int) = (F : Int) / (Zn : Int) := Int.tdiv_eq_ediv_of_nonneg (by omega)
  have e4 : ∀ W, (Op.intDiv .quo .u64 (F : Int) (Zn : Int)).run Tryz.prog W = .ok (.int .u64 ((F / Zn : Nat) : Int)) W := fun W => by
    unfold Op.intDiv
    rw [if_neg hZi, e3, e2]
    rfl
  refine ⟨_, rfl, e2, by rw [e3, e2], e4, fun W => ?_⟩
  rw [show binOp .quo 34 (.int .u64 (F : Int)) (.int .u64 (Zn : Int)) = Op.intDiv .quo .u64 (F : Int) (Zn : Int) by simp [binOp]]
  exact e4 W
theorem SdM.noRoom (h : SdM M) {i t bt k F Zn Q : Nat} {g : Int} (hF : (M i).bas + (M i).siz - topM M i = (F : Int)) (hZ : Zn = 2 ^ szQ t bt) (hQ : Q = F / Zn) (hb : (Q : Int) < (k : Int) ∨ ((spr M (loT t) (hiT t)).length : Int) < (k : Int)) : (retX M i g t bt k).1.code ≠ 0 := fun hc => by
  obtain ⟨_, h2, F', h3, _, h5⟩ := h.room hc
  obtain rfl : F' = F := by omega
  rw [← hZ, ← hQ] at h5
  clear hQ
  rcases hb with hb | hb
  · omega
  · omega
theorem bytes_block {g o : Nat} {bs : List Int} (h : BytesAt w g o bs) (e : w'.heap[g]? = w.heap[g]?) : BytesAt w' g o bs := fun i hi => ⟨(World.cell?_of_block (a := ⟨g, o + i, none⟩) e).trans (h i hi).1, (h i hi).2⟩
theorem lt_of_bytes {g : Nat} {bs : List Int} (h : BytesAt w g 0 bs) (hne : bs ≠ []) : g < w.heap.size := cell_lt (h 0 (List.length_pos_iff.2 hne)).1
/-- What Step leaves, beside lists r, u that the arena's play has left. -/
def StB (w0 : World) (Z : Nat → Prop) (P B : Nat) (M' : Nat → En) (X : Rs) (r u : Value) (W0 : World) (e : Ending) (w' : World) : Prop :=
  ∃ refs vals, e = .returned (.agg #[.int .u8 X.code, refs, vals]) ∧ IsR 0 w' refs X.refs ∧ IsU 0 w' vals X.vals ∧ IsR 0 w' r X.refs ∧ IsU 0 w' u X.vals ∧ (∃ D', R2 w0 D' Z P B M' M' w') ∧ ∀ b, Z b → w'.heap[b]? = W0.heap[b]?
theorem R2.stepB {W0 : World} {q : Nat} {r u : Value} (h : R2 w0 D Z P B M N W0) (h4 : 4 ≤ w0.heap.size) (v : OpV) {C o : Nat} (hv : ∀ W, Below w0.heap.size w0 W → OpAt W C o v) (hM : M = (stepX N v).2)
    (hr : IsR q W0 r (stepX N v).1.refs) (hu : IsU q W0 u (stepX N v).1.vals) (hq : ∀ b, D 1 b → b < q) (W : World) (hW : Below W0.heap.size W0 W) :
    Calls Tryz.prog 19 #[.pointer (some ⟨B, 0, none⟩), .agg v.arr] W (StB w0 Z P B M (stepX N v).1 r u W0) := by
  have h' := (h.below hW).weak (Z' := Z) (fun b hb => Or.inl hb)
  refine (h'.step h4 v (hv W h'.bel) hM).mono ?_
  rintro e w' ⟨refs, vals, rfl, hR, hV, hR2, he⟩
  refine ⟨refs, vals, rfl, Sq.mono hR (Nat.zero_le _), Sq.mono hV (Nat.zero_le _), Sq.mono (Sq.turn (Sq.below hr hW) he (fun b hb hd => ?_)) (Nat.zero_le _), Sq.mono (Sq.turn (Sq.below hu hW) he (fun b hb hd => ?_)) (Nat.zero_le _), ⟨_, hR2⟩, fun b hb => (h'.zkeep he hb).trans (hW.block b (h.z b hb).1)⟩
  · have := hq b hd
    omega
  · have := hq b hd
    omega
theorem R2.q1 (h : R2 w0 D Z P B M N w) {b : Nat} (hb : grD D 0 w w' 1 b) : b < w.heap.size := by
  rcases hb with hb | ⟨h1, _⟩
  · exact (h.sep.lo 1 b hb).2
  · exact absurd h1 (by decide)
end
end Go.Proofs.Qxb6500847aGreatDoor.Os
