/-
  The steps by derivatives, as closure and explore call them.
-/
import Derived.Test.Qxb6500848aGreatDoorClP
import Derived.Test.Qxb6500848aGreatDoorPlainQ
namespace Go.Proofs.Qxb6500848aGreatDoor
open Go.RowKit Pl Go.Maps
set_option maxRecDepth 100000

namespace Pl
def Ds (A : List Nd) (c x : Int) (l : List Int) : Prop := ∃ d, l = [d] ∧ Der A c x d
theorem stpDs : Stp Ds := ⟨fun hA hx h q hq => by
  obtain ⟨d, rfl, h⟩ := h
  rw [List.mem_singleton.1 hq]
  exact h.valid hA hx, fun hA hB hAB hx h => by
  obtain ⟨d, rfl, h⟩ := h
  exact ⟨d, rfl, h.le hA hB hAB hx⟩, fun hA h k => by
  obtain ⟨d, rfl, h⟩ := h
  obtain ⟨d', rfl, k⟩ := k
  rw [h.uniq hA k]⟩
/-- What is reached is the regex itself or one of its derivatives. -/
theorem Rc.rd {A : List Nd} {cs : List Int} (hc : ∀ c ∈ cs, 0 ≤ c ∧ c ≤ 196607) {r q : Int} (h : Rc Ds A cs r q) : q = r ∨ Rd A r q := by
  induction h with
  | refl => exact Or.inl rfl
  | step h hm hs hd ih =>
    obtain ⟨d, rfl, h⟩ := hs
    rw [List.mem_singleton.1 hd]
    rcases ih with e | ih
    · rw [e] at h; exact Or.inr (.one (hc _ hm) h)
    · exact Or.inr (.step ih (hc _ hm) h)
end Pl

def NxPost (S : List Nd → Int → Int → List Int → Prop) (c x : Int) (X : Nat → Prop) (w : World) (eb mb ab nb : Nat) (lim : Int) (A : List Nd) (e : Ending) (w' : World) : Prop :=
  ∃ X' nb' A' v ev, GrX X w eb mb ab nb lim A X' w' nb' A' ∧ e = .returned (.tuple #[v, ev]) ∧ ((ev = .nilIface ∧ ∃ l, Ints X' w' v l ∧ Nz v ∧ S A' c x l) ∨ ((∃ t v, ev = .iface t v) ∧ lim ≤ A'.length))

set_option maxHeartbeats 2000000 in
/-- The law's own step. -/
theorem next1_walk {X : Nat → Prop} {w : World} {kb bx eb mb ab nb : Nat} {lim : Int} (hlim : lim ≤ 65536) {A : List Nd} (hE : Es X w eb mb ab nb lim A) (hb : w.cell? ⟨bx, 0, none⟩ = some (.pointer (some ⟨kb, 0, none⟩))) (hk : w.cell? ⟨kb, 1, none⟩ = some (.pointer (some ⟨eb, 0, none⟩))) {c : Int} (hc : 0 ≤ c ∧ c ≤ 196607) {x : Int} (hx : Valid A x) :
    Calls Tryz.prog 44 #[.int .i64 x, .int .i64 c, .pointer (some ⟨bx, 0, none⟩)] w (NxPost Ds c x X w eb mb ab nb lim A) := by
  have HE := hideIt hE
  have Hx := hideIt hx
  have Hc := hideIt hc
  clear hE hx hc
  go_enter Tryz.func44, Tryz.ntmps44
  go_wp2_with fail
  go_at_call 25
  refine (Deriv_walk hlim HE.out.en Hx.out).mono ?_
  rintro e w1 ⟨X1, nb1, A1, z1, ev1, hg1, rfl, hh1⟩
  have HG := hideIt (hg1.toX HE.out)
  clear hg1
  rcases hh1 with ⟨rfl, _, _, hd⟩ | ⟨⟨t1, v1, rfl⟩, rfl, hf1⟩
  · have HP : Hid (NxPost Ds c x X w eb mb ab nb lim A (.returned (.tuple #[.slice (some ⟨w1.heap.size, 0, none⟩) 1 1, .nilIface])) (w1.alloc (.cells #[.int .i64 z1] 28))) := ⟨X1, nb1, A1, _, _, HG.out.below (alloc_below _), rfl, Or.inl ⟨rfl, [z1], one_row HG.out.en.st.xlt (Nat.le_refl _) (box_cell (heap_new _ _) 0), (fun n c e => by cases e), z1, rfl, hd Hc.out⟩⟩
    clear hd
    go_wp2_with fail
    go_ret2
    exact HP.out
  · have HP : Hid (NxPost Ds c x X w eb mb ab nb lim A (.returned (.tuple #[.slice (some ⟨w1.heap.size, 0, none⟩) 1 1, .iface t1 v1])) (w1.alloc (.cells #[.int .i64 0] 28))) := ⟨X1, nb1, A1, _, _, HG.out.below (alloc_below _), rfl, Or.inr ⟨⟨t1, v1, rfl⟩, hf1⟩⟩
    clear hf1
    go_wp2_with fail
    go_ret2
    exact HP.out

set_option maxHeartbeats 2000000 in
/-- The engine's own step. -/
theorem next2_walk {X : Nat → Prop} {w : World} {bx eb mb ab nb : Nat} {lim : Int} (hlim : lim ≤ 65536) {A : List Nd} (hE : Es X w eb mb ab nb lim A) (hb : w.cell? ⟨bx, 0, none⟩ = some (.pointer (some ⟨eb, 0, none⟩))) {c : Int} (hc : 0 ≤ c ∧ c ≤ 196607) {x : Int} (hx : Valid A x) :
    Calls Tryz.prog 94 #[.int .i64 x, .int .i64 c, .pointer (some ⟨bx, 0, none⟩)] w (NxPost Ds c x X w eb mb ab nb lim A) := by
  have HE := hideIt hE
  have Hx := hideIt hx
  have Hc := hideIt hc
  clear hE hx hc
  go_enter Tryz.func94, Tryz.ntmps94
  go_wp2_with fail
  go_at_call 75
  refine (deriv_walk Hc.out hlim _ x rfl X _ nb A HE.out.en Hx.out).mono ?_
  rintro e w1 ⟨X1, nb1, A1, z1, ev1, hg1, rfl, hh1⟩
  have HG := hideIt (hg1.toX HE.out)
  clear hg1
  rcases hh1 with ⟨rfl, hd⟩ | ⟨⟨t1, v1, rfl⟩, rfl, hf1⟩
  · have HP : Hid (NxPost Ds c x X w eb mb ab nb lim A (.returned (.tuple #[.slice (some ⟨w1.heap.size, 0, none⟩) 1 1, .nilIface])) (w1.alloc (.cells #[.int .i64 z1] 28))) := ⟨X1, nb1, A1, _, _, HG.out.below (alloc_below _), rfl, Or.inl ⟨rfl, [z1], one_row HG.out.en.st.xlt (Nat.le_refl _) (box_cell (heap_new _ _) 0), (fun n c e => by cases e), z1, rfl, hd⟩⟩
    clear hd
    go_wp2_with fail
    go_ret2
    exact HP.out
  · have HP : Hid (NxPost Ds c x X w eb mb ab nb lim A (.returned (.tuple #[.slice (some ⟨w1.heap.size, 0, none⟩) 1 1, .iface t1 v1])) (w1.alloc (.cells #[.int .i64 0] 28))) := ⟨X1, nb1, A1, _, _, HG.out.below (alloc_below _), rfl, Or.inr ⟨⟨t1, v1, rfl⟩, hf1⟩⟩
    clear hf1
    go_wp2_with fail
    go_ret2
    exact HP.out
end Go.Proofs.Qxb6500848aGreatDoor
