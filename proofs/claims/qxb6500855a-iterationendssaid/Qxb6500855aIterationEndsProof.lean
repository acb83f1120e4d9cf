/-
  'Rows.IterationEndsSaid' proved.
-/
import Derived.Test.Qxb6500855aRows
import Derived.Test.Qxb6500855aMain
import Derived.WalkKit
import Derived.ProofKit
import Derived.ChangeOld
import Derived.Below
namespace Go.Proofs.Qxb6500855a.iteration
open Go.ChangeShapes Go.WideShapes Go.ChangeAt Go.RowKit

theorem own : ownKnob Try.prog.godebug = none := by kernel_rfl
theorem laidOut : laidOutB Try.prog = true := by kernel_rfl
theorem cells27 : Try.prog.cellsOf 27 = 4 := by kernel_rfl
theorem cells25 : Try.prog.cellsOf 25 = 1 := by kernel_rfl
theorem cells2 : Try.prog.cellsOf 2 = 1 := by kernel_rfl

theorem list4 {α : Type} {l : List α} (h : l.length = 4) : ∃ a b c d, l = [a, b, c, d] := by
  match l, h with
  | [a, b, c, d], _ => exact ⟨a, b, c, d, rfl⟩

/-- The script opened: its ops by their four cells. -/
theorem open_ops {H : Type} {enc : TypeId × Value → H} {w : World} {sp : Nat → Bool} {held : Bool} {fuel len cap : Nat} {a0 : Option Addr} {x : DataW H × List MemPlace}
    (hf : DataW.trod enc Try.prog w 0 sp held fuel 22 [.slice a0 len cap] = some x) :
    len ≤ maxLen ∧ ∃ b off : Nat, Ops w a0 len b off := by
  rcases DataW.trod_slice Try.underlying22 hf with ⟨h0, _⟩ | ⟨a, l, c, elems, rest, n, _, hcs, _, _, hl, hm, hlen, hel, _, _⟩
  · simp at h0
    obtain ⟨rfl, rfl, rfl⟩ := h0
    exact ⟨by unfold maxLen; omega, 0, 0, fun h => by omega, fun i hi => by omega⟩
  · simp at hcs
    obtain ⟨rfl, rfl, rfl⟩ := hcs
    by_cases hpos : 0 < len
    · have hspot : a.spot = none := by
        have key := hel 0 hpos
        rw [List.getElem?_eq_getElem (by omega)] at key
        obtain ⟨cs', g1, _⟩ := Option.bind_eq_some_iff.1 key
        obtain ⟨_, hl3, hcell⟩ := World.cells?_some g1
        rw [cells27] at hcell hl3
        have h0 := hcell 0 (by omega)
        rw [List.getElem?_eq_getElem (by omega)] at h0
        simpa [Addr.add] using World.cell?_spot h0
      obtain ⟨b, off, spot⟩ := a
      simp only at hspot
      subst hspot
      refine ⟨by omega, b, off, fun _ => rfl, ?_⟩
      intro i hi
      have key := hel i hi
      rw [List.getElem?_eq_getElem (by omega)] at key
      obtain ⟨cs', g1, g2⟩ := Option.bind_eq_some_iff.1 key
      obtain ⟨_, hl3, hcell⟩ := World.cells?_some g1
      rw [cells27] at hcell hl3
      obtain ⟨xs, m, _, _, _, hxl, hfld⟩ := DataW.trod_struct Try.underlying27 g2
      have f0 : DataW.trod enc Try.prog w 0 sp held m 25 ((cs'.drop 0).take (Try.prog.cellsOf 25)) = xs[0]? := hfld 0 _ rfl
      have f1 : DataW.trod enc Try.prog w 0 sp held m 2 ((cs'.drop 1).take (Try.prog.cellsOf 2)) = xs[1]? := hfld 1 _ rfl
      have f2 : DataW.trod enc Try.prog w 0 sp held m 2 ((cs'.drop 2).take (Try.prog.cellsOf 2)) = xs[2]? := hfld 2 _ rfl
      have f3 : DataW.trod enc Try.prog w 0 sp held m 2 ((cs'.drop 3).take (Try.prog.cellsOf 2)) = xs[3]? := hfld 3 _ rfl
      rw [cells25] at f0
      rw [cells2] at f1 f2 f3
      obtain ⟨c0, c1, c2, c3, rfl⟩ := list4 hl3
      obtain ⟨x0, x1, x2, x3, rfl⟩ := list4 (l := xs) hxl
      obtain ⟨n0, e0, _, _⟩ := DataW.trod_int Try.underlying25 f0
      obtain ⟨n1, e1, _, _⟩ := DataW.trod_int Try.underlying2 f1
      obtain ⟨n2, e2, _, _⟩ := DataW.trod_int Try.underlying2 f2
      obtain ⟨n3, e3, _, _⟩ := DataW.trod_int Try.underlying2 f3
      simp at e0 e1 e2 e3
      subst e0 e1 e2 e3
      refine ⟨n0, n1, n2, n3, ?_, ?_, ?_, ?_⟩
      · simpa [add_plain] using hcell 0 (by omega)
      · simpa [add_plain, Nat.add_assoc] using hcell 1 (by omega)
      · simpa [add_plain, Nat.add_assoc] using hcell 2 (by omega)
      · simpa [add_plain, Nat.add_assoc] using hcell 3 (by omega)
    · exact ⟨by omega, 0, 0, fun h => absurd h hpos, fun i hi => by omega⟩

set_option maxRecDepth 100000 in
theorem lifted (os : Os) (started : os.Started) (H : Type) (enc : TypeId × Value → H) :
    ReturnsInHanded {} Try.checked os 3 .any (Rows.iterationEndsSpec.pre6 enc Try.prog Try.f3 Rows.iterationEndsRow.domain false) (Rows.iterationEndsSpec.post enc Try.prog Try.f3 false true false false) := by
  refine returnsInHanded_of_change (C := Try.checked) own started (by kernel_rfl) Try.func3
    (ChangeSpec.witness6 (enc := enc) (C := Try.checked) false ⟨#[], #[.slice none 0 0], []⟩ 8 (by kernel_rfl) (by kernel_rfl) (by kernel_rfl) (by kernel_rfl)) ?_
  intro W base args ds gs before hval0 hW hcnd _
  have hval : ∀ (j : Nat) t v, Try.f3.params[j]? = some t → args[j]? = some v → Value.okWide Try.prog W .any base t v := hval0
  have hW' := hW
  obtain ⟨p, q, hA0, hV, rfl, hfz, hnd⟩ := hW
  have hA : DataW.TrodAll enc Try.prog W 0 (fun _ => true) true Try.f3.params.toList args.toList ds p := hA0
  rw [Try.params3] at hA hval
  obtain ⟨v0, d0, rfl, rfl, h0⟩ := trodAll_one hA
  obtain ⟨rfl, rfl⟩ := trodVars_none hV
  obtain ⟨a0, len0, cap0, rfl⟩ := okWide_slice Try.underlying22 (hval 0 22 v0 rfl rfl)
  have k0 := h0
  have lt0 : ∀ x ∈ p, x.block < W.heap.size := by obtain ⟨m, hm⟩ := k0; exact DataW.trod_lt m _ _ _ hm
  obtain ⟨fuel, hf⟩ := h0
  obtain ⟨hml, b, off, hops⟩ := open_ops (by simpa [Value.cells] using hf)
  clear hA0 hval0
  refine (main_walk a0 b off len0 cap0 W hml hops).mono fun e W' ⟨he, bel⟩ => ?_
  subst he
  exact ⟨_, rfl, _, _, _, [], _, [], hW', trodAll_mk1 (shut_bool Try.underlying4 _), trodAll_mk1 (Below.trod laidOut (by kernel_rfl) (of_decide_eq_true (by kernel_rfl)) k0 bel lt0), rfl, bel.frame _, fun h => by cases h⟩

theorem over : Rows.iterationEndsRow.holds Try.pinned (OpenSpec.ofChange Rows.iterationEndsSpec) :=
  OpenClaim.holds_of_wide 3 Try.f3 rfl rfl rfl rfl rfl rfl rfl ⟨rfl, rfl, rfl, rfl, rfl⟩ rfl rfl rfl rfl rfl (by kernel_rfl) Try.func3 (by kernel_rfl)
    (of_decide_eq_true (by kernel_rfl)) (by unfold Func.isWrapper; first | (rw [if_pos (by decide +kernel)]; kernel_rfl) | (rw [if_neg (by decide +kernel)]; exact ⟨rfl, rfl⟩))
    (fun os started H enc _ => lifted os started H enc)
end Go.Proofs.Qxb6500855a.iteration

namespace Go.Proofs.Qxb6500855a
theorem iterationEnds_proved : Rows.IterationEndsSaid :=
  iteration.over
end Go.Proofs.Qxb6500855a
