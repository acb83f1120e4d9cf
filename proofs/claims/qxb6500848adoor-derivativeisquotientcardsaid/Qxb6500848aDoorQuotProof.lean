/-
  'Rows.DerivativeIsQuotientCardSaid' proved: the row, then the tied card.
-/
import Derived.Test.Qxb6500848aDoorCards
import Derived.Test.Qxb6500848aDoorTie
import Derived.Test.Qxb6500848aDoorRunC
import Derived.Test.Qxb6500848aDoorOpen
import Derived.Test.Qxb6500848aDoorCellsC
import Derived.ChangeSame
import Derived.ChangeVars
import Derived.JoinedOf
import Derived.RowKit
import Derived.RowKitTokens
import Derived.LaidLaws
import Derived.LaidHandle
import Derived.Stop.Joined
import Derived.SevenTiedAt
namespace Go.Proofs.Qxb6500848aDoor.QuotA
open Go.ChangeShapes Go.WideShapes Go.RowKit

theorem own : ownKnob Tryd.prog.godebug = none := by kernel_rfl
theorem tabG : Tryd.prog.globalNamed "math/bits.deBruijn64tab" = some 0 := by kernel_rfl
theorem errG : Tryd.prog.globalNamed "e2e/regexm.ErrFull" = some 1 := by kernel_rfl
theorem tabT : (Tryd.prog.globals[0]?).map (·.type) = some 114 := by kernel_rfl
theorem errT : (Tryd.prog.globals[1]?).map (·.type) = some 36 := by kernel_rfl
theorem cells8 : Tryd.prog.cellsOf 5 = 1 := by kernel_rfl
theorem laidOut : laidOutB Tryd.prog = true := by kernel_rfl

/-- What the two listed variables give a walk. -/
theorem of_laid {W : World} (h : laidMetH Tryd.prog Rows.derivativeIsQuotientRow.laid W) : (∃ tab : Nat → Int, (∀ j, j < 64 → 0 ≤ tab j ∧ tab j ≤ 255) ∧ Gd tab W) ∧ Ge W := by
  have h' : laidMet Tryd.prog [("math/bits.deBruijn64tab", Rows.laid_math_bits_deBruijn64tab), ("e2e/regexm.ErrFull", Rows.laid_e2e_regexm_ErrFull)] W := h
  obtain ⟨ps, ⟨g0, t0, cs0, f0, p0, q0, hg0, ht0, hv0, hd0, ⟨g1, t1, cs1, f1, p1, q1, hg1, ht1, hv1, hd1, _, _⟩, _⟩, _, _⟩ := h'
  obtain rfl := Option.some.inj (tabG.symm.trans hg0)
  obtain rfl := Option.some.inj (errG.symm.trans hg1)
  obtain rfl := Option.some.inj (tabT.symm.trans ht0)
  obtain rfl := Option.some.inj (errT.symm.trans ht1)
  constructor
  · obtain ⟨xs, m, _, _, hl, hxl, hel⟩ := DataW.trod_array Tryd.underlying114 hd0
    have hs : ∀ j, j < 64 → ∃ n : Int, (0 ≤ n ∧ n ≤ 255) ∧ W.cell? ⟨0, j, none⟩ = some (.int .u8 n) := fun j hj => by
      have key := hel j hj
      rw [cells8, List.getElem?_eq_getElem (by omega)] at key
      obtain ⟨n, e, _, hwf⟩ := DataW.trod_int Tryd.underlying5 key
      refine ⟨n, ?_, ?_⟩
      · have h1 : IntKind.u8.min = 0 := by decide
        have h2 : IntKind.u8.max = 255 := by decide
        simp only [Lit.wf, Bool.and_eq_true, decide_eq_true_eq] at hwf
        omega
      · rw [World.var?_cell tabG hv0 j]
        have : (cs0.toList.drop (j * 1)).head? = some (.int .u8 n) := by
          cases hd : cs0.toList.drop (j * 1) with
          | nil => rw [hd] at e; cases e
          | cons a r => rw [hd] at e; simp at e; simp [e]
        rw [List.head?_drop] at this
        simpa using this
    obtain ⟨tab, ht⟩ := skolem hs
    exact ⟨tab, fun j hj => (ht j hj).1, fun j hj => (ht j hj).2⟩
  · obtain ⟨_, u, v, e, _, _⟩ := iface_of_trod Tryd.underlying36 hd1
    refine ⟨u, v, ?_⟩
    rw [World.var?_cell errG hv1 0]
    have : cs1.toList[0]? = some (.iface u v) := by rw [e]; rfl
    simpa using this

abbrev fullS : ByteArray := { data := #[114, 101, 103, 101, 120, 32, 97, 114, 101, 110, 97, 32, 102, 117, 108, 108] }
noncomputable def low : Nat := (World.holding Tryd.prog default ⟨#[], #[], []⟩).heap.size

/-- A world with the two variables laid. -/
noncomputable def laidWorld (os : Os) : World :=
  let w0 := World.holding Tryd.prog os ⟨#[.cells #[.string fullS] 170], #[], []⟩
  { w0 with heap := (w0.heap.modify 0 fun
      | .cells _ t frozen => .cells #[.int .u8 0, .int .u8 1, .int .u8 56, .int .u8 2, .int .u8 57, .int .u8 49, .int .u8 28, .int .u8 3, .int .u8 61, .int .u8 58, .int .u8 42, .int .u8 50, .int .u8 38, .int .u8 29, .int .u8 17, .int .u8 4, .int .u8 62, .int .u8 47, .int .u8 59, .int .u8 36, .int .u8 45, .int .u8 43, .int .u8 51, .int .u8 22, .int .u8 53, .int .u8 39, .int .u8 33, .int .u8 30, .int .u8 24, .int .u8 18, .int .u8 12, .int .u8 5, .int .u8 63, .int .u8 55, .int .u8 48, .int .u8 27, .int .u8 60, .int .u8 41, .int .u8 37, .int .u8 16, .int .u8 46, .int .u8 35, .int .u8 44, .int .u8 21, .int .u8 52, .int .u8 32, .int .u8 23, .int .u8 11, .int .u8 54, .int .u8 26, .int .u8 40, .int .u8 15, .int .u8 34, .int .u8 20, .int .u8 31, .int .u8 10, .int .u8 25, .int .u8 14, .int .u8 19, .int .u8 9, .int .u8 13, .int .u8 8, .int .u8 7, .int .u8 6] t frozen
      | o => o).modify 1 fun
      | .cells _ t frozen => .cells #[.iface 151 (.pointer (some ⟨low, 0, none⟩))] t frozen
      | o => o }
theorem laidWorld_met (os : Os) (args : Array Value) : laidMetH Tryd.prog Rows.derivativeIsQuotientRow.laid ((laidWorld os).forCall (fun _ _ => 0) ⟨#[], args, []⟩).memory := by
  show laidMet Tryd.prog [("math/bits.deBruijn64tab", Rows.laid_math_bits_deBruijn64tab), ("e2e/regexm.ErrFull", Rows.laid_e2e_regexm_ErrFull)] _
  exact laidMet_of_run' 8 (by kernel_rfl) (by kernel_rfl)

set_option maxRecDepth 100000 in
theorem lifted (os : Os) (started : os.Started) (H : Type) (enc : TypeId × Value → H) :
    ReturnsInHanded {} Tryd.checked os 3 .any (fun w args => (Rows.derivativeIsQuotientSpec.pre enc Tryd.prog Tryd.f3 [] false w args ∧ laidMetH Tryd.prog Rows.derivativeIsQuotientRow.laid w) ∧ sizedMet enc Tryd.prog Tryd.f3 (OpenSpec.ofChange Rows.derivativeIsQuotientSpec) false w args)
      (Rows.derivativeIsQuotientSpec.post enc Tryd.prog Tryd.f3 false true false false) := by
  refine returnsInHanded_of_change_and (C := Tryd.checked) (X := fun w _ => laidMetH Tryd.prog Rows.derivativeIsQuotientRow.laid w) (fun _ _ _ hh h => h.of_heap hh) own started (by kernel_rfl) Tryd.func3
    (ChangeSpec.witness_at (enc := enc) (C := Tryd.checked) (os := os) (X := fun w _ => laidMetH Tryd.prog Rows.derivativeIsQuotientRow.laid w) false (laidWorld os) #[.slice none 0 0] 8 rfl (by kernel_rfl) (by kernel_rfl) (by kernel_rfl) (by kernel_rfl) (by kernel_rfl) (laidWorld_met os _)) ?_
  intro W base args ds gs before hval0 hW _ hsz0 hL _
  have hval : ∀ (j : Nat) t v, Tryd.f3.params[j]? = some t → args[j]? = some v → Value.okWide Tryd.prog W .any base t v := hval0
  have hsz : (DataW.weightsEach Tryd.prog (Tryd.f3.params.toList ++ Rows.derivativeIsQuotientSpec.plain.varTypes Tryd.prog) (ds ++ gs)).all (· ≤ reachBytes) = true := hsz0
  have hW' := hW
  obtain ⟨p, q, hA0, hV0, rfl, hfz, hnd⟩ := hW
  have hA : DataW.TrodAll enc Tryd.prog W 0 (fun _ => true) true Tryd.f3.params.toList args.toList ds p := hA0
  have hV : DataW.TrodVars enc Tryd.prog W (fun _ => true) [] gs q := hV0
  rw [Tryd.params3] at hA hval hsz
  obtain ⟨v0, d0, rfl, rfl, h0⟩ := trodAll_one hA
  obtain ⟨rfl, rfl⟩ := trodVars_none hV
  obtain ⟨a0, len0, cap0, rfl⟩ := okWide_slice Tryd.underlying22 (hval 0 22 v0 rfl rfl)
  have k0 := h0
  have lt0 : ∀ x ∈ p, x.block < W.heap.size := by obtain ⟨m, hm⟩ := k0; exact DataW.trod_lt m _ _ _ hm
  obtain ⟨fuel, hf⟩ := h0
  have hwt : ∀ n ∈ d0.weights Tryd.prog 22, n ≤ reachBytes := fun n hn => of_decide_eq_true (List.all_eq_true.1 hsz _ (DataW.weights_mem_each (j := 0) (t := 22) (d := d0) rfl rfl n hn))
  obtain ⟨hml, b, off, f, ha, hops⟩ := open_ops (by simpa [Value.cells] using hf) hwt
  obtain ⟨⟨tab, ht, hg⟩, he⟩ := of_laid hL
  clear hA0 hval0
  refine (law_walk ht W hg he a0 b off len0 cap0 f hml ha hops).mono fun e W' ⟨he, bel⟩ => ?_
  subst he
  exact ⟨_, rfl, _, _, _, [], _, [], hW', trodAll_mk1 (shut_bool Tryd.underlying4 _), trodAll_mk1 (Below.trod laidOut (by kernel_rfl) (of_decide_eq_true (by kernel_rfl)) k0 bel lt0), rfl, bel.frame _, fun h => by cases h⟩

theorem row_holds : Rows.DerivativeIsQuotientSaid :=
  OpenClaim.holds_of_wide 3 Tryd.f3 rfl rfl rfl rfl rfl rfl rfl ⟨rfl, rfl, rfl, rfl, rfl⟩ rfl rfl rfl rfl rfl named3 Tryd.func3 joined instanced wrapped
    (fun os started H enc _ => lifted os started H enc)
end Go.Proofs.Qxb6500848aDoor.QuotA

namespace Go.Proofs.Qxb6500848aDoor
theorem derivativeIsQuotient_card : Rows.DerivativeIsQuotientCardSaid :=
  Claim7.holds_tied_plain_at .later [] [.data, .sentinel] true Rows.derivativeIsQuotientCard.stood.harness false
    QuotA.row_holds (fun _ h => by cases h) QuotA.byText (fun _ h => by cases h) derivativeIsQuotient_row_tie rfl ⟨rfl, rfl⟩ QuotA.mains rfl
    (fun f fn hf hfn => by
      obtain rfl : f = 3 := (Option.some.inj (QuotA.named3.symm.trans hf)).symm
      obtain rfl : fn = Tryd.f3 := (Option.some.inj (Tryd.func3.symm.trans hfn)).symm
      exact ⟨QuotA.looked, fun j t ht => by
        rw [Tryd.params3] at ht
        have h3 : t = 22 := by
          rcases j with _ | j
          · simpa using ht.symm
          · simp at ht
        subst h3
        exact (show Tryd.prog.wantsStandIn 22 = false by kernel_rfl)⟩)
    QuotA.went
end Go.Proofs.Qxb6500848aDoor
