/-
  'Rows.RefinesModelCardSaid' proved: the row, then the tied card.
-/
import Derived.Test.Qxb6500848aGreatDoorCards
import Derived.Test.Qxb6500848aGreatDoorTie
import Derived.Test.Qxb6500848aGreatDoorRfL
import Derived.Test.Qxb6500848aGreatDoorLaid
import Derived.Test.Qxb6500848aGreatDoorOpen
import Derived.Test.Qxb6500848aGreatDoorRfCellsC
import Derived.ChangeSame
import Derived.ChangeVars
import Derived.JoinedOf
import Derived.RowKit
import Derived.RowKitTokens
import Derived.LaidLaws
import Derived.LaidHandle
import Derived.Stop.Joined
import Derived.SevenTiedAt
import Derived.Stop.LaidErr
namespace Go.Proofs.Qxb6500848aGreatDoor.RfL
open Go.ChangeShapes Go.WideShapes Go.RowKit

theorem own : ownKnob Tryz.prog.godebug = none := by kernel_rfl
theorem errG : Tryz.prog.globalNamed "e2e/regexm.ErrFull" = some 2 := by kernel_rfl
theorem nplG : Tryz.prog.globalNamed "e2e/deriv.ErrNotPlain" = some 1 := by kernel_rfl
theorem nplT : (Tryz.prog.globals[1]?).map (·.type) = some 33 := by kernel_rfl
theorem esCells : Tryz.prog.cellsOf 241 = 1 := by kernel_rfl
theorem strCells : Tryz.prog.cellsOf 9 = 1 := by kernel_rfl
theorem nobG : Tryz.prog.globalNamed "e2e/deriv.ErrNoBlock" = some 0 := by kernel_rfl
theorem nobT : (Tryz.prog.globals[0]?).map (·.type) = some 33 := by kernel_rfl
theorem errT : (Tryz.prog.globals[2]?).map (·.type) = some 33 := by kernel_rfl
theorem laidOut : laidOutB Tryz.prog = true := by kernel_rfl

set_option maxRecDepth 100000 in
/-- What the listed variables give a walk. -/
theorem of_laid {W : World} (h : laidMetH Tryz.prog Rows.refinesModelRow.laid W) : Gd tabC W ∧ ∃ ad af an, Sn (fun _ => False) W ad af an := by
  have h' : laidMet Tryz.prog [("math/bits.deBruijn64tab", Rows.laid_math_bits_deBruijn64tab), ("e2e/regexm.ErrFull", Rows.laid_e2e_regexm_ErrFull), ("e2e/deriv.ErrNotPlain", Rows.laid_e2e_deriv_ErrNotPlain), ("e2e/deriv.ErrNoBlock", Rows.laid_e2e_deriv_ErrNoBlock)] W := h
  obtain ⟨ps, ⟨g0, t0, cs0, f0, p0, q0, hg0, ht0, hv0, hd0, ⟨g1, t1, cs1, f1, p1, q1, hg1, ht1, hv1, hd1, ⟨g2, t2, cs2, f2, p2, q2, hg2, ht2, hv2, hd2, ⟨g3, t3, cs3, f3, p3, q3, hg3, ht3, hv3, hd3, _, hr3⟩, hr2⟩, hr1⟩, hr0⟩, hnd, hok⟩ := h'
  obtain rfl := Option.some.inj (tabG.symm.trans hg0)
  obtain rfl := Option.some.inj (errG.symm.trans hg1)
  obtain rfl := Option.some.inj (nplG.symm.trans hg2)
  obtain rfl := Option.some.inj (nobG.symm.trans hg3)
  obtain rfl := Option.some.inj (tabT.symm.trans ht0)
  obtain rfl := Option.some.inj (errT.symm.trans ht1)
  obtain rfl := Option.some.inj (nplT.symm.trans ht2)
  obtain rfl := Option.some.inj (nobT.symm.trans ht3)
  subst hr3
  subst hr2
  subst hr1
  subst hr0
  obtain ⟨l1⟩ := cs1
  obtain ⟨l2⟩ := cs2
  obtain ⟨l3⟩ := cs3
  have ok1 : ∀ u v, l1 = [.iface u v] → Value.okWide Tryz.prog W .any 0 u v := fun u v e => by
    subst e
    exact (hok 2 0 (by simp [MemPlace.row])).2 u v (by simpa using World.var?_cell hg1 hv1 0)
  have ok2 : ∀ u v, l2 = [.iface u v] → Value.okWide Tryz.prog W .any 0 u v := fun u v e => by
    subst e
    exact (hok 1 0 (by simp [MemPlace.row])).2 u v (by simpa using World.var?_cell hg2 hv2 0)
  have ok3 : ∀ u v, l3 = [.iface u v] → Value.okWide Tryz.prog W .any 0 u v := fun u v e => by
    subst e
    exact (hok 0 0 (by simp [MemPlace.row])).2 u v (by simpa using World.var?_cell hg3 hv3 0)
  obtain ⟨a1, s1, rfl, hc1, hs1, hz1, rfl⟩ := errorString_of_trod Tryz.underlying33 row_es Tryz.underlying216 Tryz.underlying241 rfl rfl Tryz.underlying9 esCells strCells hd1 ok1
  obtain ⟨a2, s2, rfl, hc2, hs2, hz2, rfl⟩ := errorString_of_trod Tryz.underlying33 row_es Tryz.underlying216 Tryz.underlying241 rfl rfl Tryz.underlying9 esCells strCells hd2 ok2
  obtain ⟨a3, s3, rfl, hc3, hs3, hz3, rfl⟩ := errorString_of_trod Tryz.underlying33 row_es Tryz.underlying216 Tryz.underlying241 rfl rfl Tryz.underlying9 esCells strCells hd3 ok3
  obtain ⟨c1, t1, hb1⟩ := (hok a1.block a1.off (by simp [MemPlace.row])).1
  obtain ⟨c2, t2, hb2⟩ := (hok a2.block a2.off (by simp [MemPlace.row])).1
  refine ⟨gd_of hv0 hd0, a2, a1, a3, ?_, ?_, ?_, id, id, id, ⟨c1, t1, hb1⟩, ⟨c2, t2, hb2⟩, id, id, ?_⟩
  · simpa using World.var?_cell hg1 hv1 0
  · simpa using World.var?_cell hg2 hv2 0
  · simpa [Gn] using World.var?_cell hg3 hv3 0
  · rintro rfl
    simp [MemPlace.row, List.nodup_append] at hnd

abbrev nplS : ByteArray := { data := #[100, 101, 114, 105, 118, 58, 32, 112, 97, 114, 116, 105, 97, 108, 32, 100, 101, 114, 105, 118, 97, 116, 105, 118, 101, 115, 32, 110, 101, 101, 100, 32, 97, 32, 114, 101, 103, 101, 120, 32, 119, 105, 116, 104, 111, 117, 116, 32, 99, 111, 109, 112, 108, 101, 109, 101, 110, 116, 32, 97, 110, 100, 32, 105, 110, 116, 101, 114, 115, 101, 99, 116, 105, 111, 110] }
abbrev nobS : ByteArray := { data := #[100, 101, 114, 105, 118, 58, 32, 110, 111, 32, 109, 105, 110, 116, 101, 114, 109, 32, 111, 102, 32, 116, 104, 97, 116, 32, 110, 117, 109, 98, 101, 114] }
abbrev fullS : ByteArray := { data := #[114, 101, 103, 101, 120, 32, 97, 114, 101, 110, 97, 32, 102, 117, 108, 108] }
noncomputable def low : Nat := (World.holding Tryz.prog default ⟨#[], #[], []⟩).heap.size

/-- A world with the two variables laid. -/
noncomputable def laidWorld (os : Os) : World :=
  let w0 := World.holding Tryz.prog os ⟨#[.cells #[.string fullS] 241, .cells #[.string nplS] 241, .cells #[.string nobS] 241], #[], []⟩
  { w0 with heap := (((w0.heap.modify 3 fun
      | .cells _ t frozen => .cells #[.int .u8 0, .int .u8 1, .int .u8 56, .int .u8 2, .int .u8 57, .int .u8 49, .int .u8 28, .int .u8 3, .int .u8 61, .int .u8 58, .int .u8 42, .int .u8 50, .int .u8 38, .int .u8 29, .int .u8 17, .int .u8 4, .int .u8 62, .int .u8 47, .int .u8 59, .int .u8 36, .int .u8 45, .int .u8 43, .int .u8 51, .int .u8 22, .int .u8 53, .int .u8 39, .int .u8 33, .int .u8 30, .int .u8 24, .int .u8 18, .int .u8 12, .int .u8 5, .int .u8 63, .int .u8 55, .int .u8 48, .int .u8 27, .int .u8 60, .int .u8 41, .int .u8 37, .int .u8 16, .int .u8 46, .int .u8 35, .int .u8 44, .int .u8 21, .int .u8 52, .int .u8 32, .int .u8 23, .int .u8 11, .int .u8 54, .int .u8 26, .int .u8 40, .int .u8 15, .int .u8 34, .int .u8 20, .int .u8 31, .int .u8 10, .int .u8 25, .int .u8 14, .int .u8 19, .int .u8 9, .int .u8 13, .int .u8 8, .int .u8 7, .int .u8 6] t frozen
      | o => o).modify 2 fun
      | .cells _ t frozen => .cells #[.iface 216 (.pointer (some ⟨low, 0, none⟩))] t frozen
      | o => o).modify 1 fun
      | .cells _ t frozen => .cells #[.iface 216 (.pointer (some ⟨low + 1, 0, none⟩))] t frozen
      | o => o).modify 0 fun
      | .cells _ t frozen => .cells #[.iface 216 (.pointer (some ⟨low + 2, 0, none⟩))] t frozen
      | o => o }
theorem laidWorld_met (os : Os) (args : Array Value) : laidMetH Tryz.prog Rows.refinesModelRow.laid ((laidWorld os).forCall (fun _ _ => 0) ⟨#[], args, []⟩).memory := by
  show laidMet Tryz.prog [("math/bits.deBruijn64tab", Rows.laid_math_bits_deBruijn64tab), ("e2e/regexm.ErrFull", Rows.laid_e2e_regexm_ErrFull), ("e2e/deriv.ErrNotPlain", Rows.laid_e2e_deriv_ErrNotPlain), ("e2e/deriv.ErrNoBlock", Rows.laid_e2e_deriv_ErrNoBlock)] _
  exact laidMet_of_run' 8 (by kernel_rfl) (by kernel_rfl)

set_option maxRecDepth 100000 in
theorem lifted (os : Os) (started : os.Started) (H : Type) (enc : TypeId × Value → H) :
    ReturnsInHanded {} Tryz.checked os 9 .any (fun w args => (Rows.refinesModelSpec.pre enc Tryz.prog Tryz.f9 [] false w args ∧ laidMetH Tryz.prog Rows.refinesModelRow.laid w) ∧ sizedMet enc Tryz.prog Tryz.f9 (OpenSpec.ofChange Rows.refinesModelSpec) false w args)
      (Rows.refinesModelSpec.post enc Tryz.prog Tryz.f9 false true false false) := by
  refine returnsInHanded_of_change_and (C := Tryz.checked) (X := fun w _ => laidMetH Tryz.prog Rows.refinesModelRow.laid w) (fun _ _ _ hh h => h.of_heap hh) own started (by kernel_rfl) Tryz.func9
    (ChangeSpec.witness_at (enc := enc) (C := Tryz.checked) (os := os) (X := fun w _ => laidMetH Tryz.prog Rows.refinesModelRow.laid w) false (laidWorld os) #[.slice none 0 0] 8 rfl (by kernel_rfl) (by kernel_rfl) (by kernel_rfl) (by kernel_rfl) (by kernel_rfl) (laidWorld_met os _)) ?_
  intro W base args ds gs before hval0 hW _ hsz0 hL _
  have hval : ∀ (j : Nat) t v, Tryz.f9.params[j]? = some t → args[j]? = some v → Value.okWide Tryz.prog W .any base t v := hval0
  have hsz : (DataW.weightsEach Tryz.prog (Tryz.f9.params.toList ++ Rows.refinesModelSpec.plain.varTypes Tryz.prog) (ds ++ gs)).all (· ≤ reachBytes) = true := hsz0
  have hW' := hW
  obtain ⟨p, q, hA0, hV0, rfl, hfz, hnd⟩ := hW
  have hA : DataW.TrodAll enc Tryz.prog W 0 (fun _ => true) true Tryz.f9.params.toList args.toList ds p := hA0
  have hV : DataW.TrodVars enc Tryz.prog W (fun _ => true) [] gs q := hV0
  rw [Tryz.params9] at hA hval hsz
  obtain ⟨v0, d0, rfl, rfl, h0⟩ := trodAll_one hA
  obtain ⟨rfl, rfl⟩ := trodVars_none hV
  obtain ⟨a0, len0, cap0, rfl⟩ := okWide_slice Tryz.underlying22 (hval 0 22 v0 rfl rfl)
  have k0 := h0
  have lt0 : ∀ x ∈ p, x.block < W.heap.size := by obtain ⟨m, hm⟩ := k0; exact DataW.trod_lt m _ _ _ hm
  obtain ⟨fuel, hf⟩ := h0
  have hwt : ∀ n ∈ d0.weights Tryz.prog 22, n ≤ reachBytes := fun n hn => of_decide_eq_true (List.all_eq_true.1 hsz _ (DataW.weights_mem_each (j := 0) (t := 22) (d := d0) rfl rfl n hn))
  obtain ⟨hml, b, off, f, ha, hops⟩ := open_ops (by simpa [Value.cells] using hf) hwt
  obtain ⟨hg, ad, af, an, hsn⟩ := of_laid hL
  clear hA0 hval0
  refine (law_rf W hg hsn a0 b off len0 cap0 f hml ha hops).mono fun e W' ⟨he, bel⟩ => ?_
  subst he
  exact ⟨_, rfl, _, _, _, [], _, [], hW', trodAll_mk1 (shut_bool Tryz.underlying4 _), trodAll_mk1 (Below.trod laidOut (by kernel_rfl) (of_decide_eq_true (by kernel_rfl)) k0 bel lt0), rfl, bel.frame _, fun h => by cases h⟩

theorem row_holds : Rows.RefinesModelSaid :=
  OpenClaim.holds_of_wide 9 Tryz.f9 rfl rfl rfl rfl rfl rfl rfl ⟨rfl, rfl, rfl, rfl, rfl⟩ rfl rfl rfl rfl rfl named9 Tryz.func9 joined instanced wrapped
    (fun os started H enc _ => lifted os started H enc)
end Go.Proofs.Qxb6500848aGreatDoor.RfL

namespace Go.Proofs.Qxb6500848aGreatDoor
theorem refinesModel_card : Rows.RefinesModelCardSaid :=
  Claim7.holds_tied_plain_at .later [] [.data, .sentinel, .sentinel, .sentinel] true Rows.refinesModelCard.stood.harness true
    RfL.row_holds (fun _ h => by cases h) RfL.byText (fun _ h => by cases h) refinesModel_row_tie rfl ⟨rfl, rfl⟩ RfL.mains rfl
    (fun f fn hf hfn => by
      obtain rfl : f = 9 := (Option.some.inj (RfL.named9.symm.trans hf)).symm
      obtain rfl : fn = Tryz.f9 := (Option.some.inj (Tryz.func9.symm.trans hfn)).symm
      exact ⟨RfL.looked, fun j t ht => by
        rw [Tryz.params9] at ht
        have h3 : t = 22 := by
          rcases j with _ | j
          · simpa using ht.symm
          · simp at ht
        subst h3
        exact (show Tryz.prog.wantsStandIn 22 = false by kernel_rfl)⟩)
    RfL.went
end Go.Proofs.Qxb6500848aGreatDoor
