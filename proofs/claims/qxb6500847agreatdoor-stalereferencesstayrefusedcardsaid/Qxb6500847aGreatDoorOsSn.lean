/-
  A map of references as a set.
-/
import Derived.Test.Qxb6500847aGreatDoorOsSm
import Derived.Maps.Views
namespace Go.Proofs.Qxb6500847aGreatDoor.Os
open Go.RowKit Go.WideElems Go.Maps FloorA
set_option maxRecDepth 100000
def rv (i g : Nat) : Value := .agg #[.int .u16 (i : Int), .int .u32 (g : Int)]
theorem rv_inj {i g j k : Nat} (h : rv i g = rv j k) : (i, g) = (j, k) := by
  unfold rv at h
  simp only [Value.agg.injEq, Array.mk.injEq, List.cons.injEq, Value.int.injEq, true_and, and_true] at h
  obtain ⟨h1, h2⟩ := h
  have e1 : i = j := by omega
  have e2 : g = k := by omega
  rw [e1, e2]
/-- Block b is a map that holds the references of K, and no other. -/
def Sm (b n : Nat) (K : List (Nat × Nat)) (w : World) : Prop := ∃ D : DataW Unit, w.ownsMap Tryz.prog 32 (plainElem Tryz.prog 4) b n D ∧ ∀ i g l, i < 65536 → g < 4294967296 → keyOf Tryz.prog 32 (rv i g) = some l → D.atKey l (.lit (.bool false)) = .lit (.bool (decide ((i, g) ∈ K)))
theorem Sm.made (w : World) : Sm w.heap.size 0 [] (w.alloc (.map #[] 0)) := ⟨.map [], World.ownsMap_made _ _ _ _, fun i g l _ _ _ => by simp [DataW.atKey]⟩
theorem Sm.keep {b n : Nat} {K : List (Nat × Nat)} {w w' : World} (h : Sm b n K w) (e : w'.heap[b]? = w.heap[b]?) : Sm b n K w' := by
  obtain ⟨D, ⟨es, clock, hb, F, hs, hD⟩, hK⟩ := h
  exact ⟨D, ⟨es, clock, e.trans hb, F, hs, hD⟩, hK⟩
theorem Sm.lt {b n : Nat} {K : List (Nat × Nat)} {w : World} (h : Sm b n K w) : b < w.heap.size := by
  obtain ⟨D, ⟨es, clock, hb, _⟩, _⟩ := h
  exact (Array.getElem?_eq_some_iff.1 hb).1
theorem Sm.look {b n : Nat} {K : List (Nat × Nat)} {w : World} (h : Sm b n K w) {i g : Nat} (hi : i < 65536) (hg : g < 4294967296) : (Instr.lookup 66 (.map (some b)) (.agg #[.int .u16 (i : Int), .int .u32 (g : Int)]) false).run Tryz.prog w = .ok (.bool (decide ((i, g) ∈ K))) w := by
  obtain ⟨D, hO, hK⟩ := h
  obtain ⟨l, hl⟩ := key32 i g hi hg
  obtain ⟨v, ps, hrun, hat⟩ := hO.lookup law32 Tryz.underlying66 (zero4 w) (plainElem_bool Tryz.underlying4 false) hl
  obtain ⟨q, rfl, hz⟩ := plainElem_bool_inv hat
  simp only [Prod.mk.injEq] at hz
  have e := (hK i g l hi hg hl).symm.trans hz.1
  injection e with e
  injection e with e
  rw [hrun, e]
theorem Sm.put {b n : Nat} {K : List (Nat × Nat)} {w : World} (h : Sm b n K w) (hn : n < maxLen) {i g : Nat} (hi : i < 65536) (hg : g < 4294967296) : ∃ w', (Instr.mapUpdate 66 (.map (some b)) (.agg #[.int .u16 (i : Int), .int .u32 (g : Int)]) (.bool true)).run Tryz.prog w = .ok () w' ∧ Sm b (n + 1) ((i, g) :: K) w' ∧ w.grownBy w' (some b) := by
  obtain ⟨D, hO, hK⟩ := h
  obtain ⟨l, hl⟩ := key32 i g hi hg
  obtain ⟨w', hrun, hO', hgr⟩ := hO.update law32 Tryz.underlying66 hn hl (plainElem_bool Tryz.underlying4 true)
  have hD : IsMap D := by obtain ⟨es, clock, _, _, _, rfl⟩ := hO; exact ⟨_, rfl⟩
  refine ⟨w', hrun, ⟨_, hO', fun j k m hj hk hm => ?_⟩, hgr⟩
  by_cases e : (j, k) = (i, g)
  · obtain ⟨rfl, rfl⟩ := Prod.mk.inj e
    obtain rfl := Option.some.inj (hl.symm.trans hm)
    rw [atKey_put_same hD (law32.key hl)]
    simp
  · have hne : m ≠ l := fun q => e (rv_inj (law32.inj (q ▸ hm) hl))
    rw [atKey_put_other hne, hK j k m hj hk hm]
    simp [e]
end Go.Proofs.Qxb6500847aGreatDoor.Os
