/-
  DerivativeIsQuotient.
-/
import Derived.Test.Qxb6500848aDoorRunB
namespace Go.Proofs.Qxb6500848aDoor
open Go.RowKit Pl Go.Maps
set_option maxRecDepth 100000

set_option maxHeartbeats 2000000 in
theorem law_walk {tab : Nat → Int} (ht : ∀ j, j < 64 → 0 ≤ tab j ∧ tab j ≤ 255) (w : World) (hg : Gd tab w) (he : Ge w) (a0 : Option Addr) (b off n cap : Nat) (f : Nat → OpV) (hn : n ≤ 1152921504606846976) (ha : 0 < n → a0 = some ⟨b, off, none⟩) (hf : ∀ i, i < n → OpAt w b (off + i * 7) (f i)) :
    Calls Tryd.prog 3 #[.slice a0 n cap] w fun e w' => e = .returned (.bool true) ∧ Below w.heap.size w w' := by
  have Hs := hideIt (small_walk w a0 b off n cap f hn ha hf)
  have Hu := hideIt (fun (h : n ≤ 65536 ∧ ∀ i, i < n → (f i).wd.length ≤ 65536 ∧ (f i).pd.length ≤ 65536) => subjects_walk ht w hg he a0 b off n cap f h.1 ha hf h.2)
  clear hf ha hg he ht
  go_enter Tryd.func3, Tryd.ntmps3
  go_wp2_with fail
  go_at_call 4
  refine Hs.out.mono ?_
  rintro e w1 ⟨hw1, r, rfl, hr⟩
  obtain rfl := hw1.symm
  have Hr := hideIt hr
  clear hr
  cases r
  · go_wp2_with fail
    go_ret
    exact ⟨rfl, Below.refl _ _⟩
  · have Hv := hideIt (Hu.out (Hr.out rfl))
    go_wp2_with (go_at_call 5; refine Hv.out.mono ?_; rintro e w2 ⟨rfl, hb⟩)
    go_ret
    exact ⟨rfl, hb⟩
end Go.Proofs.Qxb6500848aDoor
