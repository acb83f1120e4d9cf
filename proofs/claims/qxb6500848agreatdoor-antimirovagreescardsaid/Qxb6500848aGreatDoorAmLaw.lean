/-
  AntimirovAgrees.
-/
import Derived.Test.Qxb6500848aGreatDoorAmRun
namespace Go.Proofs.Qxb6500848aGreatDoor
open Go.RowKit Pl Go.Maps
set_option maxRecDepth 100000

set_option maxHeartbeats 2000000 in
theorem law_am (w : World) (hg : Gd tabC w) (he : Ge w) {ad : Addr} (hn0 : Gp w ad) (a0 : Option Addr) (b off n cap : Nat) (f : Nat → OpV) (hn : n ≤ 1152921504606846976) (ha : 0 < n → a0 = some ⟨b, off, none⟩) (hf : ∀ i, i < n → OpAt w b (off + i * 7) (f i)) :
    Calls Tryz.prog 4 #[.slice a0 n cap] w fun e w' => e = .returned (.bool true) ∧ Below w.heap.size w w' := by
  have Hs := hideIt (small_walk w a0 b off n cap f hn ha hf)
  have Hu := hideIt (fun (h : n ≤ 65536 ∧ ∀ i, i < n → (f i).wd.length ≤ 65536 ∧ (f i).pd.length ≤ 65536) => subjects_am w hg he hn0 a0 b off n cap f h.1 ha hf h.2)
  clear hf ha hg he hn0
  go_enter Tryz.func4, Tryz.ntmps4
  go_wp2_with fail
  go_at_call 10
  refine Hs.out.mono ?_
  rintro e w1 ⟨hw1, r, rfl, hr⟩
  obtain rfl := hw1.symm
  have Hr := hideIt hr
  clear hr
  cases r
  · go_wp2_with fail
    go_ret
    exact ⟨rfl, Below.refl _ _⟩
  · have Hv := hideIt (Hu.out (Hr.out rfl))
    go_wp2_with (go_at_call 12; refine Hv.out.mono ?_; rintro e w3 ⟨rfl, hb⟩)
    go_ret
    exact ⟨rfl, hb⟩
end Go.Proofs.Qxb6500848aGreatDoor
