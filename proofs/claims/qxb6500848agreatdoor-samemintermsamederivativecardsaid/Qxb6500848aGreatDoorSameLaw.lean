/-
  SameMintermSameDerivative.
-/
import Derived.Test.Qxb6500848aGreatDoorSameRun
import Derived.Test.Qxb6500848aGreatDoorNamed
namespace Go.Proofs.Qxb6500848aGreatDoor
open Go.RowKit Pl Go.Maps
set_option maxRecDepth 100000

set_option maxHeartbeats 2000000 in
theorem law_same (w : World) (hg : Gd tabC w) (he : Ge w) {ad : Addr} (hn0 : Gn w ad) (a0 : Option Addr) (b off n cap : Nat) (f : Nat → OpV) (hn : n ≤ 1152921504606846976) (ha : 0 < n → a0 = some ⟨b, off, none⟩) (hf : ∀ i, i < n → OpAt w b (off + i * 7) (f i)) :
    Calls Tryz.prog 3 #[.slice a0 n cap] w fun e w' => e = .returned (.bool true) ∧ Below w.heap.size w w' := by
  have Hs := hideIt (small_walk w a0 b off n cap f hn ha hf)
  have Hm := hideIt (fun (h : n ≤ 65536 ∧ ∀ i, i < n → (f i).wd.length ≤ 65536 ∧ (f i).pd.length ≤ 65536) => named_walk w a0 b off n cap f h.1 ha hf h.2)
  have Hu := hideIt (fun (h : n ≤ 65536 ∧ ∀ i, i < n → (f i).wd.length ≤ 65536 ∧ (f i).pd.length ≤ 65536) (W : World) (hW : Below w.heap.size w W) (xb : Nat) (cv : Value) (cs : List Int) (q1 : W.cell? ⟨xb, 0, none⟩ = some cv) (q2 : Ints (fun _ => False) W cv cs) (q3 : 1 ≤ cs.length) (q4 : cs.length ≤ 100000000000) =>
    subjects_same W (hg.below hW (cell_lt (hg 0 (by omega)))) (he.below hW he.lt) (ad := ad) ((hW.cell (p := ⟨0, 0, none⟩) (cell_lt hn0)).trans hn0) q1 q2 q3 q4 a0 b off n cap f h.1 ha (fun i hi => (hf i hi).below hW (Nat.le_refl _)) h.2)
  clear hf ha hg he hn0
  go_enter Tryz.func3, Tryz.ntmps3
  go_wp2_with fail
  go_at_call 10
  refine Hs.out.mono ?_
  rintro e w1 ⟨hw1, r, rfl, hr⟩
  obtain rfl := hw1.symm
  have Hr := hideIt hr
  clear hr
  cases r
  · go_wp2_with fail
    go_ret
    exact ⟨rfl, Below.refl _ _⟩
  · have Hm2 := hideIt (Hm.out (Hr.out rfl))
    have Hv := hideIt (Hu.out (Hr.out rfl))
    go_wp2_with fail
    go_at_call 11
    refine Hm2.out.mono ?_
    rintro e w2 ⟨cv, cs, rfl, hci, hcz, hcp, hcl, hb2⟩
    have hb3 : ∀ o : Obj, Below w.heap.size w (w2.alloc o) := fun o => hb2.alloc hb2.size o
    have Hc : Hid (Ints (fun _ => False) (w2.alloc (.cells #[cv] 24)) cv cs) := (hci.more (fun _ _ x => x.elim)).below (alloc_below _) (Nat.le_refl _)
    have Hb3 := hideIt hb3
    obtain ⟨ca, cc, rfl, _, _, _⟩ := hci
    clear hcz hb2 hb3
    go_wp2_with (go_at_call 12; refine (Hv.out _ (Hb3.out _) w2.heap.size _ cs (box_cell (heap_new _ _) 0) Hc.out hcp hcl).mono ?_; rintro e w3 ⟨rfl, hb⟩)
    go_ret
    exact ⟨rfl, (Hb3.out _).trans (hb.mono (Hb3.out _).size)⟩
end Go.Proofs.Qxb6500848aGreatDoor
