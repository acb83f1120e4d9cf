/-
  zzSmall1; bytes.Equal.
-/
import Derived.Test.Qxb6500847aGreatDoorOsOp
import Derived.Laws.BytesArg
namespace Go.Proofs.Qxb6500847aGreatDoor.Os
open Go.RowKit FloorA
set_option maxRecDepth 100000
theorem OpAt.below {w w' : World} {b o : Nat} {v : OpV} (h : OpAt w b o v) (k : Below w.heap.size w w') : OpAt w' b o v := by
  obtain ⟨h1, h2, h3, h4, h5, h6, h7, h8, h9, hm, hi, hj⟩ := h
  exact ⟨fun j x hj => by have := h1 j x hj; exact (k.cell (p := ⟨b, o + j, none⟩) (cell_lt this)).trans this, h2, h3, h4, h5, h6, h7, h8, h9, hm.below k, hi, hj⟩
theorem OpAt.wc {w : World} {b o : Nat} {v : OpV} (h : OpAt w b o v) : w.cell? ⟨b, o + 11, none⟩ = some v.wv := h.rng 11 _ rfl
set_option maxHeartbeats 1600000 in
theorem smallS_walk (w : World) (a0 : Option Addr) (b off len cap : Nat) (f : Nat → OpV) (hml : len ≤ 1152921504606846976) (ha : 0 < len → a0 = some ⟨b, off, none⟩) (hops : ∀ i, i < len → OpAt w b (off + i * 12) (f i)) :
    Calls Tryz.prog 10 #[.slice a0 len cap] w fun e w' => ((e = .returned (.bool false)) ∨ (e = .returned (.bool true) ∧ len ≤ 65536)) ∧ w' = w := by
  have HO := hideIt hops
  have HA : Hid (0 < len → a0 = some ⟨b, off, none⟩) := ha
  clear hops ha
  go_enter Tryz.func10, Tryz.ntmps10
  go_wp2_with fail
  · go_ret
    first | exact ⟨Or.inl rfl, rfl⟩ | exact ⟨Or.inr ⟨rfl, HLn.out⟩, rfl⟩
  have HLn : Hid (len ≤ 65536) := by
    show len ≤ 65536
    omega
  go_loopw [3, 4] (fun v3 v4 wr => ∃ (k : Nat) (x : Int), k ≤ len ∧ v4 = .int .i64 k ∧ v3 = .int .i64 x ∧ wr = w) (fun _ i _ => len - (intOf i).toNat)
  case atStart => exact ⟨0, _, Nat.zero_le _, rfl, rfl, rfl⟩
  case round =>
    obtain ⟨k, x, hk, rfl, rfl, rfl⟩ := hrel
    by_cases hlt : k < len
    · have hlt' : (k : Int) < (len : Int) := by omega
      obtain rfl := HA.out (by omega)
      have hw := HO.out k hlt
      have hc := hw.wc
      have hm := hw.ws
      obtain ⟨m, ad, c, e⟩ : ∃ m ad c, (f k).wv = .slice ad m c := by
        rcases hm with ⟨_, ad, c, e⟩ | ⟨b, o, c, e, _⟩
        · exact ⟨_, _, _, e⟩
        · exact ⟨_, _, _, e⟩
      rw [e] at hc
      clear hw hm e
      go_wp2_with fail
      all_goals first
        | (go_roundw
           case rel => exact ⟨k + 1, _, by omega, by go_num, rfl, trivial⟩
           case measure => simp [intOf]; omega)
        | (go_ret
           first | exact ⟨Or.inl rfl, rfl⟩ | exact ⟨Or.inr ⟨rfl, HLn.out⟩, rfl⟩)
    · obtain rfl : k = len := by omega
      go_wp2_with fail
      go_ret
      first | exact ⟨Or.inl rfl, rfl⟩ | exact ⟨Or.inr ⟨rfl, HLn.out⟩, rfl⟩
set_option maxHeartbeats 1600000 in
theorem Equal_walk (w : World) (bs : List Int) (g1 c1 g2 c2 : Nat) (h1 : BytesAt w g1 0 bs) (h2 : BytesAt w g2 0 bs) :
    Calls Tryz.prog 20 #[.slice (some ⟨g1, 0, none⟩) bs.length c1, .slice (some ⟨g2, 0, none⟩) bs.length c2] w fun e w' => e = .returned (.bool true) ∧ w' = w := by
  have e1 := run_convert_bytes_arg (P := Tryz.prog) w 38 5 Tryz.underlying38 Tryz.underlying5 g1 0 bs.length c1 bs rfl (fun i hi => (h1 i hi).1) 9 Tryz.underlying9
  have e2 := run_convert_bytes_arg (P := Tryz.prog) w 38 5 Tryz.underlying38 Tryz.underlying5 g2 0 bs.length c2 bs rfl (fun i hi => (h2 i hi).1) 9 Tryz.underlying9
  clear h1 h2
  go_enter Tryz.func20, Tryz.ntmps20
  go_wp2
  go_ret
  exact ⟨by simp, rfl⟩
end Go.Proofs.Qxb6500847aGreatDoor.Os
