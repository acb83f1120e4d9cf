/-
  Stale references: what stays; zzSmall1 with its bound.
-/
import Derived.Test.Qxb6500847aGreatDoorOsLz
import Derived.Test.Qxb6500847aGreatDoorOsRv
import Derived.Test.Qxb6500847aGreatDoorOsSn
import Derived.Test.Qxb6500847aGreatDoorOsQj
namespace Go.Proofs.Qxb6500847aGreatDoor.Os
open Go.RowKit FloorA
set_option maxRecDepth 100000
/-- A reference that was handed out: live, or its entry has gone on. -/
def Bn (s : Av) (r : Nat × Nat) : Prop := r.1 < 320 ∧ 0 < r.2 ∧ r.2 < 4294967296 ∧ ((r.2 : Int) < (s.hd r.1).gen ∨ ((s.hd r.1).gen = (r.2 : Int) ∧ (s.hd r.1).typ ≠ 0))
theorem Bn.adv {s s' : Av} {r : Nat × Nat} (h : Bn s r) (a : Adv s s') : Bn s' r := by
  obtain ⟨h1, h2, h3, h4⟩ := h
  refine ⟨h1, h2, h3, ?_⟩
  rcases a r.1 h1 with q | ⟨q, t⟩
  · rcases h4 with h4 | ⟨h4, _⟩
    · exact Or.inl (by omega)
    · exact Or.inl (by omega)
  · rcases h4 with h4 | ⟨h4, ht⟩
    · exact Or.inl (by omega)
    · exact Or.inr ⟨by omega, t ht⟩
theorem Bn.dead {s : Av} {r : Nat × Nat} (h : Bn s r) (hn : ¬ Live s r.1 (r.2 : Int)) : Dd s r.1 (r.2 : Int) := by
  obtain ⟨h1, h2, h3, h4⟩ := h
  refine ⟨h1, by omega, ?_⟩
  rcases h4 with h4 | ⟨h4, ht⟩
  · exact h4
  · exact absurd ⟨h1, by omega, ht, h4⟩ hn
/-- A new reference is none of those handed out. -/
theorem Bn.fresh {s : Av} {r : Nat × Nat} (h : Bn s r) (h0 : (s.hd r.1).typ = 0) (hg : (s.hd r.1).gen = (r.2 : Int)) : False := by
  obtain ⟨_, _, _, h4⟩ := h
  rcases h4 with h4 | ⟨_, ht⟩
  · omega
  · exact ht h0
theorem Bn.born {s : Av} {i g : Nat} (h : Live s i (g : Int)) (hg : g < 4294967296) : Bn s (i, g) := ⟨h.1, by have := h.2.1; omega, hg, Or.inr ⟨h.2.2.2, h.2.2.1⟩⟩
/-- What a Free leaves. -/
theorem free_dead {s s' : Av} {i : Nat} {g : Int} (h : Live s i g) (a : Adv s s') (hn : ¬ Live s' i g) : Dd s' i g := by
  refine ⟨h.1, h.2.1, ?_⟩
  rcases a i h.1 with q | ⟨q, t⟩
  · have := h.2.2.2; omega
  · exact absurd ⟨h.1, h.2.1, t h.2.2.1, q.trans h.2.2.2⟩ hn
set_option maxHeartbeats 1600000 in
theorem smallS_walk (w : World) (a0 : Option Addr) (b off len cap : Nat) (f : Nat → OpV) (hml : len ≤ 1152921504606846976) (ha : 0 < len → a0 = some ⟨b, off, none⟩) (hops : ∀ i, i < len → OpAt w b (off + i * 12) (f i)) :
    Calls Tryz.prog 10 #[.slice a0 len cap] w fun e w' => ((e = .returned (.bool false)) ∨ (e = .returned (.bool true) ∧ len ≤ 65536)) ∧ w' = w := by
  have HO := hideIt hops
  have HA : Hid (0 < len → a0 = some ⟨b, off, none⟩) := ha
  clear hops ha
  go_enter Tryz.func10, Tryz.ntmps10
  go_wp2_with fail
  · go_ret
    first | exact ⟨Or.inl rfl, rfl⟩ | exact ⟨Or.inr ⟨rfl, HLn.out⟩, rfl⟩
  have HLn : Hid (len ≤ 65536) := by
    show len ≤ 65536
    omega
  go_loopw [3, 4] (fun v3 v4 wr => ∃ (k : Nat) (x : Int), k ≤ len ∧ v4 = .int .i64 k ∧ v3 = .int .i64 x ∧ wr = w) (fun _ i _ => len - (intOf i).toNat)
  case atStart => exact ⟨0, _, Nat.zero_le _, rfl, rfl, rfl⟩
  case round =>
    obtain ⟨k, x, hk, rfl, rfl, rfl⟩ := hrel
    by_cases hlt : k < len
    · have hlt' : (k : Int) < (len : Int) := by omega
      obtain rfl := HA.out (by omega)
      have hw := HO.out k hlt
      have hc := hw.wc
      obtain ⟨m, hm⟩ := hw.ws
      obtain ⟨ad, c, e⟩ : ∃ ad c, (f k).wv = .slice ad m c := by
        rcases hm with ⟨rfl, ad, c, e⟩ | ⟨b, o, c, e, _⟩
        · exact ⟨_, _, e⟩
        · exact ⟨_, _, e⟩
      rw [e] at hc
      clear hw hm e
      go_wp2_with fail
      all_goals first
        | (go_roundw
           case rel => exact ⟨k + 1, _, by omega, by go_num, rfl, trivial⟩
           case measure => simp [intOf]; omega)
        | (go_ret
           first | exact ⟨Or.inl rfl, rfl⟩ | exact ⟨Or.inr ⟨rfl, HLn.out⟩, rfl⟩)
    · obtain rfl : k = len := by omega
      go_wp2_with fail
      go_ret
      first | exact ⟨Or.inl rfl, rfl⟩ | exact ⟨Or.inr ⟨rfl, HLn.out⟩, rfl⟩
end Go.Proofs.Qxb6500847aGreatDoor.Os
