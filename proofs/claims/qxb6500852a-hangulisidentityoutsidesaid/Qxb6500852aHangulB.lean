/-
  The walk of HangulIsIdentityOutside: two nested loops that only read.
-/
import Derived.Test.Qxb6500852aHangulA
import Derived.ProofKit
namespace Go.Proofs.Qxb6500852a.HangulA
open Go.RowKit

def edges : List Int := [4351, 4352, 4370, 4371, 4448, 4449, 4469, 4470, 4519, 4520, 4546, 4547, 44031, 44032, 44033, 44059, 44060, 55176, 55203, 55204]
theorem edge_cell (w : World) (k : Nat) (hk : k < 20) :
    (w.alloc (.cells #[.int .i32 4351, .int .i32 4352, .int .i32 4370, .int .i32 4371, .int .i32 4448, .int .i32 4449, .int .i32 4469, .int .i32 4470, .int .i32 4519, .int .i32 4520, .int .i32 4546, .int .i32 4547, .int .i32 44031, .int .i32 44032, .int .i32 44033, .int .i32 44059, .int .i32 44060, .int .i32 55176, .int .i32 55203, .int .i32 55204] 21)).cell? ⟨w.heap.size, k, none⟩ = some (.int .i32 (edges.getD k 0)) := by
  match k, hk with
  | 0, _ | 1, _ | 2, _ | 3, _ | 4, _ | 5, _ | 6, _ | 7, _ | 8, _ | 9, _ | 10, _ | 11, _ | 12, _ | 13, _ | 14, _ | 15, _ | 16, _ | 17, _ | 18, _ | 19, _ => simp [go_sem, edges]
  | n + 20, h => omega

set_option maxHeartbeats 400000 in
theorem outside_walk (w : World) :
    Calls Try.prog 4 #[] w fun e w' => e = .returned (.bool true) ∧ Grown w w' := by
  have hcell0 := edge_cell w
  go_enter Try.func4, Try.ntmps4
  go_wp2
  have hg : Grown w (w.alloc (.cells #[.int .i32 4351, .int .i32 4352, .int .i32 4370, .int .i32 4371, .int .i32 4448, .int .i32 4449, .int .i32 4469, .int .i32 4470, .int .i32 4519, .int .i32 4520, .int .i32 4546, .int .i32 4547, .int .i32 44031, .int .i32 44032, .int .i32 44033, .int .i32 44059, .int .i32 44060, .int .i32 55176, .int .i32 55203, .int .i32 55204] 21)) := by
    apply Grown.alloc; exact Grown.refl _
  generalize w.alloc _ = W at *
  generalize w.heap.size = b at *
  have HC : Hid (∀ (k : Nat), k < 20 → W.cell? ⟨b, k, none⟩ = some (.int .i32 (edges.getD k 0))) := hcell0
  clear hcell0
  go_loop [2] (fun c => ∃ k : Nat, k ≤ 1114112 ∧ c = .int .i32 k) (fun c => 1114112 - (intOf c).toNat)
  case atStart => exact ⟨0, by omega, rfl⟩
  case round =>
    obtain ⟨k, hk, rfl⟩ := hrel
    by_cases hlt : k ≤ 1114111
    · go_wp2_with fail
      refine (decompose_any _ _).mono ?_
      rintro e w' ⟨l, v, t, rfl, hz, rfl⟩
      have hz2 : sB (k : Int) = true ∨ (l = 0 ∧ v = 0 ∧ t = 0 ∧ (decN k != 0) = false ∧ sB (k : Int) = false) := by
        cases es : sB (k : Int)
        · obtain ⟨h1, h2, h3⟩ := hz es
          exact .inr ⟨h1, h2, h3, by simp [decN, es], rfl⟩
        · exact .inl rfl
      clear hz
      rcases hz2 with es | ⟨rfl, rfl, rfl, hend, es⟩
      all_goals
        go_wp2_with (first | (go_at_call 7; refine (isS_any _ _).mono ?_; rintro e w' ⟨rfl, rfl⟩))
        go_loop [42] (fun i => ∃ j : Nat, j ≤ 20 ∧ i = .int .i64 j) (fun i => 20 - (intOf i).toNat)
        case atStart => exact ⟨0, by omega, rfl⟩
        case round =>
          obtain ⟨j, hj, rfl⟩ := hrel
          by_cases hjl : j < 20
          · have hc := HC.out j hjl
            go_wp2_with (first | (go_at_call 8; refine (silent_any _ _ _).mono ?_; rintro e w' ⟨rfl, rfl⟩))
            go_round
            case rel => exact ⟨j + 1, by omega, by go_num⟩
            case measure => simp [intOf]; omega
          · go_wp2
            go_round
            case rel => exact ⟨k + 1, by omega, by go_num⟩
            case measure => simp [intOf]; omega
    · go_wp2
      go_ret
      exact ⟨rfl, hg⟩
end Go.Proofs.Qxb6500852a.HangulA
