/-
  cramped.
-/
import Derived.Test.Qxb6500848aGreatDoorRfA
namespace Go.Proofs.Qxb6500848aGreatDoor
open Go.RowKit Pl Go.Maps
set_option maxRecDepth 100000

theorem setLimit_walk {ab : Nat} {l0 : Int} (l : Int) {w : World} (hc : w.cell? ⟨ab, 1, none⟩ = some (.int .i64 l0)) (hz : w.frozen? ⟨ab, 1, none⟩ = false) :
    Calls Tryz.prog 96 #[.pointer (some ⟨ab, 0, none⟩), .int .i64 l] w fun e w' => e = .returned (.tuple #[]) ∧ w' = w.setCell ⟨ab, 1, none⟩ (.int .i64 l) := by
  go_enter Tryz.func96, Tryz.ntmps96
  go_wp2
  go_end0
  exact ⟨rfl, rfl⟩
theorem setLimit_deferred {ab : Nat} {l0 : Int} (l : Int) (u : FrameMode) {w : World} (hc : w.cell? ⟨ab, 1, none⟩ = some (.int .i64 l0)) (hz : w.frozen? ⟨ab, 1, none⟩ = false) :
    CallsD Tryz.prog 96 #[.pointer (some ⟨ab, 0, none⟩), .int .i64 l] u w fun e u' w' => u' = u ∧ (e = .returned (.tuple #[]) ∧ w' = w.setCell ⟨ab, 1, none⟩ (.int .i64 l)) := by
  go_enter_d Tryz.func96, Tryz.ntmps96
  go_wp2
  go_end0
  exact ⟨rfl, rfl⟩
theorem lenS_walk {ab : Nat} {a : Option Addr} {n c : Nat} {w : World} (hc : w.cell? ⟨ab, 0, none⟩ = some (.slice a n c)) :
    Calls Tryz.prog 68 #[.pointer (some ⟨ab, 0, none⟩)] w fun e w' => e = .returned (.int .i64 n) ∧ w' = w := by
  go_enter Tryz.func68, Tryz.ntmps68
  go_wp2
  go_ret
  exact ⟨rfl, rfl⟩


/-- What cramped asks of the state. -/
structure CrA (kb ab : Nat) (l : Int) (w : World) : Prop where
  k0 : w.cell? ⟨kb, 0, none⟩ = some (.pointer (some ⟨ab, 0, none⟩))
  a0 : ∃ a n c, n ≤ 65536 ∧ w.cell? ⟨ab, 0, none⟩ = some (.slice a n c)
  a1 : w.cell? ⟨ab, 1, none⟩ = some (.int .i64 l)
  fz : w.frozen? ⟨ab, 1, none⟩ = false

set_option maxHeartbeats 4000000 in
theorem cramped_walk {kb ab : Nat} {Pre Post : Int → World → Prop} (hP : ∀ l w, Pre l w → CrA kb ab l w) (hQ : ∀ l w, Post l w → CrA kb ab l w) (set1 : ∀ l l' w, Pre l w → Pre l' (w.setCell ⟨ab, 1, none⟩ (.int .i64 l'))) (set2 : ∀ l l' w, Post l w → Post l' (w.setCell ⟨ab, 1, none⟩ (.int .i64 l'))) (drew : ∀ l w, Pre l w → Pre l w.drew)
    {w : World} (h : Pre 65536 w) (room : Int) {caps : Array Value} (hf : ∀ l W, l ≤ 65536 → Pre l W → Calls Tryz.prog 130 caps W fun e w' => e = .returned (.tuple #[]) ∧ Post l w') :
    Calls Tryz.prog 53 #[.pointer (some ⟨kb, 0, none⟩), .int .i64 room, .func (.func 130) #[] caps] w fun e w' => e = .returned (.tuple #[]) ∧ Post 65536 w' := by
  have H := hideIt h
  have HP := hideIt hP
  have HQ := hideIt hQ
  have HF := hideIt hf
  have HS1 := hideIt set1
  have HS2 := hideIt set2
  have HD := hideIt drew
  obtain ⟨f0, ⟨a, n, c, hn, f1⟩, f2, fz⟩ := hP _ _ h
  clear h hP hQ hf set1 set2 drew
  by_cases h1 : 0 < room
  · by_cases h2 : room ≤ 65536
    · go_enter_defers Tryz.func53, Tryz.ntmps53
      go_upto_region 1 with fail
      have KP : Hid (∀ W : World, W.heap = w.heap → W.cell? ⟨ab, 0, none⟩ = some (.slice a n c) ∧ W.cell? ⟨ab, 1, none⟩ = some (.int .i64 65536) ∧ W.frozen? ⟨ab, 1, none⟩ = false) := fun W e => by simp only [World.cell?, World.frozen?, e] at *; exact ⟨f1, f2, fz⟩
      go_region_held3 (fun w' => w'.cell? ⟨kb, 0, none⟩ = some (.pointer (some ⟨ab, 0, none⟩))) (go_keep)
        (first
          | (go_at_call 68; refine (lenS_walk (KP.out w.drew rfl).1).mono ?_; rintro e w' ⟨rfl, rfl⟩)
          | (go_at_call 96; refine (setLimit_walk _ (KP.out w.drew rfl).2.1 (KP.out w.drew rfl).2.2).mono ?_; rintro e w2 ⟨rfl, hw2⟩; have HPr : Hid (∃ l : Int, l ≤ 65536 ∧ Pre l w2) := ⟨_, Int.min_le_right _ _, hw2.symm ▸ HS1.out _ _ _ (HD.out _ _ H.out)⟩; have k0 : w2.cell? ⟨kb, 0, none⟩ = some (.pointer (some ⟨ab, 0, none⟩)) := Exists.elim HPr.out (fun l q => (HP.out l w2 q.2).k0); clear hw2))
      obtain ⟨l, hll, hpre⟩ := HPr.out
      have HL := hideIt hll
      have HPre := hideIt hpre
      clear hll hpre f0 f1 f2 fz
      go_wp2_with (go_at_call 130; refine (HF.out l w2 HL.out HPre.out).mono ?_; rintro e w3 ⟨rfl, hq⟩)
      have hc := HQ.out _ _ hq
      refine leaves_cons (f := 96) (args := #[.pointer (some ⟨ab, 0, none⟩), .int .i64 65536]) (by simp) (by simp [go_sem]) ?_
      refine (setLimit_deferred 65536 .returning hc.a1 hc.fz).mono ?_
      rintro e u' w4 ⟨rfl, rfl, rfl⟩
      exact ⟨_, results_none rfl _ _ _, rfl, HS2.out _ _ _ hq⟩
    · go_enter_defers Tryz.func53, Tryz.ntmps53
      go_wp2_with (go_at_call 130; refine (HF.out 65536 w (Int.le_refl _) H.out).mono ?_; rintro e w' ⟨rfl, hq⟩)
      exact ⟨_, results_none rfl _ _ _, rfl, hq⟩
  · go_enter_defers Tryz.func53, Tryz.ntmps53
    go_wp2_with (go_at_call 130; refine (HF.out 65536 w (Int.le_refl _) H.out).mono ?_; rintro e w' ⟨rfl, hq⟩)
    exact ⟨_, results_none rfl _ _ _, rfl, hq⟩
end Go.Proofs.Qxb6500848aGreatDoor
