/-
  The walk of the closure 'f': it computes the recurrence F.
-/
import Derived.Test.Qxb6500855aSmall
import Derived.Deep.QuietTactic
import Derived.BigQuiet
import Derived.WalkSmall
import Derived.Below
namespace Go.Proofs.Qxb6500855a
open Go.RowKit Plain

/-- The slice value v holds the loads L. -/
def Loads (w : World) (v : Value) (L : List (Int × Int)) : Prop :=
  ∃ (ad : Option Addr) (cap : Nat), v = .slice ad L.length cap ∧ ∀ i (h : i < L.length), ∃ g, ad = some ⟨g, 0, none⟩ ∧ w.cell? ⟨g, i * 2, none⟩ = some (.int .i64 (L[i]).1) ∧ w.cell? ⟨g, i * 2 + 1, none⟩ = some (.int .i64 (L[i]).2)

theorem cell_lt {w : World} {p : Addr} {v : Value} (h : w.cell? p = some v) : p.block < w.heap.size := by
  by_cases hc : p.block < w.heap.size
  · exact hc
  · simp [World.cell?, hc] at h

set_option maxHeartbeats 400000 in
theorem clos_f (x : Int) (bf bl : Nat) (c : Int) (v : Value) (L : List (Int × Int)) (w : World)
    (hx : 0 ≤ x) (hx2 : x ≤ 100000) (hc : InR c) (hL : ∀ l ∈ L, LoadOk l) (hlen : L.length ≤ 8)
    (h1 : w.cell? ⟨bf, 0, none⟩ = some (.int .i64 c)) (h2 : w.cell? ⟨bl, 0, none⟩ = some v) (h3 : Loads w v L) :
    Calls Try.prog 6 #[.int .i64 x, .pointer (some ⟨bf, 0, none⟩), .pointer (some ⟨bl, 0, none⟩)] w
      fun e w' => e = .returned (.int .i64 (F L c x)) ∧ Below w.heap.size w w' := by
  obtain ⟨ad, cap, rfl, h4⟩ := h3
  have H4 : Hid (∀ i (h : i < L.length), ∃ g, ad = some ⟨g, 0, none⟩ ∧ w.cell? ⟨g, i * 2, none⟩ = some (.int .i64 (L[i]).1) ∧ w.cell? ⟨g, i * 2 + 1, none⟩ = some (.int .i64 (L[i]).2)) := h4
  have HL : Hid (∀ l ∈ L, LoadOk l) := hL
  have HC : Hid (InR c) := hc
  clear h4 hL hc
  go_enter Try.func6, Try.ntmps6
  go_wp2
  go_loopw [5, 11] (fun s i w' => ∃ k : Nat, k ≤ L.length ∧ i = .int .i64 k ∧ s = .int .i64 (F (L.take k) c x) ∧ Below w.heap.size w w') (fun _ i _ => L.length - (intOf i).toNat)
  case atStart => exact ⟨0, by omega, rfl, rfl, Below.refl _ _⟩
  case round =>
    obtain ⟨k, hk, rfl, rfl, hb⟩ := hrel
    by_cases hlt : k < L.length
    · obtain ⟨g, rfl, g1, g2⟩ := H4.out k hlt
      have hgb : g < w.heap.size := cell_lt g1
      have g1' : wr.cell? ⟨g, k * 2, none⟩ = some (.int .i64 (L[k]).1) := by rw [hb.cell hgb]; exact g1
      have g2' : wr.cell? ⟨g, k * 2 + 1, none⟩ = some (.int .i64 (L[k]).2) := by rw [hb.cell hgb]; exact g2
      have hgood : LoadOk L[k] := HL.out _ (List.getElem_mem hlt)
      have hin : InR (F (L.take k) c x) := F_in hx hx2 _ _ HC.out (fun l hl => HL.out l (List.mem_of_mem_take hl))
      have HS := F_take_succ L c x k hlt
      have hsz := hb.size
      generalize F (L.take k) c x = s at *
      have HS' : Hid (F (L.take (k + 1)) c x = stepF x s L[k]) := HS
      generalize L[k] = l at *
      obtain ⟨t, cst⟩ := l
      obtain ⟨ht1, ht2, hcst⟩ := hgood
      clear g1 g2 HS
      simp only at g1' g2' ht1 ht2 hcst
      have HI : Hid (InR s) := hin
      have HK : Hid (InR cst) := hcst
      clear hin hcst
      go_wp2_with fail
      go_quiet ((first
        | (go_at_call 8; exact Calls.quiet_of_same (jobs_any _ _ hx hx2 ht1 ht2 _))
        | (go_at_call 7; exact Calls.quiet_of_same (times_any _ _ (jobs_inR (by omega) hx hx2) HK.out _))
        | (go_at_call 5; exact Calls.quiet_of_same (plus_any _ _ HI.out (satMul_in (jobs_inR (by omega) hx hx2) HK.out) _))))
      go_wp2
      go_roundw
      case rel => exact ⟨k + 1, by omega, by go_num, by rw [HS'.out]; rfl, below_drewN (hb.alloc hsz _) _⟩
      case measure => simp [intOf]; omega
    · go_wp2
      go_ret
      exact ⟨ret_int (by rw [List.take_of_length_le (by omega)]), hb⟩

/-- What the recurrence's closure finds in memory, all of it below block B. -/
structure Held (B : Nat) (w : World) (bf bl : Nat) (c : Int) (L : List (Int × Int)) : Prop where
  bf_lt : bf < B
  bl_lt : bl < B
  fixed : w.cell? ⟨bf, 0, none⟩ = some (.int .i64 c)
  loads : ∃ ad cap, w.cell? ⟨bl, 0, none⟩ = some (.slice ad L.length cap) ∧ ∀ i (h : i < L.length), ∃ g, g < B ∧ ad = some ⟨g, 0, none⟩ ∧ w.cell? ⟨g, i * 2, none⟩ = some (.int .i64 (L[i]).1) ∧ w.cell? ⟨g, i * 2 + 1, none⟩ = some (.int .i64 (L[i]).2)
  c_in : InR c
  l_ok : ∀ l ∈ L, LoadOk l
  l_few : L.length ≤ 8

theorem Held.below {B : Nat} {w w' : World} {bf bl : Nat} {c : Int} {L : List (Int × Int)} (h : Held B w bf bl c L) (hb : Below B w w') : Held B w' bf bl c L := by
  obtain ⟨h1, h2, h3, ⟨ad, cap, h4, h5⟩, h6, h7, h8⟩ := h
  refine ⟨h1, h2, by rw [hb.cell h1]; exact h3, ⟨ad, cap, by rw [hb.cell h2]; exact h4, fun i hi => ?_⟩, h6, h7, h8⟩
  obtain ⟨g, hg, rfl, g1, g2⟩ := h5 i hi
  have e1 : w'.cell? ⟨g, i * 2, none⟩ = w.cell? ⟨g, i * 2, none⟩ := hb.cell hg
  have e2 : w'.cell? ⟨g, i * 2 + 1, none⟩ = w.cell? ⟨g, i * 2 + 1, none⟩ := hb.cell hg
  exact ⟨g, hg, rfl, e1.trans g1, e2.trans g2⟩

theorem Held.mono {B B' : Nat} {w : World} {bf bl : Nat} {c : Int} {L : List (Int × Int)} (h : Held B w bf bl c L) (hB : B ≤ B') : Held B' w bf bl c L := by
  obtain ⟨h1, h2, h3, ⟨ad, cap, h4, h5⟩, h6, h7, h8⟩ := h
  refine ⟨by omega, by omega, h3, ⟨ad, cap, h4, fun i hi => ?_⟩, h6, h7, h8⟩
  obtain ⟨g, hg, e, g1, g2⟩ := h5 i hi
  exact ⟨g, by omega, e, g1, g2⟩

theorem clos_held {x : Int} {B bf bl : Nat} {c : Int} {L : List (Int × Int)} {W w : World} (hx : 0 ≤ x) (hx2 : x ≤ 100000) (hW : Held B W bf bl c L) (hb : Below B W w) (hB : B ≤ w.heap.size) :
    Calls Try.prog 6 #[.int .i64 x, .pointer (some ⟨bf, 0, none⟩), .pointer (some ⟨bl, 0, none⟩)] w
      fun e w' => e = .returned (.int .i64 (F L c x)) ∧ Below B W w' ∧ B ≤ w'.heap.size := by
  have hH := hW.below hb
  obtain ⟨ad, cap, h4, h5⟩ := hH.loads
  refine (clos_f x bf bl c _ L w hx hx2 hH.c_in hH.l_ok hH.l_few hH.fixed h4 ⟨ad, cap, rfl, fun i hi => ?_⟩).mono ?_
  · obtain ⟨g, _, e, g1, g2⟩ := h5 i hi
    exact ⟨g, e, g1, g2⟩
  · rintro e w' ⟨rfl, hb'⟩
    exact ⟨rfl, hb.trans (hb'.mono hB), by have := hb'.size; omega⟩
end Go.Proofs.Qxb6500855a
