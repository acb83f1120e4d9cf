/-
  The walks of Has and Nullable.
-/
import Derived.Test.Qxb6500848aGreatDoorTableC
import Derived.Test.Qxb6500848aGreatDoorMakers
import Derived.Carry
namespace Go.Proofs.Qxb6500848aGreatDoor
open Go.RowKit Pl Go.Maps
set_option maxRecDepth 100000

/-- A bool that says p; what lay there lies there still. -/
def Says (p : Prop) (w : World) (e : Ending) (w' : World) : Prop := ∃ b : Bool, e = .returned (.bool b) ∧ (b = true ↔ p) ∧ Below w.heap.size w w'

theorem tst_new {X : Nat → Prop} {w : World} {ab nb : Nat} {lim : Int} {A : List Nd} (hS : St X w ab nb lim A) {wv : Value} {wd : Word} (hw : Ints X w wv wd) :
    TSt (fun z => X z ∨ z = w.heap.size) A wd wv ab nb w.heap.size lim (w.alloc (.map #[] 0)) := by
  have hm : ∀ b, b < w.heap.size → (X b ∨ b = w.heap.size) → X b := fun b hb h => h.elim id (fun e => by omega)
  have la := hS.ar.la
  have ln := hS.xlt nb hS.ar.xn
  refine ⟨(hS.ar.more (fun b hb => Or.inl hb) hm).below (alloc_below _) (Nat.le_refl _), (hw.more hm).below (alloc_below _) (Nat.le_refl _), Or.inr rfl, by omega, by omega, fun z hz => ?_, fun _ => .nilFunc, [], Mp.made _ _ _, fun k hk => absurd hk (by simp)⟩
  rw [Deep.nblk_alloc]
  rcases hz with hz | hz
  · have := hS.xlt z hz; omega
  · omega

set_option maxHeartbeats 1000000 in
theorem has_walk {X : Nat → Prop} {w : World} {ab nb : Nat} {lim : Int} {A : List Nd} (hS : St X w ab nb lim A) {wv : Value} {wd : Word} (hw : Ints X w wv wd) (hn : wd.length ≤ 1000) {x : Int} (hx : Valid A x) :
    Calls Tryz.prog 41 #[.pointer (some ⟨ab, 0, none⟩), .int .i64 x, wv] w (Says (Alph wd ∧ lang A x wd) w) := by
  have HT := hideIt (tst_new hS hw)
  have Hx := hideIt hx
  obtain ⟨wa, wc, rfl, w1, w2, w3⟩ := hw
  have W3 := hideIt w3
  clear hS hx w3
  go_enter Tryz.func41, Tryz.ntmps41
  go_wp2
  go_loopw [11] (fun i wr => ∃ k : Nat, k ≤ wd.length ∧ i = .int .i64 k ∧ (∀ j (h : j < wd.length), j < k → 0 ≤ wd[j] ∧ wd[j] ≤ 196607) ∧ wr = w) (fun i _ => wd.length - (intOf i).toNat)
  case atStart => exact ⟨0, by omega, rfl, fun j _ h => by omega, rfl⟩
  case round =>
    obtain ⟨k, hk, rfl, hal, rfl⟩ := hrel
    by_cases hlt : k < wd.length
    · have hlt' : (k : Int) < (wd.length : Int) := by omega
      obtain ⟨g, o, rfl, _, hc⟩ := W3.out (fun e => by rw [e] at hlt; cases hlt)
      have c0 := hc k hlt
      have HA : Hid (0 ≤ wd[k] → wd[k] ≤ 196607 → ∀ j (h : j < wd.length), j < k + 1 → 0 ≤ wd[j] ∧ wd[j] ≤ 196607) := fun h0 h1 j hj hjk => by
        by_cases e : j = k
        · subst e; exact ⟨h0, h1⟩
        · exact hal j hj (by omega)
      have HN : Hid (¬ (0 ≤ wd[k] ∧ wd[k] ≤ 196607) → ¬ Alph wd) := fun h a => h (a _ (List.getElem_mem hlt))
      generalize wd[k] = c at *
      clear hc hal
      by_cases h0 : c < 0
      · go_wp2
        go_ret
        exact ⟨false, rfl, ⟨(fun h => by cases h), fun h => absurd h.1 (HN.out (by omega))⟩, Below.refl _ _⟩
      · by_cases h1 : 196607 < c
        · go_wp2
          go_ret
          exact ⟨false, rfl, ⟨(fun h => by cases h), fun h => absurd h.1 (HN.out (by omega))⟩, Below.refl _ _⟩
        · go_wp2
          go_roundw
          case rel => exact ⟨k + 1, by omega, by go_num, HA.out (by omega) (by omega), trivial⟩
          case measure => simp [intOf]; omega
    · obtain rfl : k = wd.length := by omega
      have HAl : Hid (Alph wd) := fun c hc => by
        obtain ⟨j, hj, rfl⟩ := List.getElem_of_mem hc
        exact hal j hj hj
      clear hal
      have hmm := @run_makeMap Tryz.prog
      go_wp2_with (go_at_call 91; refine (table_walk hn HAl.out _ x rfl Hx.out _ _ HT.out).mono ?_; rintro e w1 ⟨b, f, rfl, hT, hR, hO, hS1, hE⟩; have r0 := hT.rows 0 (by omega); have r1 := (hT.cells 0 wd.length (by omega) (by omega)).1)
      go_ret
      refine ⟨f 0 wd.length, rfl, ?_, (alloc_below _).trans (hE.below' (B' := wr.heap.size) (by rw [Deep.nblk_alloc]; omega) (fun k hk e => by omega))⟩
      rw [hR 0 wd.length (by omega) (by omega), fac_whole]
      exact ⟨fun h => ⟨HAl.out, h⟩, fun h => h.2⟩

set_option maxHeartbeats 1000000 in
theorem nullable_walk {X : Nat → Prop} {w : World} {ab nb : Nat} {lim : Int} {A : List Nd} (hS : St X w ab nb lim A) {x : Int} (hx : Valid A x) :
    Calls Tryz.prog 86 #[.pointer (some ⟨ab, 0, none⟩), .int .i64 x] w (Says (lang A x []) w) := by
  have HS := hideIt hS
  have Hx := hideIt hx
  clear hS hx
  go_enter Tryz.func86, Tryz.ntmps86
  go_wp2_with (go_at_call 41; refine (has_walk HS.out (Seq.nil X w) (by simp) Hx.out).mono ?_; rintro e w1 ⟨b, rfl, hb, hbel⟩)
  go_ret
  exact ⟨b, rfl, hb.trans ⟨fun h => h.2, fun h => ⟨alph_nil, h⟩⟩, hbel⟩
end Go.Proofs.Qxb6500848aGreatDoor
