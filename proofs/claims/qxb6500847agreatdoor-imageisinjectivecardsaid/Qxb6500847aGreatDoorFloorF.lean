/-
  The walk of Decode over an image that lists all entries as free.
-/
import Derived.Test.Qxb6500847aGreatDoorFloorE
namespace Go.Proofs.Qxb6500847aGreatDoor.FloorA
open Go.RowKit
set_option maxRecDepth 100000

/-- The three numbers of entry k: gap 0, age v, type none. -/
def EntryAt (w : World) (g k : Nat) (v : Int) : Prop :=
  UvAt w g (4 + 3 * k) (964 - (4 + 3 * k)) 0 1 ∧ UvAt w g (4 + 3 * k + 1) (964 - (4 + 3 * k + 1)) v 1 ∧ UvAt w g (4 + 3 * k + 1 + 1) (964 - (4 + 3 * k + 1 + 1)) 0 1

theorem zero229_size : Tryz.zeroCells229.size = 324 := by kernel_rfl

theorem dec_start {w w1 : World} {A g cap : Nat} (hg : g < w.heap.size) (hA : w.heap.size ≤ A) (hAl : A < w1.heap.size) (hb : Below w.heap.size w w1) (hc : ∀ i, i < 2910 → ∃ x, w1.cell? ⟨A, i, none⟩ = some x) (hf : ∀ i, i < 2910 → w1.frozen? ⟨A, i, none⟩ = false) :
    Dec w w.heap.size w1.heap.size A g 964 cap 0 (w1.alloc (.cells ((((Tryz.zeroCells229.setIfInBounds 0 (.slice (some ⟨g, 0, none⟩) 964 cap)).setIfInBounds 1 (.int .i64 0)).setIfInBounds 2 (.pointer none)).setIfInBounds 3 (.pointer (some ⟨A, 0, none⟩))) 229)) := by
  have hz := zero229_size
  generalize Tryz.zeroCells229 = z at *
  have hn := heap_alloc_new w1 (.cells ((((z.setIfInBounds 0 (.slice (some ⟨g, 0, none⟩) 964 cap)).setIfInBounds 1 (.int .i64 0)).setIfInBounds 2 (.pointer none)).setIfInBounds 3 (.pointer (some ⟨A, 0, none⟩))) 229)
  have hold : ∀ o, (w1.alloc (.cells ((((z.setIfInBounds 0 (.slice (some ⟨g, 0, none⟩) 964 cap)).setIfInBounds 1 (.int .i64 0)).setIfInBounds 2 (.pointer none)).setIfInBounds 3 (.pointer (some ⟨A, 0, none⟩))) 229)).cell? ⟨A, o, none⟩ = w1.cell? ⟨A, o, none⟩ := fun o => World.cell?_of_block (heap_alloc_old _ _ hAl)
  have holdf : ∀ o, (w1.alloc (.cells ((((z.setIfInBounds 0 (.slice (some ⟨g, 0, none⟩) 964 cap)).setIfInBounds 1 (.int .i64 0)).setIfInBounds 2 (.pointer none)).setIfInBounds 3 (.pointer (some ⟨A, 0, none⟩))) 229)).frozen? ⟨A, o, none⟩ = w1.frozen? ⟨A, o, none⟩ := fun o => World.frozen?_of_block (heap_alloc_old _ _ hAl)
  have hsz := hb.size
  refine ⟨hb.alloc (by omega) _, hg, by omega, hA, by omega, ?_, ?_, ?_, ?_, fun i hi => ⟨z[4 + i]'(by omega), ?_⟩, fun i hi => ?_, fun i hi => by rw [hold]; exact hc _ (by omega), fun i hi => by rw [holdf]; exact hf _ (by omega)⟩
  · rw [World.cell?]; simp only [hn]; simp [hz]
  · rw [World.cell?]; simp only [hn]; simp [hz]
  · rw [World.cell?]; simp only [hn]; simp [hz]
  · rw [World.cell?]; simp only [hn]; simp [hz]
  · rw [World.cell?]; simp only [hn]
    simp only [Option.isSome_none, Bool.false_eq_true, if_false]
    rw [Array.getElem?_setIfInBounds_ne (by omega), Array.getElem?_setIfInBounds_ne (by omega), Array.getElem?_setIfInBounds_ne (by omega), Array.getElem?_setIfInBounds_ne (by omega)]
    exact Array.getElem?_eq_getElem _
  · rw [World.frozen?]; simp only [hn]; simp

set_option maxHeartbeats 3200000 in
theorem decode_any (g cap : Nat) (body : List Int) (w : World) (hcap : 972 ≤ cap) (hcap2 : cap ≤ maxLen) (hlen : body.length = 964) (hb : BytesAt w g 0 body) (hd : BytesAt w g 964 (dbytes 8 (dig body)))
    (h0 : UvAt w g 0 964 1 1) (h1 : UvAt w g 1 963 1 1) (h2 : UvAt w g 2 962 320 2) (hk : (∀ k, k < 320 → EntryAt w g k 1) ∨ EntryAt w g 0 0) :
    Calls Tryz.prog 29 #[.slice (some ⟨g, 0, none⟩) 972 cap] w
      fun e w' => ∃ b off s, e = .returned (.tuple #[.pointer none, .iface 218 (.pointer (some ⟨b, 0, none⟩))]) ∧ w'.cell? ⟨b, 0, none⟩ = some (.int .i64 off) ∧ w'.cell? ⟨b, 1, none⟩ = some (.string s) ∧ Below w.heap.size w w' := by
  unfold maxLen at hcap2
  have hg : g < w.heap.size := by rcases h0 with ⟨_, _, _, _, h⟩ | ⟨h, _⟩ <;> first | exact cell_lt h | omega
  have HB := hideIt hb
  have HD := hideIt hd
  have HL := hideIt hlen
  have HK := hideIt hk
  have H0 := hideIt h0
  have H1 := hideIt h1
  have H2 := hideIt h2
  clear hb hd hlen hk h0 h1 h2
  have hdg := dig_range body
  have HDG := hideIt hdg
  clear hdg
  have hc1 : (964 : Int) ≤ (cap : Int) := by omega
  have hc2 : (972 : Int) ≤ (cap : Int) := by omega
  go_enter Tryz.func29, Tryz.ntmps29
  go_wp2_with fail
  refine (readDigest_any g 964 (cap - 964) (dig body) _ HDG.out.1 HDG.out.2 HD.out).mono ?_
  rintro e w1 ⟨rfl, hw1⟩
  subst w1
  go_wp2_with fail
  refine (digest_any g 0 964 cap body _ HL.out (by omega) HB.out).mono ?_
  rintro e w1 ⟨rfl, hw1⟩
  subst w1
  go_wp2_with fail
  refine (new_any _).mono ?_
  rintro e w1 ⟨A, rfl, hA, hbel, hcell, hfree⟩
  have HBE := hideIt hbel
  have HC := hideIt hcell
  have HF := hideIt hfree
  have hsz := hbel.size
  have hAl : A < w1.heap.size := by
    obtain ⟨x, hx⟩ := hcell 0 (by omega)
    exact cell_lt hx
  clear hbel hcell hfree
  go_wp2_with fail
  refine (number_dec (dec_start hg hA hAl HBE.out HC.out HF.out) (by omega) (by omega) (by omega) H0.out (by omega)).mono ?_
  rintro e w2 ⟨rfl, hd2⟩
  generalize w1.heap.size = D at *
  have D2 := hideIt hd2
  have p2 := hd2.pos
  have e2 := hd2.err
  clear hd2
  go_wp2_with fail
  refine (number_dec D2.out (by omega) (by omega) (by omega) H1.out (by omega)).mono ?_
  rintro e w3 ⟨rfl, hd3⟩
  have D3 := hideIt hd3
  have e3 := hd3.err
  clear hd3
  go_wp2_with fail
  refine (number_dec D3.out (by omega) (by omega) (by omega) H2.out (by omega)).mono ?_
  rintro e w4 ⟨rfl, hd4⟩
  have D4 := hideIt hd4
  have e4 := hd4.err
  clear hd4
  go_wp2_with fail
  go_loopw [111] (fun i wr => ∃ k : Nat, k ≤ 320 ∧ i = .int .i64 k ∧ Dec w w.heap.size D A g 964 cap 4 wr) (fun i _ => 320 - (intOf i).toNat)
  case atStart => exact ⟨0, by omega, rfl, D4.out⟩
  case round =>
    obtain ⟨k, hk, rfl, hdr⟩ := hrel
    have DR := hideIt hdr
    have a1 := hdr.ar
    clear hdr
    by_cases hlt : k < 320
    · go_wp2_with fail
      refine (setFreeGen_dec DR.out hlt (by omega) (by omega)).mono ?_
      rintro e w5 ⟨rfl, hd5⟩
      have D5 := hideIt hd5
      clear hd5
      go_wp2
      go_roundw
      case rel => exact ⟨k + 1, by omega, by go_num, D5.out⟩
      case measure => simp [intOf]; omega
    · go_wp2_with fail
      go_loopw [11, 13, 14] (fun s11 s13 s14 wr => ∃ k : Nat, k ≤ 320 ∧ s11 = .int .u64 (320 - (k : Int)) ∧ s13 = .int .i64 k ∧ s14 = .bool false ∧ Dec w w.heap.size D A g 964 cap (4 + 3 * k) wr ∧ (k = 0 ∨ ∀ k, k < 320 → EntryAt w g k 1)) (fun s11 _ _ _ => (intOf s11).toNat)
      case atStart => exact ⟨0, by omega, rfl, rfl, rfl, DR.out, .inl rfl⟩
      case round =>
        obtain ⟨m, hm, rfl, rfl, rfl, hd6, hst⟩ := hrel
        have D6 := hideIt hd6
        have HST := hideIt hst
        have p6 := hd6.pos
        have e6 := hd6.err
        clear hd6 hst
        by_cases hlt2 : m < 320
        · by_cases hall : ∀ k, k < 320 → EntryAt w g k 1
          · have HA := hideIt hall
            clear hall
            have hpos : 0 < 320 - (m : Int) := by omega
            go_wp2_with fail
            obtain ⟨u0, u1, u2⟩ := HA.out m hlt2
            refine (entry_free D6.out (by omega) (by omega) (by omega) hlt2 u0 u1 u2).mono ?_
            rintro e w7 ⟨rfl, hd7⟩
            have D7 := hideIt hd7
            have e7 := hd7.err
            clear hd7 u0 u1 u2
            go_wp2_with fail
            go_roundw
            case rel => exact ⟨m + 1, by omega, by go_num, by go_num, rfl, by rw [show 4 + 3 * (m + 1) = 4 + 3 * m + 3 by omega]; exact D7.out, .inr HA.out⟩
            case measure => simp [intOf]; omega
          · have h0' : m = 0 := by rcases HST.out with h | h; exact h; exact absurd h hall
            have hfl : EntryAt w g 0 0 := by rcases HK.out with h | h; exact absurd h hall; exact h
            have HFL := hideIt hfl
            clear hall hfl
            subst h0'
            go_wp2_with fail
            obtain ⟨u0, u1, u2⟩ := HFL.out
            refine (entry_floor D6.out (by omega) (by omega) (by omega) (by omega) u0 u1 u2).mono ?_
            rintro e w7 ⟨v7, rfl, hd7⟩
            have F7 := hideIt hd7.below
            obtain ⟨bq, off, sq, e7, q0, q1⟩ := hd7.where'
            clear hd7 u0 u1 u2
            go_wp2_with fail
            go_quiet (fail)
            go_wp2
            go_ret2
            exact ⟨bq, off, sq, rfl, q0, q1, below_drewN F7.out _⟩
        · have hm2 : m = 320 := by omega
          subst hm2
          go_wp2_with fail
          refine (fail_dec D6.out).mono ?_
          rintro e w7 ⟨rfl, hd7⟩
          have F7 := hideIt hd7.below
          obtain ⟨bq, off, sq, e7, q0, q1⟩ := hd7.where'
          clear hd7
          go_wp2_with fail
          go_quiet (fail)
          go_wp2
          go_ret2
          exact ⟨bq, off, sq, rfl, q0, q1, below_drewN F7.out _⟩
end Go.Proofs.Qxb6500847aGreatDoor.FloorA
