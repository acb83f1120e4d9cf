/-
  The walks of the tables: either.
-/
import Derived.Test.Qxb6500848aGreatDoorWalkC
namespace Go.Proofs.Qxb6500848aGreatDoor
open Go.RowKit Pl
set_option maxRecDepth 100000

def eitherF (f g : Nat → Nat → Bool) (i j : Nat) : Bool := decide (i ≤ j) && (f i j || g i j)
def eitherS (f g : Nat → Nat → Bool) (a b i j : Nat) : Bool :=
  if i < a then eitherF f g i j else if i = a ∧ j < b then eitherF f g i j else false

theorem eitherS_enter (f g : Nat → Nat → Bool) (a i j : Nat) : eitherS f g a 0 i j = eitherS f g a a i j := by
  unfold eitherS
  by_cases e : i < a
  · simp [e]
  · by_cases e1 : i = a ∧ j < a
    · rw [if_neg e, if_neg e, if_neg (by omega), if_pos e1]
      unfold eitherF
      simp; omega
    · rw [if_neg e, if_neg e, if_neg (by omega), if_neg e1]
theorem eitherS_row (f g : Nat → Nat → Bool) (a n i j : Nat) (hj : j ≤ n) : eitherS f g a (n + 1) i j = eitherS f g (a + 1) 0 i j := by
  unfold eitherS
  by_cases e : i < a
  · rw [if_pos e, if_pos (by omega)]
  · by_cases e1 : i = a
    · rw [if_neg e, if_pos ⟨e1, by omega⟩, if_pos (by omega)]
    · rw [if_neg e, if_neg (by omega), if_neg (by omega), if_neg (by omega)]
theorem eitherS_col (f g : Nat → Nat → Bool) (a b i j : Nat) (h : a ≤ b) : upd (eitherS f g a b) a b (f a b || g a b) i j = eitherS f g a (b + 1) i j := by
  unfold upd eitherS
  by_cases e : i = a ∧ j = b
  · obtain ⟨rfl, rfl⟩ := e
    simp [eitherF, h]
  · rw [if_neg e]
    by_cases e1 : i < a
    · rw [if_pos e1, if_pos e1]
    · rw [if_neg e1, if_neg e1]
      by_cases e2 : i = a ∧ j < b
      · rw [if_pos e2, if_pos (by omega)]
      · rw [if_neg e2, if_neg (by omega)]

theorem Mid.drew {w wr : World} {n : Nat} {F : Nat → Nat → Bool} (h : Mid w n F wr) : Mid w n F wr.drew := ⟨⟨h.tab.rows, h.tab.cells⟩, h.below.drew, h.size⟩

set_option maxHeartbeats 4000000 in
theorem either_walk (n : Nat) (hn : n ≤ 1000) (s t : Nat) (f g : Nat → Nat → Bool) (w : World) (hs : Tab w s n f) (ht : Tab w t n g) :
    Calls Tryz.prog 124 #[tabV s n, tabV t n] w fun e w' => e = .returned (tabV w.heap.size n) ∧ Mid w n (eitherF f g) w' := by
  have HS : Hid (Tab w s n f) := hs
  have HT : Hid (Tab w t n g) := ht
  have Hs : Hid (s + 1 + n < w.heap.size) := hs.top
  have Ht : Hid (t + 1 + n < w.heap.size) := ht.top
  clear hs ht
  have hsub : ((n : Int) + 1) - 1 = n := by omega
  go_enter Tryz.func124, Tryz.ntmps124
  go_wp2_with (go_at_call 121; refine (blank_walk n hn w).mono ?_; rintro e w1 ⟨rfl, hT, hb, hz⟩)
  have HM : Hid (Mid w n (fun _ _ => false) w1) := ⟨hT, hb, hz⟩
  clear hT hb hz
  go_loopw [14] (fun i wr => ∃ a : Nat, a ≤ n + 1 ∧ i = .int .i64 a ∧ Mid w n (eitherS f g a 0) wr) (fun i _ => n + 1 - (intOf i).toNat)
  case atStart => exact ⟨0, by omega, rfl, HM.out.congr (fun i j _ _ => by simp [eitherS])⟩
  case round =>
    obtain ⟨a, ha, rfl, hM⟩ := hrel
    by_cases hlt : a < n + 1
    · have hlt' : (a : Int) < (n : Int) + 1 := by omega
      have HM : Hid (Mid w n (eitherS f g a 0) wr) := hM
      clear hM
      go_wp2
      go_loopw [7] (fun i wr => ∃ b : Nat, a ≤ b ∧ b ≤ n + 1 ∧ i = .int .i64 b ∧ Mid w n (eitherS f g a b) wr) (fun i _ => n + 1 - (intOf i).toNat)
      case atStart => exact ⟨a, by omega, by omega, rfl, HM.out.congr (fun i j _ _ => eitherS_enter f g a i j)⟩
      case round =>
        obtain ⟨b, hab, hb, rfl, hM⟩ := hrel
        by_cases hlt2 : b < n + 1
        · have hlt2' : (b : Int) < (n : Int) + 1 := by omega
          have hS := HS.out.below hM.below Hs.out
          have hT := HT.out.below hM.below Ht.out
          have u0 := hM.tab.rows a (by omega)
          obtain ⟨u1, u2⟩ := hM.tab.cells a b (by omega) (by omega)
          have s0 := hS.rows a (by omega)
          have s1 := (hS.cells a b (by omega) (by omega)).1
          have t0 := hT.rows a (by omega)
          have t1 := (hT.cells a b (by omega) (by omega)).1
          have HM : Hid (Mid w n (eitherS f g a b) wr) := hM
          clear hM hS hT
          have HC : Hid (∀ i j, upd (eitherS f g a b) a b (f a b || g a b) i j = eitherS f g a (b + 1) i j) := fun i j => eitherS_col f g a b i j hab
          cases hf : f a b with
          | false =>
            rw [hf] at s1 HC
            cases hg : g a b with
            | false =>
              rw [hg] at t1 HC
              go_wp2_with fail
              go_region
              go_wp2_with fail
              go_roundw
              case rel => exact ⟨b + 1, by omega, by omega, by go_num, (HM.out.drew.set (i := a) (j := b) (by omega) (by omega) false).congr (fun i j _ _ => HC.out i j)⟩
              case measure => simp [intOf]; omega
            | true =>
              rw [hg] at t1 HC
              go_wp2_with fail
              go_region
              go_wp2_with fail
              go_roundw
              case rel => exact ⟨b + 1, by omega, by omega, by go_num, (HM.out.drew.set (i := a) (j := b) (by omega) (by omega) true).congr (fun i j _ _ => HC.out i j)⟩
              case measure => simp [intOf]; omega
          | true =>
            rw [hf] at s1 HC
            go_wp2_with fail
            go_region
            go_wp2_with fail
            go_roundw
            case rel => exact ⟨b + 1, by omega, by omega, by go_num, (HM.out.drew.set (i := a) (j := b) (by omega) (by omega) true).congr (fun i j _ _ => HC.out i j)⟩
            case measure => simp [intOf]; omega
        · obtain rfl : b = n + 1 := by omega
          go_wp2
          go_roundw
          case rel => exact ⟨a + 1, by omega, by go_num, hM.congr (fun i j _ hj => eitherS_row f g a n i j hj)⟩
          case measure => simp [intOf]; omega
    · obtain rfl : a = n + 1 := by omega
      go_wp2
      go_ret
      exact ⟨rfl, hM.congr (fun i j hi _ => by unfold eitherS; rw [if_pos (by omega)])⟩

/-! ### powers -/
def powF (n : Nat) (f : Nat → Nat → Bool) : Nat → Nat → Nat → Bool
  | 0 => fun i j => decide (i = j)
  | k + 1 => joinF (powF n f k) f
def sumF (n : Nat) (f : Nat → Nat → Bool) (lo : Nat) : Nat → Nat → Nat → Bool
  | 0 => fun _ _ => false
  | k + 1 => if lo ≤ k then eitherF (sumF n f lo k) (powF n f k) else sumF n f lo k

theorem Mid.grown {w w1 w2 : World} {n : Nat} {F : Nat → Nat → Bool} (h : Mid w1 n F w2) (hb : w.heap.size ≤ w1.heap.size) (hw : Below w.heap.size w w1) : Below w.heap.size w w2 := hw.trans (h.below.mono hb)

set_option maxHeartbeats 4000000 in
theorem powers_any (n : Nat) (hn : n ≤ 1000) (s lo : Nat) (hlo : lo ≤ 1000) (hi top : Int) (htop : (hi = -1 ∧ top = lo + n) ∨ (hi ≠ -1 ∧ 0 ≤ hi ∧ hi ≤ 2000 ∧ top = hi)) (f : Nat → Nat → Bool) (w : World) (hs : Tab w s n f) :
    Calls Tryz.prog 125 #[tabV s n, .int .i64 lo, .int .i64 hi] w fun e w' => ∃ b, e = .returned (tabV b n) ∧ Tab w' b n (sumF n f lo (top.toNat + 1)) ∧ Below w.heap.size w w' ∧ w.heap.size ≤ b := by
  have HS : Hid (Tab w s n f) := hs
  have Hs : Hid (s + 1 + n < w.heap.size) := hs.top
  clear hs
  have hsub : ((n : Int) + 1) - 1 = n := by omega
  rcases htop with ⟨rfl, rfl⟩ | ⟨hne, h0, h2, rfl⟩
  · obtain ⟨T, hT0⟩ : ∃ T : Nat, (T : Int) = (lo : Int) + n := ⟨lo + n, by omega⟩
    have eT : ((lo : Int) + n).toNat + 1 = T + 1 := by omega
    go_enter Tryz.func125, Tryz.ntmps125
    go_wp2_with (first
      | (go_at_call 121; refine (blank_walk n hn _).mono ?_; rintro e w1 ⟨rfl, hT1, hb1, hz1⟩)
      | (go_at_call 122; refine (empties_walk n hn _).mono ?_; rintro e w2 ⟨rfl, hT2, hb2, hz2⟩))
    have H0 : Hid (Tab w2 w.heap.size n (fun _ _ => false) ∧ Tab w2 (w.heap.size + 2 + n) n (fun i j => decide (i = j)) ∧ Below w.heap.size w w2) :=
      ⟨hT1.below hb2 (by omega), hz1 ▸ hT2, hb1.trans (hb2.mono hb1.size)⟩
    clear hT1 hb1 hz1 hT2 hb2 hz2
    go_loopw [8, 9, 10] (fun tv pv i wr => ∃ k bt bp : Nat, k ≤ T + 1 ∧ i = .int .i64 k ∧ tv = tabV bt n ∧ pv = tabV bp n ∧ Tab wr bt n (sumF n f lo k) ∧ Tab wr bp n (powF n f k) ∧ Below w.heap.size w wr ∧ w.heap.size ≤ bt) (fun _ _ i _ => T + 1 - (intOf i).toNat)
    case atStart => exact ⟨0, _, _, by omega, rfl, rfl, rfl, H0.out.1, H0.out.2.1, H0.out.2.2, Nat.le_refl _⟩
    case round =>
      obtain ⟨k, bt, bp, hk, rfl, rfl, rfl, hT, hP, hb, hbt⟩ := hrel
      by_cases hlt : k ≤ T
      · have hlt' : (k : Int) ≤ (lo : Int) + (n : Int) := by omega
        have hsw := hb.size
        by_cases hl : lo ≤ k
        · have hl' : (lo : Int) ≤ k := by omega
          have HK : Hid (Tab wr bt n (sumF n f lo k) ∧ Tab wr bp n (powF n f k) ∧ Below w.heap.size w wr) := ⟨hT, hP, hb⟩
          have H1 : Hid (w.heap.size ≤ wr.heap.size) := hsw
          clear hT hP hb hsw
          go_wp2_with (first
            | (go_at_call 124; refine (either_walk n hn bt bp _ _ _ HK.out.1 HK.out.2.1).mono ?_; rintro e w3 ⟨rfl, hM3⟩)
            | (go_at_call 123; refine (join_walk n hn bp s _ _ _ (HK.out.2.1.below hM3.below HK.out.2.1.top) (HS.out.below (hM3.grown H1.out HK.out.2.2) Hs.out)).mono ?_; rintro e w4 ⟨rfl, hM4⟩))
          go_roundw
          case rel =>
            refine ⟨k + 1, _, _, by omega, by go_num, rfl, rfl, ?_, hM4.tab, hM4.grown (Nat.le_trans H1.out hM3.below.size) (hM3.grown H1.out HK.out.2.2), H1.out⟩
            have e : sumF n f lo (k + 1) = eitherF (sumF n f lo k) (powF n f k) := by simp [sumF, hl]
            rw [e]
            exact hM3.tab.below hM4.below hM3.tab.top
          case measure => simp [intOf]; omega
        · have hl' : (k : Int) < lo := by omega
          have HK : Hid (Tab wr bt n (sumF n f lo k) ∧ Tab wr bp n (powF n f k) ∧ Below w.heap.size w wr) := ⟨hT, hP, hb⟩
          have H1 : Hid (w.heap.size ≤ wr.heap.size) := hsw
          clear hT hP hb hsw
          go_wp2_with (go_at_call 123; refine (join_walk n hn bp s _ _ _ HK.out.2.1 (HS.out.below HK.out.2.2 Hs.out)).mono ?_; rintro e w4 ⟨rfl, hM4⟩)
          go_roundw
          case rel =>
            refine ⟨k + 1, bt, _, by omega, by go_num, rfl, rfl, ?_, hM4.tab, hM4.grown H1.out HK.out.2.2, hbt⟩
            have e : sumF n f lo (k + 1) = sumF n f lo k := by simp [sumF, hl]
            rw [e]
            exact HK.out.1.below hM4.below HK.out.1.top
          case measure => simp [intOf]; omega
      · obtain rfl : k = T + 1 := by omega
        go_wp2
        go_ret
        exact ⟨_, rfl, by rw [eT]; exact hT, hb, hbt⟩
  · obtain ⟨T, hT0⟩ : ∃ T : Nat, (T : Int) = top := ⟨top.toNat, by omega⟩
    have eT : top.toNat + 1 = T + 1 := by omega
    go_enter Tryz.func125, Tryz.ntmps125
    go_wp2_with (first
      | (go_at_call 121; refine (blank_walk n hn _).mono ?_; rintro e w1 ⟨rfl, hT1, hb1, hz1⟩)
      | (go_at_call 122; refine (empties_walk n hn _).mono ?_; rintro e w2 ⟨rfl, hT2, hb2, hz2⟩))
    have H0 : Hid (Tab w2 w.heap.size n (fun _ _ => false) ∧ Tab w2 (w.heap.size + 2 + n) n (fun i j => decide (i = j)) ∧ Below w.heap.size w w2) :=
      ⟨hT1.below hb2 (by omega), hz1 ▸ hT2, hb1.trans (hb2.mono hb1.size)⟩
    clear hT1 hb1 hz1 hT2 hb2 hz2
    go_loopw [8, 9, 10] (fun tv pv i wr => ∃ k bt bp : Nat, k ≤ T + 1 ∧ i = .int .i64 k ∧ tv = tabV bt n ∧ pv = tabV bp n ∧ Tab wr bt n (sumF n f lo k) ∧ Tab wr bp n (powF n f k) ∧ Below w.heap.size w wr ∧ w.heap.size ≤ bt) (fun _ _ i _ => T + 1 - (intOf i).toNat)
    case atStart => exact ⟨0, _, _, by omega, rfl, rfl, rfl, H0.out.1, H0.out.2.1, H0.out.2.2, Nat.le_refl _⟩
    case round =>
      obtain ⟨k, bt, bp, hk, rfl, rfl, rfl, hT, hP, hb, hbt⟩ := hrel
      by_cases hlt : k ≤ T
      · have hlt' : (k : Int) ≤ top := by omega
        have hsw := hb.size
        by_cases hl : lo ≤ k
        · have hl' : (lo : Int) ≤ k := by omega
          have HK : Hid (Tab wr bt n (sumF n f lo k) ∧ Tab wr bp n (powF n f k) ∧ Below w.heap.size w wr) := ⟨hT, hP, hb⟩
          have H1 : Hid (w.heap.size ≤ wr.heap.size) := hsw
          clear hT hP hb hsw
          go_wp2_with (first
            | (go_at_call 124; refine (either_walk n hn bt bp _ _ _ HK.out.1 HK.out.2.1).mono ?_; rintro e w3 ⟨rfl, hM3⟩)
            | (go_at_call 123; refine (join_walk n hn bp s _ _ _ (HK.out.2.1.below hM3.below HK.out.2.1.top) (HS.out.below (hM3.grown H1.out HK.out.2.2) Hs.out)).mono ?_; rintro e w4 ⟨rfl, hM4⟩))
          go_roundw
          case rel =>
            refine ⟨k + 1, _, _, by omega, by go_num, rfl, rfl, ?_, hM4.tab, hM4.grown (Nat.le_trans H1.out hM3.below.size) (hM3.grown H1.out HK.out.2.2), H1.out⟩
            have e : sumF n f lo (k + 1) = eitherF (sumF n f lo k) (powF n f k) := by simp [sumF, hl]
            rw [e]
            exact hM3.tab.below hM4.below hM3.tab.top
          case measure => simp [intOf]; omega
        · have hl' : (k : Int) < lo := by omega
          have HK : Hid (Tab wr bt n (sumF n f lo k) ∧ Tab wr bp n (powF n f k) ∧ Below w.heap.size w wr) := ⟨hT, hP, hb⟩
          have H1 : Hid (w.heap.size ≤ wr.heap.size) := hsw
          clear hT hP hb hsw
          go_wp2_with (go_at_call 123; refine (join_walk n hn bp s _ _ _ HK.out.2.1 (HS.out.below HK.out.2.2 Hs.out)).mono ?_; rintro e w4 ⟨rfl, hM4⟩)
          go_roundw
          case rel =>
            refine ⟨k + 1, bt, _, by omega, by go_num, rfl, rfl, ?_, hM4.tab, hM4.grown H1.out HK.out.2.2, hbt⟩
            have e : sumF n f lo (k + 1) = sumF n f lo k := by simp [sumF, hl]
            rw [e]
            exact HK.out.1.below hM4.below HK.out.1.top
          case measure => simp [intOf]; omega
      · obtain rfl : k = T + 1 := by omega
        go_wp2
        go_ret
        exact ⟨_, rfl, by rw [eT]; exact hT, hb, hbt⟩
end Go.Proofs.Qxb6500848aGreatDoor
