/-
  The walks of the tables: join.
-/
import Derived.Test.Qxb6500848aGreatDoorWalkB
namespace Go.Proofs.Qxb6500848aGreatDoor
open Go.RowKit Pl
set_option maxRecDepth 100000

def anyTo (f g : Nat → Nat → Bool) (i j k : Nat) : Bool := (List.range k).any fun m => decide (i ≤ m) && (f i m && g m j)
def joinF (f g : Nat → Nat → Bool) (i j : Nat) : Bool := decide (i ≤ j) && anyTo f g i j (j + 1)

/-- How far 'join' has come: row a, column b, split c. -/
def joinS (f g : Nat → Nat → Bool) (a b c i j : Nat) : Bool :=
  if i < a then joinF f g i j else if i = a then (if j < b then joinF f g i j else if j = b then anyTo f g a b c else false) else false

theorem anyTo_zero (f g : Nat → Nat → Bool) (i j k : Nat) (h : k ≤ i) : anyTo f g i j k = false := by
  unfold anyTo
  rw [List.any_eq_false]
  intro m hm
  have := List.mem_range.1 hm
  simp; omega
theorem anyTo_succ (f g : Nat → Nat → Bool) (i j k : Nat) (h : i ≤ k) : anyTo f g i j (k + 1) = (anyTo f g i j k || (f i k && g k j)) := by
  unfold anyTo
  rw [List.range_succ, List.any_append]
  simp [h]

theorem joinS_start (f g : Nat → Nat → Bool) (i j : Nat) : joinS f g 0 0 0 i j = false := by
  unfold joinS
  by_cases e : i = 0
  · by_cases e2 : j = 0
    · simp [e, e2, anyTo]
    · simp [e, e2]
  · simp [e]
theorem joinS_enter (f g : Nat → Nat → Bool) (a i j : Nat) : joinS f g a 0 0 i j = joinS f g a a a i j := by
  unfold joinS
  by_cases e : i < a
  · simp [e]
  · by_cases e1 : i = a
    · subst e1
      simp only [Nat.lt_irrefl, if_false, if_true, Nat.not_lt_zero]
      by_cases e2 : j < i
      · rw [if_pos e2]
        have : joinF f g i j = false := by unfold joinF; simp; omega
        rw [this]
        by_cases e3 : j = 0
        · rw [if_pos e3, anyTo_zero _ _ _ _ _ (Nat.zero_le _)]
        · rw [if_neg e3]
      · rw [if_neg e2, anyTo_zero f g i i i (Nat.le_refl _), anyTo_zero f g i 0 0 (Nat.zero_le _)]
        simp
    · simp [e, e1]
theorem joinS_col (f g : Nat → Nat → Bool) (a b i j : Nat) (h : a ≤ b) : joinS f g a b (b + 1) i j = joinS f g a (b + 1) a i j := by
  unfold joinS
  by_cases e : i < a
  · simp [e]
  · by_cases e1 : i = a
    · subst e1
      simp only [Nat.lt_irrefl, if_false, if_true]
      by_cases e2 : j < b
      · rw [if_pos e2, if_pos (by omega)]
      · rw [if_neg e2]
        by_cases e3 : j = b
        · subst e3
          rw [if_pos rfl, if_pos (by omega)]
          unfold joinF
          simp [h]
        · rw [if_neg e3, if_neg (by omega), anyTo_zero f g i (b + 1) i (Nat.le_refl _)]
          simp
    · simp [e, e1]
theorem joinS_row (f g : Nat → Nat → Bool) (a n i j : Nat) (hj : j ≤ n) : joinS f g a (n + 1) a i j = joinS f g (a + 1) 0 0 i j := by
  unfold joinS
  by_cases e : i < a
  · rw [if_pos e, if_pos (by omega)]
  · by_cases e1 : i = a
    · subst e1
      rw [if_neg e, if_pos rfl, if_pos (by omega), if_pos (by omega)]
    · rw [if_neg e, if_neg e1, if_neg (by omega)]
      by_cases e2 : i = a + 1
      · rw [if_pos e2, anyTo_zero _ _ _ _ _ (Nat.zero_le _)]
        simp
      · rw [if_neg e2]
theorem joinS_end (f g : Nat → Nat → Bool) (n i j : Nat) (hi : i ≤ n) : joinS f g (n + 1) 0 0 i j = joinF f g i j := by
  unfold joinS
  rw [if_pos (by omega)]
theorem joinS_hit (f g : Nat → Nat → Bool) (a b c i j : Nat) (h : a ≤ c) (h1 : f a c = true) (h2 : g c b = true) : upd (joinS f g a b c) a b true i j = joinS f g a b (c + 1) i j := by
  unfold upd joinS
  by_cases e : i = a ∧ j = b
  · obtain ⟨rfl, rfl⟩ := e
    simp [anyTo_succ f g i j c h, h1, h2]
  · rw [if_neg e]
    by_cases e1 : i = a
    · subst e1
      have : j ≠ b := fun e2 => e ⟨rfl, e2⟩
      simp [this]
    · simp [e1]
theorem joinS_miss (f g : Nat → Nat → Bool) (a b c i j : Nat) (h : a ≤ c) (h1 : (f a c && g c b) = false) : joinS f g a b c i j = joinS f g a b (c + 1) i j := by
  unfold joinS
  rw [anyTo_succ f g a b c h, h1, Bool.or_false]

/-- What 'join' and its like keep at each round. -/
structure Mid (w : World) (n : Nat) (F : Nat → Nat → Bool) (wr : World) : Prop where
  tab : Tab wr w.heap.size n F
  below : Below w.heap.size w wr
  size : wr.heap.size = w.heap.size + 2 + n

theorem Mid.congr {w wr : World} {n : Nat} {F G : Nat → Nat → Bool} (h : Mid w n F wr) (e : ∀ i j, i ≤ n → j ≤ n → F i j = G i j) : Mid w n G wr := ⟨h.tab.congr e, h.below, h.size⟩
theorem Mid.set {w wr : World} {n : Nat} {F : Nat → Nat → Bool} (h : Mid w n F wr) {i j : Nat} (hi : i ≤ n) (hj : j ≤ n) (b : Bool) : Mid w n (upd F i j b) (wr.setCell ⟨w.heap.size + 1 + i, j, none⟩ (.bool b)) :=
  ⟨h.tab.set hi hj b, h.below.setCell (by show w.heap.size ≤ w.heap.size + 1 + i; omega) _, by rw [World.size_setCell]; exact h.size⟩

set_option maxHeartbeats 4000000 in
theorem join_walk (n : Nat) (hn : n ≤ 1000) (s t : Nat) (f g : Nat → Nat → Bool) (w : World) (hs : Tab w s n f) (ht : Tab w t n g) :
    Calls Tryz.prog 123 #[tabV s n, tabV t n] w fun e w' => e = .returned (tabV w.heap.size n) ∧ Mid w n (joinF f g) w' := by
  have HS : Hid (Tab w s n f) := hs
  have HT : Hid (Tab w t n g) := ht
  have Hs : Hid (s + 1 + n < w.heap.size) := hs.top
  have Ht : Hid (t + 1 + n < w.heap.size) := ht.top
  clear hs ht
  have hsub : ((n : Int) + 1) - 1 = n := by omega
  go_enter Tryz.func123, Tryz.ntmps123
  go_wp2_with (go_at_call 121; refine (blank_walk n hn w).mono ?_; rintro e w1 ⟨rfl, hT, hb, hz⟩)
  have HM : Hid (Mid w n (fun _ _ => false) w1) := ⟨hT, hb, hz⟩
  clear hT hb hz
  go_loopw [15] (fun i wr => ∃ a : Nat, a ≤ n + 1 ∧ i = .int .i64 a ∧ Mid w n (joinS f g a 0 0) wr) (fun i _ => n + 1 - (intOf i).toNat)
  case atStart => exact ⟨0, by omega, rfl, HM.out.congr (fun i j _ _ => (joinS_start f g i j).symm)⟩
  case round =>
    obtain ⟨a, ha, rfl, hM⟩ := hrel
    by_cases hlt : a < n + 1
    · have hlt' : (a : Int) < (n : Int) + 1 := by omega
      have HM : Hid (Mid w n (joinS f g a 0 0) wr) := hM
      clear hM
      go_wp2
      go_loopw [7] (fun i wr => ∃ b : Nat, a ≤ b ∧ b ≤ n + 1 ∧ i = .int .i64 b ∧ Mid w n (joinS f g a b a) wr) (fun i _ => n + 1 - (intOf i).toNat)
      case atStart => exact ⟨a, by omega, by omega, rfl, HM.out.congr (fun i j _ _ => joinS_enter f g a i j)⟩
      case round =>
        obtain ⟨b, hab, hb, rfl, hM⟩ := hrel
        by_cases hlt2 : b < n + 1
        · have hlt2' : (b : Int) < (n : Int) + 1 := by omega
          have HM : Hid (Mid w n (joinS f g a b a) wr) := hM
          clear hM
          go_wp2
          go_loopw [8] (fun i wr => ∃ c : Nat, a ≤ c ∧ c ≤ b + 1 ∧ i = .int .i64 c ∧ Mid w n (joinS f g a b c) wr) (fun i _ => b + 1 - (intOf i).toNat)
          case atStart => exact ⟨a, by omega, by omega, rfl, HM.out⟩
          case round =>
            obtain ⟨c, hac, hc, rfl, hM⟩ := hrel
            by_cases hlt3 : c ≤ b
            · have hlt3' : (c : Int) ≤ (b : Int) := by omega
              have hS := HS.out.below hM.below Hs.out
              have hT := HT.out.below hM.below Ht.out
              have u0 := hM.tab.rows a (by omega)
              obtain ⟨u1, u2⟩ := hM.tab.cells a b (by omega) (by omega)
              have s0 := hS.rows a (by omega)
              have s1 := (hS.cells a c (by omega) (by omega)).1
              have t0 := hT.rows c (by omega)
              have t1 := (hT.cells c b (by omega) (by omega)).1
              have a1 : (a : Int) < (n : Int) + 1 := by omega
              have c1 : (c : Int) < (n : Int) + 1 := by omega
              have HM : Hid (Mid w n (joinS f g a b c) wr) := hM
              clear hM hS hT
              have HF : Hid (f a c = f a c) := rfl
              cases hf : f a c with
              | false =>
                rw [hf] at s1
                go_wp2
                go_roundw
                case rel => exact ⟨c + 1, by omega, by omega, by go_num, HM.out.congr (fun i j _ _ => joinS_miss f g a b c i j hac (by rw [hf]; rfl))⟩
                case measure => simp [intOf]; omega
              | true =>
                rw [hf] at s1
                cases hg : g c b with
                | false =>
                  rw [hg] at t1
                  go_wp2
                  go_roundw
                  case rel => exact ⟨c + 1, by omega, by omega, by go_num, HM.out.congr (fun i j _ _ => joinS_miss f g a b c i j hac (by rw [hf, hg]; rfl))⟩
                  case measure => simp [intOf]; omega
                | true =>
                  rw [hg] at t1
                  go_wp2
                  go_roundw
                  case rel => exact ⟨c + 1, by omega, by omega, by go_num, (HM.out.set (i := a) (j := b) (by omega) (by omega) true).congr (fun i j _ _ => joinS_hit f g a b c i j hac hf hg)⟩
                  case measure => simp [intOf]; omega
            · obtain rfl : c = b + 1 := by omega
              go_wp2
              go_roundw
              case rel => exact ⟨b + 1, by omega, by omega, by go_num, hM.congr (fun i j _ _ => joinS_col f g a b i j hab)⟩
              case measure => simp [intOf]; omega
        · obtain rfl : b = n + 1 := by omega
          go_wp2
          go_roundw
          case rel => exact ⟨a + 1, by omega, by go_num, hM.congr (fun i j _ hj => joinS_row f g a n i j hj)⟩
          case measure => simp [intOf]; omega
    · obtain rfl : a = n + 1 := by omega
      go_wp2
      go_ret
      exact ⟨rfl, hM.congr (fun i j hi _ => joinS_end f g n i j hi)⟩
end Go.Proofs.Qxb6500848aGreatDoor
