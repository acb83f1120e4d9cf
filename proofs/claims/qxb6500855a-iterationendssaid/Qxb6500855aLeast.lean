/-
  The walks of gate.Least and of 'first': each finds the least fixed point of the recurrence, or that there is none up to the limit.
-/
import Derived.Test.Qxb6500855aClosG
namespace Go.Proofs.Qxb6500855a
open Go.RowKit Plain

/-- The memory while Least runs: below block bc all is as in W0; block bc holds the count. -/
structure Inv (bc : Nat) (W0 : World) (cnt : Int) (w : World) : Prop where
  below : Below bc W0 w
  count : w.heap[bc]? = some (.cells #[.int .i64 cnt] 2 (0, 0))

/-- What stands in W0 below bc. -/
structure Base (bc bF bf bl : Nat) (c : Int) (L : List (Int × Int)) (W0 : World) : Prop where
  held : Held bc W0 bf bl c L
  fcell : W0.cell? ⟨bF, 0, none⟩ = some (fVal bf bl)
  bF_lt : bF < bc

theorem clos_inv {x cnt : Int} {bc bF bf bl : Nat} {c : Int} {L : List (Int × Int)} {W0 w : World}
    (hx : 0 ≤ x) (hx2 : x ≤ 100000) (hcnt : 0 ≤ cnt) (hcnt2 : cnt ≤ 100000) (hB : Base bc bF bf bl c L W0) (hI : Inv bc W0 cnt w) :
    Calls Try.prog 10 #[.int .i64 x, .pointer (some ⟨bc, 0, none⟩), .pointer (some ⟨bF, 0, none⟩)] w
      fun e w' => e = .returned (.tuple #[.int .i64 (F L c x), .bool (F L c x != top)]) ∧ Inv bc W0 (cnt + 1) w' := by
  have hlt := lt_of_block hI.count
  refine (clos_g x cnt bc bF bf bl c L w hx hx2 hcnt hcnt2 (hB.held.below hI.below) ((hI.below.cell hB.bF_lt).trans hB.fcell) hB.bF_lt (cell_of_one hI.count) (free_of_one hI.count)).mono ?_
  rintro e w' ⟨rfl, hb⟩
  refine ⟨rfl, ?_, ?_⟩
  · exact (hI.below.setCell (p := ⟨bc, 0, none⟩) (Nat.le_refl _) _).trans (hb.mono (Nat.le_of_lt hlt))
  · rw [hb.block bc hlt]
    exact one_setCell hI.count

/-- r is the least fixed point, and lies from 0 to lim. -/
def Least (L : List (Int × Int)) (c lim r : Int) : Prop := 0 ≤ r ∧ r ≤ lim ∧ F L c r = r ∧ ∀ y, 0 ≤ y → y ≤ lim → F L c y = y → r ≤ y
/-- There is none. -/
def NoFix (L : List (Int × Int)) (c lim : Int) : Prop := ∀ y, 0 ≤ y → y ≤ lim → F L c y ≠ y

set_option maxHeartbeats 400000 in
theorem least_any (lim : Int) (h0 : 0 ≤ lim) (h1 : lim ≤ 8191) {bc bF bf bl : Nat} {c : Int} {L : List (Int × Int)} {W0 w : World}
    (hB : Base bc bF bf bl c L W0) (hI : Inv bc W0 0 w) :
    Calls Try.prog 9 #[.int .i64 lim, .func (.func 10) #[] #[.pointer (some ⟨bc, 0, none⟩), .pointer (some ⟨bF, 0, none⟩)]] w
      fun e w' => ∃ r how cnt : Int, e = .returned (.tuple #[.int .i64 r, .int .i64 how]) ∧ Inv bc W0 cnt w' ∧ 0 ≤ cnt ∧ cnt ≤ lim + 2 ∧
        ((how = 0 ∧ Least L c lim r) ∨ ((how = 1 ∨ how = 2) ∧ r = 0 ∧ NoFix L c lim)) := by
  have hin : ∀ y, 0 ≤ y → y ≤ 8191 → InR (F L c y) := fun y a b => F_in a (by omega) L c hB.held.c_in hB.held.l_ok
  have hmono : ∀ x y, 0 ≤ x → x ≤ y → y ≤ 8191 → F L c x ≤ F L c y := fun x y a b d => F_mono a b (by omega) L c c (Int.le_refl _) hB.held.c_in hB.held.l_ok
  have HIN : Hid (∀ y, 0 ≤ y → y ≤ 8191 → InR (F L c y)) := hin
  have HMO : Hid (∀ x y, 0 ≤ x → x ≤ y → y ≤ 8191 → F L c x ≤ F L c y) := hmono
  have HB : Hid (Base bc bF bf bl c L W0) := hB
  have HI : Hid (Inv bc W0 0 w) := hI
  clear hin hmono hB hI
  go_enter Try.func9, Try.ntmps9
  go_wp2
  go_loopw [6] (fun t w' => ∃ x cnt : Int, t = .int .i64 x ∧ 0 ≤ x ∧ x ≤ lim ∧ 0 ≤ cnt ∧ cnt ≤ x ∧ x ≤ F L c x ∧ (∀ y, 0 ≤ y → y ≤ lim → F L c y = y → x ≤ y) ∧ Inv bc W0 cnt w') (fun t _ => (lim + 1 - intOf t).toNat)
  case atStart => exact ⟨0, 0, rfl, by omega, by omega, by omega, by omega, (HIN.out 0 (by omega) (by omega)).1, fun y a _ _ => a, HI.out⟩
  case round =>
    obtain ⟨x, cnt, rfl, hx0, hxl, hc0, hcx, hpost, hleast, hinv⟩ := hrel
    have HLE : Hid (∀ y, 0 ≤ y → y ≤ lim → F L c y = y → x ≤ y) := hleast
    have HV : Hid (Inv bc W0 cnt wr) := hinv
    clear hleast hinv
    have hf := HIN.out x hx0 (by omega)
    have hf0 := hf.lo
    have hf1 := hf.hi
    clear hf
    have hnext : ∀ y, 0 ≤ y → y ≤ lim → F L c y = y → F L c x ≤ y := fun y a b e => by
      have := HMO.out x y hx0 (HLE.out y a b e) (by omega); omega
    have hup : F L c x ≤ 8191 → F L c x ≤ F L c (F L c x) := fun h => HMO.out x (F L c x) hx0 hpost h
    have HN : Hid (∀ y, 0 ≤ y → y ≤ lim → F L c y = y → F L c x ≤ y) := hnext
    have HU : Hid (F L c x ≤ 8191 → F L c x ≤ F L c (F L c x)) := hup
    clear hnext hup
    have HF : Hid (∃ v, v = F L c x) := ⟨_, rfl⟩
    obtain ⟨v, hv⟩ := HF.out
    have Hv : Hid (v = F L c x) := hv
    rw [← hv] at hpost hf0 hf1
    clear hv HF
    by_cases hov : v = 9223372036854775807
    · have htst : (v != top) = false := by rw [top_eq, hov]; rfl
      have hbig : 8191 < v := by omega
      clear hov
      go_wp2_with (go_at_call 10; refine (clos_inv hx0 (by omega) hc0 (by omega) HB.out HV.out).mono ?_; rw [← Hv.out]; rintro e w1 ⟨rfl, hi1⟩)
      go_ret2
      refine ⟨0, 2, cnt + 1, rfl, hi1, by omega, by omega, .inr ⟨.inr rfl, rfl, ?_⟩⟩
      intro y a b e
      have := HN.out y a b e
      rw [← Hv.out] at this
      omega
    · have htst : (v != top) = true := by rw [top_eq, bne_iff_ne]; exact hov
      clear hov
      by_cases heq : v = x
      · have htst2 : (v == x) = true := by simpa using heq
        have HE : Hid (v = x) := heq
        clear heq
        go_wp2_with (go_at_call 10; refine (clos_inv hx0 (by omega) hc0 (by omega) HB.out HV.out).mono ?_; rw [← Hv.out]; rintro e w1 ⟨rfl, hi1⟩)
        go_ret2
        exact ⟨x, 0, cnt + 1, rfl, hi1, by omega, by omega, .inl ⟨rfl, hx0, hxl, by rw [← Hv.out]; exact HE.out, HLE.out⟩⟩
      · have htst2 : (v == x) = false := by simpa using heq
        have hlt : x < v := by omega
        clear heq
        by_cases hlim : lim < v
        · go_wp2_with (go_at_call 10; refine (clos_inv hx0 (by omega) hc0 (by omega) HB.out HV.out).mono ?_; rw [← Hv.out]; rintro e w1 ⟨rfl, hi1⟩)
          go_ret2
          refine ⟨0, 1, cnt + 1, rfl, hi1, by omega, by omega, .inr ⟨.inl rfl, rfl, ?_⟩⟩
          intro y a b e
          have := HN.out y a b e
          rw [← Hv.out] at this
          omega
        · go_wp2_with (go_at_call 10; refine (clos_inv hx0 (by omega) hc0 (by omega) HB.out HV.out).mono ?_; rw [← Hv.out]; rintro e w1 ⟨rfl, hi1⟩)
          go_roundw
          case rel =>
            have hu := HU.out
            have hn := HN.out
            rw [← Hv.out] at hu hn
            exact ⟨v, cnt + 1, rfl, hf0, by omega, by omega, by omega, hu (by omega), hn, hi1⟩
          case measure => simp [intOf]; omega

set_option maxHeartbeats 400000 in
theorem first_any (lim : Int) (h0 : 0 ≤ lim) (h1 : lim ≤ 8191) {B bf bl : Nat} {c : Int} {L : List (Int × Int)} {W w : World}
    (hH : Held B W bf bl c L) (hb : Below B W w) (hBs : B ≤ w.heap.size) :
    Calls Try.prog 11 #[.int .i64 lim, fVal bf bl] w
      fun e w' => (∃ r : Int, e = .returned (.tuple #[.int .i64 r, .bool true]) ∧ Least L c lim r ∨ e = .returned (.tuple #[.int .i64 0, .bool false]) ∧ NoFix L c lim) ∧ Below B W w' ∧ B ≤ w'.heap.size := by
  have HH : Hid (Held B W bf bl c L) := hH
  clear hH
  unfold fVal
  go_enter Try.func11, Try.ntmps11
  go_wp2
  go_loopw [6] (fun t w' => ∃ x : Int, t = .int .i64 x ∧ 0 ≤ x ∧ x ≤ lim + 1 ∧ (∀ y, 0 ≤ y → y < x → F L c y ≠ y) ∧ Below B W w' ∧ B ≤ w'.heap.size) (fun t _ => (lim + 1 - intOf t).toNat)
  case atStart => exact ⟨0, rfl, by omega, by omega, fun y a b => by omega, hb, hBs⟩
  case round =>
    obtain ⟨x, rfl, hx0, hxl, hno, hbr, hsr⟩ := hrel
    have HNO : Hid (∀ y, 0 ≤ y → y < x → F L c y ≠ y) := hno
    clear hno
    by_cases hle : x ≤ lim
    · by_cases heq : F L c x = x
      · have htst : (F L c x == x) = true := by simpa using heq
        have HE : Hid (F L c x = x) := heq
        clear heq
        go_wp2_with (go_at_call 6; refine (clos_held hx0 (by omega) HH.out hbr hsr).mono ?_; rintro e w1 ⟨rfl, hb1, hB1⟩)
        go_ret2
        refine ⟨⟨x, .inl ⟨rfl, hx0, hle, HE.out, ?_⟩⟩, hb1, hB1⟩
        intro y a _ e
        by_cases h : y < x
        · exact absurd e (HNO.out y a h)
        · omega
      · have htst : (F L c x == x) = false := by simpa using heq
        have HE : Hid (F L c x ≠ x) := heq
        clear heq
        go_wp2_with (go_at_call 6; refine (clos_held hx0 (by omega) HH.out hbr hsr).mono ?_; rintro e w1 ⟨rfl, hb1, hB1⟩)
        go_roundw
        case rel =>
          refine ⟨x + 1, rfl, by omega, by omega, ?_, hb1, hB1⟩
          intro y a b
          rcases Int.lt_or_eq_of_le (show y ≤ x by omega) with h | h
          · exact HNO.out y a h
          · subst h; exact HE.out
        case measure => simp [intOf]; omega
    · go_wp2
      go_ret2
      exact ⟨⟨0, .inr ⟨rfl, fun y a b => HNO.out y a (by omega)⟩⟩, hbr, hsr⟩
end Go.Proofs.Qxb6500855a
