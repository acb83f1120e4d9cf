/-
  Loop, and what its failure means.
-/
import Derived.Test.Qxb6500848aGreatDoorMakersN
namespace Go.Proofs.Qxb6500848aGreatDoor
open Go.RowKit Pl
set_option maxRecDepth 100000

set_option maxHeartbeats 8000000 in
theorem loop_walkN {X : Nat → Prop} {w : World} {ab nb : Nat} {lim : Int} {A : List Nd} (hS : St X w ab nb lim A) (hlim : lim ≤ 65536) {x lo hi : Int} (hx : Valid A x) (hlo : 0 ≤ lo) (hlo5 : lo ≤ 5) (hhi : -1 ≤ hi) (hhi5 : hi ≤ 5) :
    Calls Tryz.prog 107 #[.pointer (some ⟨ab, 0, none⟩), .int .i64 x, .int .i64 lo, .int .i64 hi] w (MadeN (loopN A x lo hi) X w ab nb lim A) := by
  have Hok := hideIt (loopN_ok hS.ar.wf hx hlo hlo5 hhi hhi5)
  obtain ⟨cap, n0, _, n1⟩ := hS.ar.node
  obtain ⟨sv, kv, c0, c1, c2, c3, c4, hk, hs⟩ := n1 x hx
  have x0 := hx.1
  have x1 : x < (A.length : Int) := by have := hx.2; omega
  have HS := hideIt hS
  have Hx := hideIt hx
  clear hS hx n1 hk hs c1 c2 c3 c4
  by_cases qH1 : hi = -1
  · by_cases qX1 : x = 1
    · have e : loopN A x lo hi = .id 1 := by
        unfold loopN
        rw [if_neg (by omega), if_pos (by omega)]
      rw [e]
      clear e
      have b1 : (hi == -1) = true := by simp; omega
      have b2 : (hi != -1) = false := by simp; omega
      have b3 : (x == 1) = true := by simp; omega
      have b4 : (hi == 0) = false := by simp; omega
      have b5 : (hi == 1) = false := by simp; omega
      have b6 : (x == 0) = false := by simp; omega
      have b7 : (x == 2) = false := by simp; omega
      clear qH1 qX1
      go_enter Tryz.func107, Tryz.ntmps107
      go_wp2
      go_ret2
      exact MadeN.id HS.out (Below.refl _ _) HS.out.ar.wf.v1
    · by_cases qX0 : x = 0
      · by_cases qL0 : lo = 0
        · have e : loopN A x lo hi = .id 1 := by
            unfold loopN
            rw [if_neg (by omega), if_neg (by omega), if_pos (by omega)]
          rw [e]
          clear e
          have b1 : (hi == -1) = true := by simp; omega
          have b2 : (hi != -1) = false := by simp; omega
          have b3 : (x == 1) = false := by simp; omega
          have b4 : (x == 0) = true := by simp; omega
          have b5 : (lo == 0) = true := by simp; omega
          have b6 : (hi == 0) = false := by simp; omega
          have b7 : (hi == 1) = false := by simp; omega
          have b8 : (lo == 1) = false := by simp; omega
          have b9 : (x == 2) = false := by simp; omega
          clear qH1 qX0 qL0
          go_enter Tryz.func107, Tryz.ntmps107
          go_wp2
          go_ret2
          exact MadeN.id HS.out (Below.refl _ _) HS.out.ar.wf.v1
        · have e : loopN A x lo hi = .id 0 := by
            unfold loopN
            rw [if_neg (by omega), if_neg (by omega), if_neg (by omega), if_pos (by omega)]
          rw [e]
          clear e
          have b1 : (hi == -1) = true := by simp; omega
          have b2 : (hi != -1) = false := by simp; omega
          have b3 : (x == 1) = false := by simp; omega
          have b4 : (x == 0) = true := by simp; omega
          have b5 : (lo == 0) = false := by simp; omega
          have b6 : (hi == 0) = false := by simp; omega
          have b7 : (hi == 1) = false := by simp; omega
          have b8 : (x == 2) = false := by simp; omega
          clear qH1 qX0
          go_enter Tryz.func107, Tryz.ntmps107
          go_wp2
          go_ret2
          exact MadeN.id HS.out (Below.refl _ _) HS.out.ar.wf.v0
      · by_cases qX2 : x = 2
        · have e : loopN A x lo hi = .id x := by
            unfold loopN
            rw [if_neg (by omega), if_neg (by omega), if_neg (by omega), if_neg (by omega), if_pos (by omega)]
          rw [e]
          clear e
          have b1 : (hi == -1) = true := by simp; omega
          have b2 : (hi != -1) = false := by simp; omega
          have b3 : (x == 1) = false := by simp; omega
          have b4 : (x == 0) = false := by simp; omega
          have b5 : (x == 2) = true := by simp; omega
          have b6 : (hi == 0) = false := by simp; omega
          have b7 : (hi == 1) = false := by simp; omega
          clear qH1 qX2
          go_enter Tryz.func107, Tryz.ntmps107
          go_wp2
          go_ret2
          exact MadeN.id HS.out (Below.refl _ _) Hx.out
        · by_cases qK8 : (nodeAt A x).kind = 8
          · have e : loopN A x lo hi = .id x := by
              unfold loopN
              rw [if_neg (by omega), if_neg (by omega), if_neg (by omega), if_neg (by omega), if_pos (by omega)]
            rw [e]
            clear e
            have b1 : (hi == -1) = true := by simp; omega
            have b2 : (hi != -1) = false := by simp; omega
            have b3 : (x == 1) = false := by simp; omega
            have b4 : (x == 0) = false := by simp; omega
            have b5 : (x == 2) = false := by simp; omega
            have b6 : ((nodeAt A x).kind == 8) = true := by simp; omega
            have b7 : (hi == 0) = false := by simp; omega
            have b8 : (hi == 1) = false := by simp; omega
            clear qH1 qK8
            go_enter Tryz.func107, Tryz.ntmps107
            go_wp2
            go_ret2
            exact MadeN.id HS.out (Below.refl _ _) Hx.out
          · by_cases qL1 : lo = 1
            · have e : loopN A x lo hi = .nd ⟨9, [], [x], lo, hi⟩ := by
                unfold loopN
                rw [if_neg (by omega), if_neg (by omega), if_neg (by omega), if_neg (by omega), if_neg (by omega), if_neg (by omega), if_neg (by omega)]
              have Hok' : Hid (NdOk A A.length ⟨9, [], [x], lo, hi⟩) := by
                have := Hok.out
                rw [e] at this
                exact this
              rw [e]
              clear e
              have b1 : (hi == -1) = true := by simp; omega
              have b2 : (hi != -1) = false := by simp; omega
              have b3 : (x == 1) = false := by simp; omega
              have b4 : (x == 0) = false := by simp; omega
              have b5 : (x == 2) = false := by simp; omega
              have b6 : ((nodeAt A x).kind == 8) = false := by simp; omega
              have b7 : (lo == 1) = true := by simp; omega
              have b8 : (hi == 0) = false := by simp; omega
              have b9 : (hi == 1) = false := by simp; omega
              have b10 : (lo == 0) = false := by simp; omega
              clear qH1 qL1
              go_enter Tryz.func107, Tryz.ntmps107
              go_wp2_with (go_at_call 132; refine (intern_walkN (HS.out.below (alloc_below _) (Nat.le_refl _)) ⟨9, [], [x], lo, hi⟩ Hok'.out (ints_new (t := 28) HS.out.xlt [x] (by simp [maxLen])) (Seq.nil X _) hlim).mono ?_; rintro e w1 ⟨X', nb', A', z, ev, hG, rfl, hh⟩)
              go_ret2
              exact MadeN.after (alloc_below _) ⟨X', nb', A', z, ev, hG, rfl, hh⟩
            · by_cases qL0 : lo = 0
              · have e : loopN A x lo hi = starN A x := by
                  unfold loopN
                  rw [if_neg (by omega), if_neg (by omega), if_neg (by omega), if_neg (by omega), if_neg (by omega), if_neg (by omega), if_pos (by omega)]
                rw [e]
                clear e
                have b1 : (hi == -1) = true := by simp; omega
                have b2 : (hi != -1) = false := by simp; omega
                have b3 : (x == 1) = false := by simp; omega
                have b4 : (x == 0) = false := by simp; omega
                have b5 : (x == 2) = false := by simp; omega
                have b6 : ((nodeAt A x).kind == 8) = false := by simp; omega
                have b7 : (lo == 1) = false := by simp; omega
                have b8 : (lo == 0) = true := by simp; omega
                have b9 : (hi == 0) = false := by simp; omega
                have b10 : (hi == 1) = false := by simp; omega
                clear qH1 qL0
                go_enter Tryz.func107, Tryz.ntmps107
                go_wp2_with (go_at_call 106; refine (star_walkN HS.out hlim Hx.out).mono ?_; rintro e w1 ⟨X', nb', A', z, ev, hG, rfl, hh⟩)
                go_ret2
                exact ⟨X', nb', A', z, ev, hG, rfl, hh⟩
              · have e : loopN A x lo hi = .nd ⟨9, [], [x], lo, hi⟩ := by
                  unfold loopN
                  rw [if_neg (by omega), if_neg (by omega), if_neg (by omega), if_neg (by omega), if_neg (by omega), if_neg (by omega), if_neg (by omega)]
                have Hok' : Hid (NdOk A A.length ⟨9, [], [x], lo, hi⟩) := by
                  have := Hok.out
                  rw [e] at this
                  exact this
                rw [e]
                clear e
                have b1 : (hi == -1) = true := by simp; omega
                have b2 : (hi != -1) = false := by simp; omega
                have b3 : (x == 1) = false := by simp; omega
                have b4 : (x == 0) = false := by simp; omega
                have b5 : (x == 2) = false := by simp; omega
                have b6 : ((nodeAt A x).kind == 8) = false := by simp; omega
                have b7 : (lo == 1) = false := by simp; omega
                have b8 : (lo == 0) = false := by simp; omega
                have b9 : (hi == 0) = false := by simp; omega
                have b10 : (hi == 1) = false := by simp; omega
                clear qH1
                go_enter Tryz.func107, Tryz.ntmps107
                go_wp2_with (go_at_call 132; refine (intern_walkN (HS.out.below (alloc_below _) (Nat.le_refl _)) ⟨9, [], [x], lo, hi⟩ Hok'.out (ints_new (t := 28) HS.out.xlt [x] (by simp [maxLen])) (Seq.nil X _) hlim).mono ?_; rintro e w1 ⟨X', nb', A', z, ev, hG, rfl, hh⟩)
                go_ret2
                exact MadeN.after (alloc_below _) ⟨X', nb', A', z, ev, hG, rfl, hh⟩
  · by_cases qL : hi < lo
    · have e : loopN A x lo hi = .id 0 := by
        unfold loopN
        rw [if_pos (by omega)]
      rw [e]
      clear e
      have b1 : (hi == -1) = false := by simp; omega
      have b2 : (hi != -1) = true := by simp; omega
      go_enter Tryz.func107, Tryz.ntmps107
      go_wp2
      go_ret2
      exact MadeN.id HS.out (Below.refl _ _) HS.out.ar.wf.v0
    · by_cases qH0 : hi = 0
      · have e : loopN A x lo hi = .id 1 := by
          unfold loopN
          rw [if_neg (by omega), if_pos (by omega)]
        rw [e]
        clear e
        have b1 : (hi == -1) = false := by simp; omega
        have b2 : (hi != -1) = true := by simp; omega
        have l0 : lo ≤ hi := by omega
        have b3 : (hi == 0) = true := by simp; omega
        have b4 : (hi == 1) = false := by simp; omega
        clear qH0
        go_enter Tryz.func107, Tryz.ntmps107
        go_wp2
        go_ret2
        exact MadeN.id HS.out (Below.refl _ _) HS.out.ar.wf.v1
      · by_cases qX1 : x = 1
        · have e : loopN A x lo hi = .id 1 := by
            unfold loopN
            rw [if_neg (by omega), if_pos (by omega)]
          rw [e]
          clear e
          have b1 : (hi == -1) = false := by simp; omega
          have b2 : (hi != -1) = true := by simp; omega
          have l0 : lo ≤ hi := by omega
          have b3 : (hi == 0) = false := by simp; omega
          have b4 : (x == 1) = true := by simp; omega
          have b5 : (x == 0) = false := by simp; omega
          have b6 : (x == 2) = false := by simp; omega
          clear qX1
          go_enter Tryz.func107, Tryz.ntmps107
          go_wp2
          go_ret2
          exact MadeN.id HS.out (Below.refl _ _) HS.out.ar.wf.v1
        · by_cases qX0 : x = 0
          · by_cases qL0 : lo = 0
            · have e : loopN A x lo hi = .id 1 := by
                unfold loopN
                rw [if_neg (by omega), if_neg (by omega), if_pos (by omega)]
              rw [e]
              clear e
              have b1 : (hi == -1) = false := by simp; omega
              have b2 : (hi != -1) = true := by simp; omega
              have l0 : lo ≤ hi := by omega
              have b3 : (hi == 0) = false := by simp; omega
              have b4 : (x == 1) = false := by simp; omega
              have b5 : (x == 0) = true := by simp; omega
              have b6 : (lo == 0) = true := by simp; omega
              have b7 : (lo == 1) = false := by simp; omega
              have b8 : (x == 2) = false := by simp; omega
              clear qX0 qL0
              go_enter Tryz.func107, Tryz.ntmps107
              go_wp2
              go_ret2
              exact MadeN.id HS.out (Below.refl _ _) HS.out.ar.wf.v1
            · have e : loopN A x lo hi = .id 0 := by
                unfold loopN
                rw [if_neg (by omega), if_neg (by omega), if_neg (by omega), if_pos (by omega)]
              rw [e]
              clear e
              have b1 : (hi == -1) = false := by simp; omega
              have b2 : (hi != -1) = true := by simp; omega
              have l0 : lo ≤ hi := by omega
              have b3 : (hi == 0) = false := by simp; omega
              have b4 : (x == 1) = false := by simp; omega
              have b5 : (x == 0) = true := by simp; omega
              have b6 : (lo == 0) = false := by simp; omega
              have b7 : (x == 2) = false := by simp; omega
              clear qX0
              go_enter Tryz.func107, Tryz.ntmps107
              go_wp2
              go_ret2
              exact MadeN.id HS.out (Below.refl _ _) HS.out.ar.wf.v0
          · by_cases qX2 : x = 2
            · have e : loopN A x lo hi = .id x := by
                unfold loopN
                rw [if_neg (by omega), if_neg (by omega), if_neg (by omega), if_neg (by omega), if_pos (by omega)]
              rw [e]
              clear e
              have b1 : (hi == -1) = false := by simp; omega
              have b2 : (hi != -1) = true := by simp; omega
              have l0 : lo ≤ hi := by omega
              have b3 : (hi == 0) = false := by simp; omega
              have b4 : (x == 1) = false := by simp; omega
              have b5 : (x == 0) = false := by simp; omega
              have b6 : (x == 2) = true := by simp; omega
              clear qX2
              go_enter Tryz.func107, Tryz.ntmps107
              go_wp2
              go_ret2
              exact MadeN.id HS.out (Below.refl _ _) Hx.out
            · by_cases qK8 : (nodeAt A x).kind = 8
              · have e : loopN A x lo hi = .id x := by
                  unfold loopN
                  rw [if_neg (by omega), if_neg (by omega), if_neg (by omega), if_neg (by omega), if_pos (by omega)]
                rw [e]
                clear e
                have b1 : (hi == -1) = false := by simp; omega
                have b2 : (hi != -1) = true := by simp; omega
                have l0 : lo ≤ hi := by omega
                have b3 : (hi == 0) = false := by simp; omega
                have b4 : (x == 1) = false := by simp; omega
                have b5 : (x == 0) = false := by simp; omega
                have b6 : (x == 2) = false := by simp; omega
                have b7 : ((nodeAt A x).kind == 8) = true := by simp; omega
                clear qK8
                go_enter Tryz.func107, Tryz.ntmps107
                go_wp2
                go_ret2
                exact MadeN.id HS.out (Below.refl _ _) Hx.out
              · by_cases qL1 : lo = 1
                · by_cases qHH1 : hi = 1
                  · have e : loopN A x lo hi = .id x := by
                      unfold loopN
                      rw [if_neg (by omega), if_neg (by omega), if_neg (by omega), if_neg (by omega), if_neg (by omega), if_pos (by omega)]
                    rw [e]
                    clear e
                    have b1 : (hi == -1) = false := by simp; omega
                    have b2 : (hi != -1) = true := by simp; omega
                    have l0 : lo ≤ hi := by omega
                    have b3 : (hi == 0) = false := by simp; omega
                    have b4 : (x == 1) = false := by simp; omega
                    have b5 : (x == 0) = false := by simp; omega
                    have b6 : (x == 2) = false := by simp; omega
                    have b7 : ((nodeAt A x).kind == 8) = false := by simp; omega
                    have b8 : (lo == 1) = true := by simp; omega
                    have b9 : (hi == 1) = true := by simp; omega
                    have b10 : (lo == 0) = false := by simp; omega
                    clear qL1 qHH1
                    go_enter Tryz.func107, Tryz.ntmps107
                    go_wp2
                    go_ret2
                    exact MadeN.id HS.out (Below.refl _ _) Hx.out
                  · have e : loopN A x lo hi = .nd ⟨9, [], [x], lo, hi⟩ := by
                      unfold loopN
                      rw [if_neg (by omega), if_neg (by omega), if_neg (by omega), if_neg (by omega), if_neg (by omega), if_neg (by omega), if_neg (by omega)]
                    have Hok' : Hid (NdOk A A.length ⟨9, [], [x], lo, hi⟩) := by
                      have := Hok.out
                      rw [e] at this
                      exact this
                    rw [e]
                    clear e
                    have b1 : (hi == -1) = false := by simp; omega
                    have b2 : (hi != -1) = true := by simp; omega
                    have l0 : lo ≤ hi := by omega
                    have b3 : (hi == 0) = false := by simp; omega
                    have b4 : (x == 1) = false := by simp; omega
                    have b5 : (x == 0) = false := by simp; omega
                    have b6 : (x == 2) = false := by simp; omega
                    have b7 : ((nodeAt A x).kind == 8) = false := by simp; omega
                    have b8 : (lo == 1) = true := by simp; omega
                    have b9 : (hi == 1) = false := by simp; omega
                    have b10 : (lo == 0) = false := by simp; omega
                    clear qL1
                    go_enter Tryz.func107, Tryz.ntmps107
                    go_wp2_with (go_at_call 132; refine (intern_walkN (HS.out.below (alloc_below _) (Nat.le_refl _)) ⟨9, [], [x], lo, hi⟩ Hok'.out (ints_new (t := 28) HS.out.xlt [x] (by simp [maxLen])) (Seq.nil X _) hlim).mono ?_; rintro e w1 ⟨X', nb', A', z, ev, hG, rfl, hh⟩)
                    go_ret2
                    exact MadeN.after (alloc_below _) ⟨X', nb', A', z, ev, hG, rfl, hh⟩
                · by_cases qL0 : lo = 0
                  · have e : loopN A x lo hi = .nd ⟨9, [], [x], lo, hi⟩ := by
                      unfold loopN
                      rw [if_neg (by omega), if_neg (by omega), if_neg (by omega), if_neg (by omega), if_neg (by omega), if_neg (by omega), if_neg (by omega)]
                    have Hok' : Hid (NdOk A A.length ⟨9, [], [x], lo, hi⟩) := by
                      have := Hok.out
                      rw [e] at this
                      exact this
                    rw [e]
                    clear e
                    have b1 : (hi == -1) = false := by simp; omega
                    have b2 : (hi != -1) = true := by simp; omega
                    have l0 : lo ≤ hi := by omega
                    have b3 : (hi == 0) = false := by simp; omega
                    have b4 : (x == 1) = false := by simp; omega
                    have b5 : (x == 0) = false := by simp; omega
                    have b6 : (x == 2) = false := by simp; omega
                    have b7 : ((nodeAt A x).kind == 8) = false := by simp; omega
                    have b8 : (lo == 1) = false := by simp; omega
                    have b9 : (lo == 0) = true := by simp; omega
                    clear qL0
                    go_enter Tryz.func107, Tryz.ntmps107
                    go_wp2_with (go_at_call 132; refine (intern_walkN (HS.out.below (alloc_below _) (Nat.le_refl _)) ⟨9, [], [x], lo, hi⟩ Hok'.out (ints_new (t := 28) HS.out.xlt [x] (by simp [maxLen])) (Seq.nil X _) hlim).mono ?_; rintro e w1 ⟨X', nb', A', z, ev, hG, rfl, hh⟩)
                    go_ret2
                    exact MadeN.after (alloc_below _) ⟨X', nb', A', z, ev, hG, rfl, hh⟩
                  · have e : loopN A x lo hi = .nd ⟨9, [], [x], lo, hi⟩ := by
                      unfold loopN
                      rw [if_neg (by omega), if_neg (by omega), if_neg (by omega), if_neg (by omega), if_neg (by omega), if_neg (by omega), if_neg (by omega)]
                    have Hok' : Hid (NdOk A A.length ⟨9, [], [x], lo, hi⟩) := by
                      have := Hok.out
                      rw [e] at this
                      exact this
                    rw [e]
                    clear e
                    have b1 : (hi == -1) = false := by simp; omega
                    have b2 : (hi != -1) = true := by simp; omega
                    have l0 : lo ≤ hi := by omega
                    have b3 : (hi == 0) = false := by simp; omega
                    have b4 : (x == 1) = false := by simp; omega
                    have b5 : (x == 0) = false := by simp; omega
                    have b6 : (x == 2) = false := by simp; omega
                    have b7 : ((nodeAt A x).kind == 8) = false := by simp; omega
                    have b8 : (lo == 1) = false := by simp; omega
                    have b9 : (lo == 0) = false := by simp; omega
                    go_enter Tryz.func107, Tryz.ntmps107
                    go_wp2_with (go_at_call 132; refine (intern_walkN (HS.out.below (alloc_below _) (Nat.le_refl _)) ⟨9, [], [x], lo, hi⟩ Hok'.out (ints_new (t := 28) HS.out.xlt [x] (by simp [maxLen])) (Seq.nil X _) hlim).mono ?_; rintro e w1 ⟨X', nb', A', z, ev, hG, rfl, hh⟩)
                    go_ret2
                    exact MadeN.after (alloc_below _) ⟨X', nb', A', z, ev, hG, rfl, hh⟩
end Go.Proofs.Qxb6500848aGreatDoor
