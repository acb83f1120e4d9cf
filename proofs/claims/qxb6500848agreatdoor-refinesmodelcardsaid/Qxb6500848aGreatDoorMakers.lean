/-
  The walks of Class, Concat, Comp, Star, Loop.
-/
import Derived.Test.Qxb6500848aGreatDoorIntern
import Derived.Test.Qxb6500848aGreatDoorPop
namespace Go.Proofs.Qxb6500848aGreatDoor
open Go.RowKit Pl
set_option maxRecDepth 100000

theorem ints_new_at {X : Nat → Prop} {w : World} (hx : ∀ z, X z → z < w.heap.size) (n : Nat) (hn : w.heap.size = n) (l : List Int) (t : TypeId) (h : l.length ≤ maxLen) : Ints X (w.alloc (.cells (l.map encI).toArray t)) (.slice (some ⟨n, 0, none⟩) l.length l.length) l := by
  subst hn; exact ints_new hx l t h

theorem alloc_below {w : World} (o : Obj) : Below w.heap.size w (w.alloc o) := Below.alloc (Below.refl _ _) (Nat.le_refl _) o

set_option maxHeartbeats 1000000 in
theorem concat_walk {X : Nat → Prop} {w : World} {ab nb : Nat} {lim : Int} {A : List Nd} (hS : St X w ab nb lim A) (hlim : lim ≤ 65536) {x y : Int} (hx : Valid A x) (hy : Valid A y) :
    Calls Tryz.prog 102 #[.pointer (some ⟨ab, 0, none⟩), .int .i64 x, .int .i64 y] w (Made (concatN x y) X w ab nb lim A) := by
  have Hok := hideIt (concatN_ok hS.ar.wf hx hy)
  have HS := hideIt hS
  have Hx := hideIt hx
  have Hy := hideIt hy
  clear hS hx hy
  by_cases h0 : x = 0
  · subst h0
    rw [show concatN 0 y = .id 0 by simp [concatN]]
    go_enter Tryz.func102, Tryz.ntmps102
    go_wp2
    go_ret2
    exact Made.id HS.out (Below.refl _ _) HS.out.ar.wf.v0
  · by_cases h1 : y = 0
    · subst h1
      rw [show concatN x 0 = .id 0 by simp [concatN]]
      go_enter Tryz.func102, Tryz.ntmps102
      go_wp2
      go_ret2
      exact Made.id HS.out (Below.refl _ _) HS.out.ar.wf.v0
    · have b0 : (x == 0) = false := by simp [h0]
      have b1 : (y == 0) = false := by simp [h1]
      by_cases h2 : x = 1
      · subst h2
        rw [show concatN 1 y = .id y by simp [concatN, h1]]
        go_enter Tryz.func102, Tryz.ntmps102
        go_wp2
        go_ret2
        exact Made.id HS.out (Below.refl _ _) Hy.out
      · by_cases h3 : y = 1
        · subst h3
          rw [show concatN x 1 = .id x by simp [concatN, h0, h2]]
          go_enter Tryz.func102, Tryz.ntmps102
          go_wp2
          go_ret2
          exact Made.id HS.out (Below.refl _ _) Hx.out
        · have e : concatN x y = .nd ⟨4, [], [x, y], 0, 0⟩ := by simp [concatN, h0, h1, h2, h3]
          have Hok' : Hid (NdOk A A.length ⟨4, [], [x, y], 0, 0⟩) := by
            have := Hok.out
            rw [e] at this
            exact this
          rw [e]
          have HK := hideIt (ints_new (t := 28) HS.out.xlt [x, y] (by simp [maxLen]))
          go_enter Tryz.func102, Tryz.ntmps102
          go_wp2_with (go_at_call 132; refine (intern_walk (HS.out.below (alloc_below _) (Nat.le_refl _)) ⟨4, [], [x, y], 0, 0⟩ Hok'.out HK.out (Seq.nil X _) hlim).mono ?_; rintro e w1 ⟨X', nb', A', z, ev, hG, rfl, hh⟩)
          go_ret2
          exact Made.after (alloc_below _) ⟨X', nb', A', z, ev, hG, rfl, hh⟩

set_option maxHeartbeats 1000000 in
theorem comp_walk {X : Nat → Prop} {w : World} {ab nb : Nat} {lim : Int} {A : List Nd} (hS : St X w ab nb lim A) (hlim : lim ≤ 65536) {x : Int} (hx : Valid A x) :
    Calls Tryz.prog 105 #[.pointer (some ⟨ab, 0, none⟩), .int .i64 x] w (Made (compN A x) X w ab nb lim A) := by
  have Hok := hideIt (compN_ok hS.ar.wf hx)
  obtain ⟨cap, n0, _, n1⟩ := hS.ar.node
  obtain ⟨sv, kv, c0, c1, c2, c3, c4, hk, hs⟩ := n1 x hx
  have x0 := hx.1
  have x1 : x < (A.length : Int) := by have := hx.2; omega
  have HNd := hideIt (hS.ar.wf.at hx)
  have HKv : Hid (∀ k ∈ (nodeAt A x).kids, Valid A k ∧ k.toNat < x.toNat) := fun k hk => hS.ar.wf.kidValid hx hk
  have HS := hideIt hS
  have Hx := hideIt hx
  clear hS hx n1
  by_cases h0 : x = 0
  · subst h0
    rw [show compN A 0 = .id 2 by simp [compN]]
    go_enter Tryz.func105, Tryz.ntmps105
    go_wp2
    go_ret2
    exact Made.id HS.out (Below.refl _ _) HS.out.ar.wf.v2
  · by_cases h2 : x = 2
    · subst h2
      rw [show compN A 2 = .id 0 by simp [compN]]
      go_enter Tryz.func105, Tryz.ntmps105
      go_wp2
      go_ret2
      exact Made.id HS.out (Below.refl _ _) HS.out.ar.wf.v0
    · by_cases h7 : (nodeAt A x).kind = 7
      · rw [show compN A x = .id (kid (nodeAt A x) 0) by simp [compN, h0, h2, h7]]
        obtain ⟨a, ea⟩ := HNd.out.one (Or.inl h7)
        have hva : Hid (Valid A a) := (HKv.out a (by rw [ea]; exact List.mem_singleton.2 rfl)).1
        have ek : kid (nodeAt A x) 0 = a := by simp [kid, ea]
        rw [ek]
        rw [ea] at hk
        obtain ⟨ka, kc, rfl, k1, k2, k3⟩ := hk
        obtain ⟨g, o, rfl, _, hc⟩ := k3 (by simp)
        have hc0 := hc 0 (by simp)
        simp only [List.getElem_cons_zero, Nat.add_zero] at hc0
        simp only [List.length_singleton] at *
        clear k3 hc
        go_enter Tryz.func105, Tryz.ntmps105
        go_wp2
        go_ret2
        exact Made.id HS.out (Below.refl _ _) hva.out
      · have e : compN A x = .nd ⟨7, [], [x], 0, 0⟩ := by simp [compN, h0, h2, h7]
        have Hok' : Hid (NdOk A A.length ⟨7, [], [x], 0, 0⟩) := by
          have := Hok.out
          rw [e] at this
          exact this
        rw [e]
        have HK := hideIt (ints_new (t := 28) HS.out.xlt [x] (by simp [maxLen]))
        go_enter Tryz.func105, Tryz.ntmps105
        go_wp2_with (go_at_call 132; refine (intern_walk (HS.out.below (alloc_below _) (Nat.le_refl _)) ⟨7, [], [x], 0, 0⟩ Hok'.out HK.out (Seq.nil X _) hlim).mono ?_; rintro e w1 ⟨X', nb', A', z, ev, hG, rfl, hh⟩)
        go_ret2
        exact Made.after (alloc_below _) ⟨X', nb', A', z, ev, hG, rfl, hh⟩

theorem starN_full {A : List Nd} {x : Int} (h0 : ¬ x = 0) (h1 : ¬ x = 1) (h2 : ¬ x = 2) (h8 : ¬ (nodeAt A x).kind = 8) (h3 : (nodeAt A x).kind = 3) (hc : cnt (nodeAt A x).bits = 196608) : starN A x = .id 2 := by
  unfold starN
  rw [if_neg (fun h => h.elim h0 h1), if_neg (fun h => h.elim h2 h8), if_pos ⟨h3, hc⟩]
theorem starN_part {A : List Nd} {x : Int} (h0 : ¬ x = 0) (h1 : ¬ x = 1) (h2 : ¬ x = 2) (h8 : ¬ (nodeAt A x).kind = 8) (hc : ¬ cnt (nodeAt A x).bits = 196608) : starN A x = .nd ⟨8, [], [x], 0, 0⟩ := by
  unfold starN
  rw [if_neg (fun h => h.elim h0 h1), if_neg (fun h => h.elim h2 h8), if_neg (fun h => hc h.2)]

set_option maxHeartbeats 2000000 in
theorem star_walk {X : Nat → Prop} {w : World} {ab nb : Nat} {lim : Int} {A : List Nd} (hS : St X w ab nb lim A) (hlim : lim ≤ 65536) {x : Int} (hx : Valid A x) :
    Calls Tryz.prog 106 #[.pointer (some ⟨ab, 0, none⟩), .int .i64 x] w (Made (starN A x) X w ab nb lim A) := by
  have Hok := hideIt (starN_ok hS.ar.wf hx)
  obtain ⟨cap, n0, _, n1⟩ := hS.ar.node
  obtain ⟨sv, kv, c0, c1, c2, c3, c4, hk, hs⟩ := n1 x hx
  have x0 := hx.1
  have x1 : x < (A.length : Int) := by have := hx.2; omega
  have HNd := hideIt (hS.ar.wf.at hx)
  have HS := hideIt hS
  have Hx := hideIt hx
  have HSs := hideIt hs
  clear hS hx n1
  obtain ⟨ka, kc, rfl, k1, k2, k3⟩ := hk
  obtain ⟨sa, sc, rfl, s1, s2, s3⟩ := hs
  clear k3 s3
  by_cases h0 : x = 0
  · have b0 : (x == 0) = true := by simp [h0]
    rw [show starN A x = .id 1 by simp [starN, h0]]
    clear h0
    go_enter Tryz.func106, Tryz.ntmps106
    go_wp2
    go_ret2
    exact Made.id HS.out (alloc_below _) HS.out.ar.wf.v1
  · have b0 : (x == 0) = false := by simp [h0]
    by_cases h1 : x = 1
    · have b1 : (x == 1) = true := by simp [h1]
      rw [show starN A x = .id 1 by simp [starN, h1]]
      clear h1
      go_enter Tryz.func106, Tryz.ntmps106
      go_wp2
      go_ret2
      exact Made.id HS.out (alloc_below _) HS.out.ar.wf.v1
    · have b1 : (x == 1) = false := by simp [h1]
      by_cases h2 : x = 2
      · have b2 : (x == 2) = true := by simp [h2]
        rw [show starN A x = .id x by simp [starN, h2]]
        clear h0 h1 h2
        go_enter Tryz.func106, Tryz.ntmps106
        go_wp2
        go_ret2
        exact Made.id HS.out (alloc_below _) Hx.out
      · have b2 : (x == 2) = false := by simp [h2]
        by_cases h8 : (nodeAt A x).kind = 8
        · rw [show starN A x = .id x by simp [starN, h0, h1, h8]]
          go_enter Tryz.func106, Tryz.ntmps106
          go_wp2
          go_ret2
          exact Made.id HS.out (alloc_below _) Hx.out
        · have b8 : ((nodeAt A x).kind == 8) = false := by simp [h8]
          by_cases h3 : (nodeAt A x).kind = 3
          · obtain ⟨q1, q2⟩ := HNd.out.cls h3
            have Hb := hideIt q2
            have Hq : Hid ((nodeAt A x).bits.length ≤ 3072) := Nat.le_of_eq q1
            clear q1 q2
            by_cases hc : cnt (nodeAt A x).bits = 196608
            · rw [starN_full h0 h1 h2 h8 h3 hc]
              obtain ⟨cn, ecn⟩ : ∃ cn, cn = cnt (nodeAt A x).bits := ⟨_, rfl⟩
              rw [← ecn] at hc
              have hc' : (cn : Int) = 196608 := by omega
              clear hc
              go_enter Tryz.func106, Tryz.ntmps106
              go_wp2_with (go_at_call 71; refine (count_walk (HSs.out.below (alloc_below _) (Nat.le_refl _)) Hq.out Hb.out).mono ?_; rintro e w1 ⟨rfl, rfl⟩; rw [← ecn])
              go_ret2
              exact Made.id HS.out (alloc_below _) HS.out.ar.wf.v2
            · have e : starN A x = .nd ⟨8, [], [x], 0, 0⟩ := starN_part h0 h1 h2 h8 hc
              have Hok' : Hid (NdOk A A.length ⟨8, [], [x], 0, 0⟩) := by
                have := Hok.out
                rw [e] at this
                exact this
              rw [e]
              obtain ⟨cn, ecn⟩ : ∃ cn, cn = cnt (nodeAt A x).bits := ⟨_, rfl⟩
              rw [← ecn] at hc
              have hc' : ((cn : Int) == 196608) = false := by simp; omega
              go_enter Tryz.func106, Tryz.ntmps106
              go_wp2_with (first
                | (go_at_call 71; refine (count_walk (HSs.out.below (alloc_below _) (Nat.le_refl _)) Hq.out Hb.out).mono ?_; rintro e w1 ⟨rfl, rfl⟩; rw [← ecn])
                | (go_at_call 132; refine (intern_walk ((HS.out.below (alloc_below _) (Nat.le_refl _)).below (alloc_below _) (Nat.le_refl _)) ⟨8, [], [x], 0, 0⟩ Hok'.out (ints_new_at (t := 28) (HS.out.below (alloc_below _) (Nat.le_refl _)).xlt (w.heap.size + 1) (Deep.nblk_alloc _ _) [x] (by simp [maxLen])) (Seq.nil X _) hlim).mono ?_; rintro e w2 ⟨X', nb', A', z, ev, hG, rfl, hh⟩))
              go_ret2
              exact Made.after ((alloc_below _).trans ((alloc_below _).mono (alloc_below _).size)) ⟨X', nb', A', z, ev, hG, rfl, hh⟩
          · have b3 : ((nodeAt A x).kind == 3) = false := by simp [h3]
            have e : starN A x = .nd ⟨8, [], [x], 0, 0⟩ := by simp [starN, h0, h1, h2, h8, h3]
            have Hok' : Hid (NdOk A A.length ⟨8, [], [x], 0, 0⟩) := by
              have := Hok.out
              rw [e] at this
              exact this
            rw [e]
            go_enter Tryz.func106, Tryz.ntmps106
            go_wp2_with (go_at_call 132; refine (intern_walk ((HS.out.below (alloc_below _) (Nat.le_refl _)).below (alloc_below _) (Nat.le_refl _)) ⟨8, [], [x], 0, 0⟩ Hok'.out (ints_new_at (t := 28) (HS.out.below (alloc_below _) (Nat.le_refl _)).xlt (w.heap.size + 1) (Deep.nblk_alloc _ _) [x] (by simp [maxLen])) (Seq.nil X _) hlim).mono ?_; rintro e w2 ⟨X', nb', A', z, ev, hG, rfl, hh⟩)
            go_ret2
            exact Made.after ((alloc_below _).trans ((alloc_below _).mono (alloc_below _).size)) ⟨X', nb', A', z, ev, hG, rfl, hh⟩
end Go.Proofs.Qxb6500848aGreatDoor
