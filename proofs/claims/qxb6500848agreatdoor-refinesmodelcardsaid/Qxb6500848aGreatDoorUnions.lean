/-
  The walks of Union and Inter.
-/
import Derived.Test.Qxb6500848aGreatDoorFlat
namespace Go.Proofs.Qxb6500848aGreatDoor
open Go.RowKit Pl Go.Shelf
set_option maxRecDepth 100000

theorem contains_walk {X : Nat → Prop} {w : World} {v : Value} {l : List Int} (h : Ints X w v l) (x : Int) :
    Calls Tryz.prog 90 #[v, .int .i64 x] w fun e w' => e = .returned (.bool (l.contains x)) ∧ w' = w := by
  obtain ⟨ad, cap, rfl, h1, h2, h3⟩ := h
  by_cases hl : l = []
  · subst hl
    refine (AnyE.slices_Contains_empty Tryz.lContains ad cap (.int .i64 x) w).mono ?_
    rintro e w' ⟨rfl, rfl⟩
    exact ⟨rfl, rfl⟩
  · obtain ⟨g, o, rfl, _, hc⟩ := h3 hl
    refine (AnyE.slices_Contains Tryz.lContains (Value.int .i64) (fun a b => a == b) (EqlAt.int _ _ _) g o l.length cap l x w (Nat.le_refl _) (by unfold maxLen at h2; omega) (fun j hj => by rw [hc j hj]; simp [hj])).mono ?_
    rintro e w' ⟨rfl, rfl⟩
    refine ⟨ret_bool ?_, rfl⟩
    rw [List.take_length]
    rw [List.contains_eq_any_beq]

set_option maxHeartbeats 2000000 in
theorem union_walk {X : Nat → Prop} {w : World} {ab nb : Nat} {lim : Int} {A : List Nd} (hS : St X w ab nb lim A) (hlim : lim ≤ 65536) {xv : Value} {xs : List Int} (hxs : Ints X w xv xs) (hv : ∀ x ∈ xs, Valid A x) (hn : xs.length ≤ 65536) :
    Calls Tryz.prog 103 #[.pointer (some ⟨ab, 0, none⟩), xv] w (Made (unionN A xs) X w ab nb lim A) := by
  have Hok := hideIt (unionN_ok hS.ar.wf hv)
  have HfV : Hid (∀ z ∈ flat A 5 0 xs, Valid A z) := fun z hz => flat_valid hS.ar.wf hv hz
  have hfl := flat_few (kind := 5) (unit := 0) hS.ar.wf hv
  have hlen := hS.ar.len
  have eN : unionN A xs = (if (flat A 5 0 xs).contains 2 then .id 2 else if (flat A 5 0 xs).length = 0 then .id 0 else if (flat A 5 0 xs).length = 1 then .id ((flat A 5 0 xs).getD 0 0) else .nd ⟨5, [], flat A 5 0 xs, 0, 0⟩) := rfl
  have HS := hideIt hS
  have Hxs := hideIt hxs
  have HV := hideIt hv
  clear hS hv hxs
  generalize hpe : flat A 5 0 xs = p at *
  by_cases hc : p.contains 2 = true
  · rw [eN, if_pos hc]
    clear eN
    go_enter Tryz.func103, Tryz.ntmps103
    go_wp2_with (first
      | (go_at_call 133; refine (flat_walk HS.out Hxs.out HV.out hn 5 0 (by simp)).mono ?_; rintro e w1 ⟨v, rfl, hp, hb⟩; rw [hpe] at hp; have HP := hideIt hp; have HB := hideIt hb; obtain ⟨pa, pc, rfl, p1, p2, p3⟩ := hp; clear p3 hb)
      | (go_at_call 90; refine (contains_walk HP.out 2).mono ?_; rintro e w2 ⟨rfl, rfl⟩; rw [hc]))
    go_ret2
    exact Made.id HS.out HB.out HS.out.ar.wf.v2
  · have hc : p.contains 2 = false := by simpa using hc
    rw [hc, if_neg (by simp)] at eN
    by_cases h0 : p.length = 0
    · rw [eN, if_pos h0]
      clear eN
      obtain rfl := List.length_eq_zero_iff.1 h0
      simp only [List.length_nil] at *
      go_enter Tryz.func103, Tryz.ntmps103
      go_wp2_with (first
        | (go_at_call 133; refine (flat_walk HS.out Hxs.out HV.out hn 5 0 (by simp)).mono ?_; rintro e w1 ⟨v, rfl, hp, hb⟩; rw [hpe] at hp; have HP := hideIt hp; have HB := hideIt hb; obtain ⟨pa, pc, rfl, p1, p2, p3⟩ := hp; simp only [List.length_nil] at *; clear p3 hb)
        | (go_at_call 90; refine (contains_walk HP.out 2).mono ?_; rintro e w2 ⟨rfl, rfl⟩; rw [hc]))
      go_ret2
      exact Made.id HS.out HB.out HS.out.ar.wf.v0
    · rw [if_neg h0] at eN
      by_cases h1 : p.length = 1
      · obtain ⟨a, rfl⟩ := List.length_eq_one_iff.1 h1
        rw [if_pos h1] at eN
        have Hva : Hid (Valid A a) := HfV.out a (by simp)
        rw [eN, show [a].getD 0 0 = a from rfl]
        clear eN
        simp only [List.length_singleton] at *
        go_enter Tryz.func103, Tryz.ntmps103
        go_wp2_with (first
          | (go_at_call 133; refine (flat_walk HS.out Hxs.out HV.out hn 5 0 (by simp)).mono ?_; rintro e w1 ⟨v, rfl, hp, hb⟩; rw [hpe] at hp; have HP := hideIt hp; have HB := hideIt hb; obtain ⟨pa, pc, rfl, p1, p2, p3⟩ := hp; obtain ⟨g, o, rfl, _, hcc⟩ := p3 (by simp); have c0 := hcc 0 (by simp); simp only [List.getElem_cons_zero, Nat.add_zero] at c0; simp only [List.length_singleton] at *; clear p3 hb hcc)
          | (go_at_call 90; refine (contains_walk HP.out 2).mono ?_; rintro e w2 ⟨rfl, rfl⟩; rw [hc]))
        go_ret2
        exact Made.id HS.out HB.out Hva.out
      · rw [if_neg h1] at eN
        have Hok' : Hid (NdOk A A.length ⟨5, [], p, 0, 0⟩) := by
          have := Hok.out
          rw [eN] at this
          exact this
        rw [eN]
        clear eN
        have h0' : ((p.length : Int) == 0) = false := by rw [beq_eq_false_iff_ne]; omega
        have h1' : ((p.length : Int) == 1) = false := by rw [beq_eq_false_iff_ne]; omega
        go_enter Tryz.func103, Tryz.ntmps103
        go_wp2_with (first
          | (go_at_call 133; refine (flat_walk HS.out Hxs.out HV.out hn 5 0 (by simp)).mono ?_; rintro e w1 ⟨v, rfl, hp, hb⟩; rw [hpe] at hp; have HP := hideIt hp; have HB := hideIt hb; obtain ⟨pa, pc, rfl, p1, p2, p3⟩ := hp; clear p3 hb)
          | (go_at_call 90; refine (contains_walk HP.out 2).mono ?_; rintro e w2 ⟨rfl, rfl⟩; rw [hc])
          | (go_at_call 132; refine (intern_walk (HS.out.below HB.out (Nat.le_refl _)) ⟨5, [], p, 0, 0⟩ Hok'.out HP.out (Seq.nil X _) hlim).mono ?_; rintro e w3 ⟨X', nb', A', z, ev, hG, rfl, hh⟩))
        go_ret2
        exact Made.after HB.out ⟨X', nb', A', z, ev, hG, rfl, hh⟩

set_option maxHeartbeats 2000000 in
theorem inter_walk {X : Nat → Prop} {w : World} {ab nb : Nat} {lim : Int} {A : List Nd} (hS : St X w ab nb lim A) (hlim : lim ≤ 65536) {xv : Value} {xs : List Int} (hxs : Ints X w xv xs) (hv : ∀ x ∈ xs, Valid A x) (hn : xs.length ≤ 65536) :
    Calls Tryz.prog 104 #[.pointer (some ⟨ab, 0, none⟩), xv] w (Made (interN A xs) X w ab nb lim A) := by
  have Hok := hideIt (interN_ok hS.ar.wf hv)
  have HfV : Hid (∀ z ∈ flat A 6 2 xs, Valid A z) := fun z hz => flat_valid hS.ar.wf hv hz
  have hfl := flat_few (kind := 6) (unit := 2) hS.ar.wf hv
  have hlen := hS.ar.len
  have eN : interN A xs = (if (flat A 6 2 xs).contains 0 then .id 0 else if (flat A 6 2 xs).length = 0 then .id 2 else if (flat A 6 2 xs).length = 1 then .id ((flat A 6 2 xs).getD 0 0) else .nd ⟨6, [], flat A 6 2 xs, 0, 0⟩) := rfl
  have HS := hideIt hS
  have Hxs := hideIt hxs
  have HV := hideIt hv
  clear hS hv hxs
  generalize hpe : flat A 6 2 xs = p at *
  by_cases hc : p.contains 0 = true
  · rw [eN, if_pos hc]
    clear eN
    go_enter Tryz.func104, Tryz.ntmps104
    go_wp2_with (first
      | (go_at_call 133; refine (flat_walk HS.out Hxs.out HV.out hn 6 2 (by simp)).mono ?_; rintro e w1 ⟨v, rfl, hp, hb⟩; rw [hpe] at hp; have HP := hideIt hp; have HB := hideIt hb; obtain ⟨pa, pc, rfl, p1, p2, p3⟩ := hp; clear p3 hb)
      | (go_at_call 90; refine (contains_walk HP.out 0).mono ?_; rintro e w2 ⟨rfl, rfl⟩; rw [hc]))
    go_ret2
    exact Made.id HS.out HB.out HS.out.ar.wf.v0
  · have hc : p.contains 0 = false := by simpa using hc
    rw [hc, if_neg (by simp)] at eN
    by_cases h0 : p.length = 0
    · rw [eN, if_pos h0]
      clear eN
      obtain rfl := List.length_eq_zero_iff.1 h0
      simp only [List.length_nil] at *
      go_enter Tryz.func104, Tryz.ntmps104
      go_wp2_with (first
        | (go_at_call 133; refine (flat_walk HS.out Hxs.out HV.out hn 6 2 (by simp)).mono ?_; rintro e w1 ⟨v, rfl, hp, hb⟩; rw [hpe] at hp; have HP := hideIt hp; have HB := hideIt hb; obtain ⟨pa, pc, rfl, p1, p2, p3⟩ := hp; simp only [List.length_nil] at *; clear p3 hb)
        | (go_at_call 90; refine (contains_walk HP.out 0).mono ?_; rintro e w2 ⟨rfl, rfl⟩; rw [hc]))
      go_ret2
      exact Made.id HS.out HB.out HS.out.ar.wf.v2
    · rw [if_neg h0] at eN
      by_cases h1 : p.length = 1
      · obtain ⟨a, rfl⟩ := List.length_eq_one_iff.1 h1
        rw [if_pos h1] at eN
        have Hva : Hid (Valid A a) := HfV.out a (by simp)
        rw [eN, show [a].getD 0 0 = a from rfl]
        clear eN
        simp only [List.length_singleton] at *
        go_enter Tryz.func104, Tryz.ntmps104
        go_wp2_with (first
          | (go_at_call 133; refine (flat_walk HS.out Hxs.out HV.out hn 6 2 (by simp)).mono ?_; rintro e w1 ⟨v, rfl, hp, hb⟩; rw [hpe] at hp; have HP := hideIt hp; have HB := hideIt hb; obtain ⟨pa, pc, rfl, p1, p2, p3⟩ := hp; obtain ⟨g, o, rfl, _, hcc⟩ := p3 (by simp); have c0 := hcc 0 (by simp); simp only [List.getElem_cons_zero, Nat.add_zero] at c0; simp only [List.length_singleton] at *; clear p3 hb hcc)
          | (go_at_call 90; refine (contains_walk HP.out 0).mono ?_; rintro e w2 ⟨rfl, rfl⟩; rw [hc]))
        go_ret2
        exact Made.id HS.out HB.out Hva.out
      · rw [if_neg h1] at eN
        have Hok' : Hid (NdOk A A.length ⟨6, [], p, 0, 0⟩) := by
          have := Hok.out
          rw [eN] at this
          exact this
        rw [eN]
        clear eN
        have h0' : ((p.length : Int) == 0) = false := by rw [beq_eq_false_iff_ne]; omega
        have h1' : ((p.length : Int) == 1) = false := by rw [beq_eq_false_iff_ne]; omega
        go_enter Tryz.func104, Tryz.ntmps104
        go_wp2_with (first
          | (go_at_call 133; refine (flat_walk HS.out Hxs.out HV.out hn 6 2 (by simp)).mono ?_; rintro e w1 ⟨v, rfl, hp, hb⟩; rw [hpe] at hp; have HP := hideIt hp; have HB := hideIt hb; obtain ⟨pa, pc, rfl, p1, p2, p3⟩ := hp; clear p3 hb)
          | (go_at_call 90; refine (contains_walk HP.out 0).mono ?_; rintro e w2 ⟨rfl, rfl⟩; rw [hc])
          | (go_at_call 132; refine (intern_walk (HS.out.below HB.out (Nat.le_refl _)) ⟨6, [], p, 0, 0⟩ Hok'.out HP.out (Seq.nil X _) hlim).mono ?_; rintro e w3 ⟨X', nb', A', z, ev, hG, rfl, hh⟩))
        go_ret2
        exact Made.after HB.out ⟨X', nb', A', z, ev, hG, rfl, hh⟩
end Go.Proofs.Qxb6500848aGreatDoor
