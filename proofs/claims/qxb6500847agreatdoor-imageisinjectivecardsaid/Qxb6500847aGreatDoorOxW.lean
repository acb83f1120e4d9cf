/-
  SetEpoch, exactly.
-/
import Derived.Test.Qxb6500847aGreatDoorOxT
namespace Go.Proofs.Qxb6500847aGreatDoor.Os
open Go.RowKit FloorA
set_option maxRecDepth 100000
/-- SetEpoch. -/
noncomputable def epoX (M : Nat → En) (g : Int) : Int × (Nat → En) := open Classical in
  if g < 1 ∨ 4294967295 ≤ g then (15, M) else if ∃ i, i < 320 ∧ (M i).typ ≠ 0 then (12, M) else if ∃ i, i < 320 ∧ g < (M i).gen ∧ (M i).gen ≠ 4294967295 then (15, M) else
    (0, fun i => if i < 320 ∧ (M i).gen ≠ 4294967295 then { M i with gen := g } else M i)
section
variable {M : Nat → En} {g : Int}
theorem epoX_rng (h : g < 1 ∨ 4294967295 ≤ g) : epoX M g = (15, M) := by
  unfold epoX
  rw [if_pos h]
theorem epoX_busy (h : ¬ (g < 1 ∨ 4294967295 ≤ g)) (h2 : ∃ i, i < 320 ∧ (M i).typ ≠ 0) : epoX M g = (12, M) := by
  unfold epoX
  rw [if_neg h, if_pos h2]
theorem epoX_gen (h : ¬ (g < 1 ∨ 4294967295 ≤ g)) (h2 : ¬ ∃ i, i < 320 ∧ (M i).typ ≠ 0) (h3 : ∃ i, i < 320 ∧ g < (M i).gen ∧ (M i).gen ≠ 4294967295) : epoX M g = (15, M) := by
  unfold epoX
  rw [if_neg h, if_neg h2, if_pos h3]
theorem epoX_ok (h : ¬ (g < 1 ∨ 4294967295 ≤ g)) (h2 : ¬ ∃ i, i < 320 ∧ (M i).typ ≠ 0) (h3 : ¬ ∃ i, i < 320 ∧ g < (M i).gen ∧ (M i).gen ≠ 4294967295) : epoX M g = (0, fun i => if i < 320 ∧ (M i).gen ≠ 4294967295 then { M i with gen := g } else M i) := by
  unfold epoX
  rw [if_neg h, if_neg h2, if_neg h3]
end
section
variable {A : Nat} {rb sb : Nat → Nat} {s : Av} {tl : Nat → List Int} {ws : Nat → Nat → Nat → Int} {w : World} {L : Nat → List Nat} {n p c i : Nat}
theorem live_of_roots (hI : IV s tl L n) (hn : 0 < n) : ∃ i, i < 320 ∧ (ob s ws i).typ ≠ 0 := by
  obtain ⟨c, hc, e⟩ := hI.ro.rts.lt 0 hn
  obtain ⟨a, b, _⟩ := hI.ro.reg 0 c hn e
  exact ⟨c, hc, by rw [ob_at _ _ hc]; exact b⟩
/-- Where nothing is a root, nothing lives. -/
theorem roots_none (hI : IV s tl L 0) : ¬ ∃ i, i < 320 ∧ (ob s ws i).typ ≠ 0 := by
  rintro ⟨i, hi, ht⟩
  rw [ob_at _ _ hi] at ht
  obtain ⟨r, hr⟩ := hI.rk
  have key : ∀ m x, r x < m → x < 320 → (s.hd x).typ ≠ 0 → False := by
    intro m
    induction m with
    | zero => intro x h; exact absurd h (by omega)
    | succ m ih =>
      intro x hm hx hl
      rcases (hI.tr.all x hx hl).2 with q | ⟨p, hp, e, _⟩
      · obtain ⟨j, hj, _⟩ := hI.ro.all x hx hl q
        omega
      · have := hr x p hx hl e hp.2.1
        exact ih p (by omega) hp.2.1 (by rw [hp.2.2]; decide)
  exact key (r i + 1) i (by omega) hi ht
theorem ob_ep (s : Av) (ws : Nat → Nat → Nat → Int) (g : Nat) : ob (epS s g 320) ws = fun i => if i < 320 ∧ (ob s ws i).gen ≠ 4294967295 then { ob s ws i with gen := (g : Int) } else ob s ws i := by
  funext x
  have e := ep_gen s g 320 x
  obtain ⟨b1, b2, b3, _, _, b6, b7⟩ := (ep_sam s g 320).hd x
  by_cases hx : x < 320
  · have ew : wdsOf ((epS s g 320).hd x) ws = wdsOf (s.hd x) ws := by
      unfold wdsOf
      rw [b1, b2]
    rw [ob_at _ _ hx, ob_at _ _ hx, e, b1, b3, b6, b7, ew]
    generalize wdsOf (s.hd x) ws = wd
    by_cases q : (s.hd x).gen ≠ 4294967295
    · rw [if_pos ⟨hx, q⟩, if_pos ⟨hx, q⟩]
    · rw [if_neg (fun z => q z.2), if_neg (fun z => q z.2)]
  · rw [if_neg (fun z => hx z.1), ob_out _ _ hx, ob_out _ _ hx]
set_option maxHeartbeats 4000000 in
theorem SetEpoch_x (h : Ms w A rb sb s tl ws) (hI : IV s tl L n) (hX : IX s tl L n) (hW : Wr ws) {g : Nat} (hg : g < 4294967296) :
    Calls Tryz.prog 55 #[.pointer (some ⟨A, 0, none⟩), .int .u32 (g : Int)] w (TrPost A rb sb s ws (epoX (ob s ws) (g : Int)) w) := by
  have bB := alloc_below (w := w) (.cells #[.int .u16 0, .int .u32 (g : Int)] 32)
  have HM := hideIt (h.below bB)
  have HB := hideIt bB
  have HI := hideIt hI
  have HW : Hid (Wr ws) := hW
  have HXx := hideIt hX
  have l0 := h.am.lt
  have e0 := (h.below bB).am.nrc
  rw [hI.ro.rts.nrt] at e0
  clear h hI bB hW hX
  by_cases h1 : g < 1
  · have c1 : (g : Int) < 1 := by omega
    go_enter Tryz.func55, Tryz.ntmps55
    go_wp2_with (go_at_call 123; refine (refuse_walk _ _ _ _ _ _).mono ?_; rintro e w2 ⟨v, rfl, hv, hb⟩)
    exact bodyPost_ret (v := v) (by simp [results, Tryz.results55]) rfl (TrPost.err (epoX_rng (by omega)) ⟨hv, by omega, Below.thr HB.out hb⟩)
  · have c1 : ¬ (g : Int) < 1 := by omega
    by_cases h2 : g = 4294967295
    · subst h2
      go_enter Tryz.func55, Tryz.ntmps55
      go_wp2_with (go_at_call 123; refine (refuse_walk _ _ _ _ _ _).mono ?_; rintro e w2 ⟨v, rfl, hv, hb⟩)
      exact bodyPost_ret (v := v) (by simp [results, Tryz.results55]) rfl (TrPost.err (epoX_rng (by omega)) ⟨hv, by omega, Below.thr HB.out hb⟩)
    · have c2 : ¬ (g : Int) ≥ 4294967295 := by omega
      by_cases h3 : n = 0
      · subst h3
        go_enter Tryz.func55, Tryz.ntmps55
        go_wp2_with fail
        generalize w.alloc (.cells #[.int .u16 0, .int .u32 (g : Int)] 32) = w0 at *
        go_loopw [26] (fun v26 wr => ∃ k : Nat, k ≤ 320 ∧ v26 = .int .i64 (k : Int) ∧ wr = w0 ∧ ∀ j, j < k → (s.hd j).gen ≤ (g : Int) ∨ (s.hd j).gen = 4294967295) (fun v26 _ => 320 - (intOf v26).toNat)
        case atStart => exact ⟨0, by omega, rfl, rfl, fun j hj => absurd hj (Nat.not_lt_zero _)⟩
        case round =>
          obtain ⟨k, hk, rfl, rfl, hle⟩ := hrel
          have HL : Hid (∀ j, j < k → (s.hd j).gen ≤ (g : Int) ∨ (s.hd j).gen = 4294967295) := hle
          clear hle
          by_cases hlt : k < 320
          · have hlt' : (k : Int) < 320 := by omega
            have ek := HM.out.am.gen hlt
            by_cases hgt : (s.hd k).gen > (g : Int)
            · by_cases hm : (s.hd k).gen = 4294967295
              · have cm : ((s.hd k).gen != 4294967295) = false := by rw [hm]; rfl
                go_wp2_with fail
                exact ⟨⟨k + 1, by omega, by go_num, trivial, fun j hj => by
                  by_cases e : j = k
                  · rw [e]; exact Or.inr hm
                  · exact HL.out j (by omega)⟩, by simp [intOf]; omega⟩
              · have cm : ((s.hd k).gen != 4294967295) = true := by rw [bne_iff_ne]; exact hm
                have k1 : (k : Int) % 65536 = (k : Int) := by omega
                go_wp2_with (first | (go_at_call 124; refine (refOf_walk HM.out.am hlt).mono ?_; rintro e w1 ⟨rfl, hb1⟩) | (go_at_call 123; refine (refuse_walk _ _ _ _ _ _).mono ?_; rintro e w2 ⟨v, rfl, hv, hb⟩))
                exact bodyPost_ret (v := v) (by simp [results, Tryz.results55]) rfl (TrPost.err (epoX_gen (by omega) (roots_none HI.out) ⟨k, hlt, by rw [ob_at _ _ hlt]; exact ⟨hgt, hm⟩⟩) ⟨hv, by omega, Below.thr (Below.thr HB.out hb1) hb⟩)
            · have hgt' : ¬ (s.hd k).gen > (g : Int) := hgt
              go_wp2_with fail
              exact ⟨⟨k + 1, by omega, by go_num, trivial, fun j hj => by
                by_cases e : j = k
                · rw [e]; exact Or.inl (by omega)
                · exact HL.out j (by omega)⟩, by simp [intOf]; omega⟩
          · obtain rfl : k = 320 := by omega
            go_wp2_with fail
            generalize wr = w00 at *
            go_loopw [49] (fun v49 wz => ∃ k : Nat, k ≤ 320 ∧ v49 = .int .i64 (k : Int) ∧ Ms wz A rb sb (epS s g k) tl ws ∧ Ext w00.heap.size (Tz A rb sb) w00 wz) (fun v49 _ => 320 - (intOf v49).toNat)
            case atStart => exact ⟨0, by omega, rfl, by rw [ep_zero]; exact HM.out, Ext.refl _ _ _⟩
            case round =>
              obtain ⟨k, hk, rfl, hM, hE⟩ := hrel
              have HMk := hideIt hM
              have HEk := hideIt hE
              clear hM hE
              by_cases hlt : k < 320
              · have hlt' : (k : Int) < 320 := by omega
                have ek := HMk.out.am.gen hlt
                have fk := HMk.out.am.free (k * 8)
                rw [ep_at] at ek
                by_cases hm : (s.hd k).gen = 4294967295
                · have cm : ((s.hd k).gen != 4294967295) = false := by rw [hm]; rfl
                  have HF : Hid (Ms wr A rb sb (epS s g (k + 1)) tl ws) := by
                    show Ms _ _ _ _ _ _ _
                    rw [ep_skip s g k hm]; exact HMk.out
                  clear hm
                  go_wp2_with fail
                  exact ⟨⟨k + 1, by omega, by go_num, HF.out, HEk.out⟩, by simp [intOf]; omega⟩
                · have cm : ((s.hd k).gen != 4294967295) = true := by rw [bne_iff_ne]; exact hm
                  have HF : Hid (Ms (wr.setCell ⟨A, k * 8, none⟩ (.int .u32 (g : Int))) A rb sb (epS s g (k + 1)) tl ws) := by
                    show Ms _ _ _ _ _ _ _
                    rw [ep_step s g k hm]
                    refine HMk.out.setS (HMk.out.am.setHd (f := 0) hlt (by omega) rfl (fun f hf h0 => ?_)) rfl rfl
                    rw [ep_at]
                    match f, hf, h0 with
                    | 0, _, h => exact absurd rfl h
                    | 1, _, _ => rfl
                    | 2, _, _ => rfl
                    | 3, _, _ => rfl
                    | 4, _, _ => rfl
                    | 5, _, _ => rfl
                    | 6, _, _ => rfl
                    | 7, _, _ => rfl
                    | f + 8, h, _ => exact absurd h (by omega)
                  have HE2 := hideIt (HEk.out.setA (k * 8) (.int .u32 (g : Int)))
                  clear hm
                  go_wp2_with fail
                  exact ⟨⟨k + 1, by omega, by go_num, HF.out, HE2.out⟩, by simp [intOf]; omega⟩
              · obtain rfl : k = 320 := by omega
                have HF : Hid (TrPost A rb sb s ws (epoX (ob s ws) (g : Int)) w (.returned .nilIface) wr) := by
                  refine Or.inr ?_
                  rw [epoX_ok (by omega) (roots_none HI.out) (fun ⟨x, hx, q⟩ => by
                    rw [ob_at _ _ hx] at q
                    rcases HL.out x hx with z | z
                    · have q1 : (g : Int) < (s.hd x).gen := q.1
                      omega
                    · exact q.2 z)]
                  refine ⟨rfl, rfl, _, tl, ws, L, 0, HMk.out, (Ext.of_below HB.out _).trans HEk.out HB.out.size (fun _ _ q => q), HI.out.sam (ep_sam s g 320) (fun i hi => ?_), HXx.out.ep HI.out.ge (by omega), HW.out, ob_ep s ws g⟩
                  rw [ep_gen]
                  obtain ⟨g0, a1, a2, a3, a4⟩ := HI.out.ge.gen i hi
                  by_cases q : i < 320 ∧ (s.hd i).gen ≠ 4294967295
                  · rw [if_pos q]; exact ⟨g, rfl, by omega, by omega, fun _ => by omega⟩
                  · rw [if_neg q]; exact ⟨g0, a1, a2, a3, a4⟩
                go_wp2_with fail
                exact bodyPost_ret (by simp [results, Tryz.results55]) rfl HF.out
      · have c3 : (n : Int) > 0 := by omega
        go_enter Tryz.func55, Tryz.ntmps55
        go_wp2_with (go_at_call 123; refine (refuse_walk _ _ _ _ _ _).mono ?_; rintro e w2 ⟨v, rfl, hv, hb⟩)
        exact bodyPost_ret (v := v) (by simp [results, Tryz.results55]) rfl (TrPost.err (epoX_busy (by omega) (live_of_roots HI.out (by omega))) ⟨hv, by omega, Below.thr HB.out hb⟩)
end
end Go.Proofs.Qxb6500847aGreatDoor.Os
