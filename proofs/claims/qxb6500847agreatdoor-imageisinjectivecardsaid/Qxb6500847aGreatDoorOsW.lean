/-
  SetEpoch.
-/
import Derived.Test.Qxb6500847aGreatDoorOsV
import Derived.Test.Qxb6500847aGreatDoorOsUa
import Derived.Laws.ResultCell
namespace Go.Proofs.Qxb6500847aGreatDoor.Os
open Go.RowKit FloorA
set_option maxRecDepth 100000
theorem results_two {fn : Func} {p u : Tmp} {ty : TypeId} (h : fn.results = #[.cell p ty, .tmp u]) {P : Program} (tmps : Array Value) (w : World) (g : Nat) (v x : Value)
    (hp : tmps.getD p undef = .pointer (some ⟨g, 0, none⟩)) (hx : tmps.getD u undef = x) (hl : (loadVar ty ⟨g, 0, none⟩).run P w = .ok v w) :
    (results fn tmps).run P w = .ok (.tuple #[v, x]) w := by
  rw [results_cell_tmp h tmps P w, hp, hx]
  simp [asAddr, Result.andThen, hl]
/-- Fields of a row, and the first number that a field's type cannot hold. -/
def nF : Nat → Nat
  | 0 => 112
  | 1 => 18
  | 2 => 3
  | 3 => 4
  | 4 => 2
  | _ => 4
def fMax : Nat → Nat → Int
  | 0, f => if f % 7 = 0 then 281474976710656 else if f % 7 = 1 then 256 else if f % 7 = 2 then 18446744073709551616 else if f % 7 = 3 then 4294967296 else if f % 7 = 4 then 65536 else if f % 7 = 5 then 65536 else 256
  | 1, f => if f = 0 then 256 else if f = 1 then 256 else if f = 2 then 281474976710656 else if f = 3 then 65536 else if f = 4 then 65536 else if f = 5 then 281474976710656 else if f = 6 then 4294967296 else if f = 7 then 281474976710656 else if f = 8 then 281474976710656 else if f = 9 then 18446744073709551616 else if f = 10 then 256 else if f < 15 then 18446744073709551616 else if f = 15 then 256 else 4294967296
  | 2, f => if f = 0 then 256 else 65536
  | 3, f => if f = 0 then 18446744073709551616 else if f = 1 then 65536 else if f = 2 then 65536 else 281474976710656
  | 4, f => if f = 0 then 281474976710656 else 2
  | _, f => if f = 0 then 256 else if f = 1 then 281474976710656 else if f = 2 then 18446744073709551616 else 2
/-- The words of a row are words of its fields' types. -/
def Wt (t : Nat) (W : Nat → Int) : Prop := ∀ f, f < nF t → 0 ≤ W f ∧ W f < fMax t f
/-- Field k of a capability cell is in range. -/
def cOk (k : Nat) (x : Int) : Prop := (k = 0 → x % 65536 < 320) ∧ (k = 1 → x ≤ 15) ∧ (k = 4 → x ≤ 4096) ∧ (k = 5 → x ≤ 4096)
theorem cOk_zero (k : Nat) : cOk k 0 := ⟨fun _ => by omega, fun _ => by omega, fun _ => by omega, fun _ => by omega⟩
/-- Field f of a payload of table t is in range, as Valid asks. -/
def vOk : Nat → Nat → Int → Prop
  | 0, f, x => cOk (f % 7) x
  | 1, f, x => (f = 0 → x ≤ 6) ∧ (f = 1 → x ≤ 7) ∧ (f = 2 ∨ f = 5 ∨ f = 7 ∨ f = 8 → x % 65536 < 320) ∧ (f = 3 ∨ f = 4 → x ≤ 256) ∧ (f = 10 → x ≤ 4) ∧ (f = 15 → x ≤ 2)
  | 2, f, x => (f = 0 → x ≤ 2) ∧ (f = 1 ∨ f = 2 → x ≤ 256)
  | 3, f, x => (f = 1 ∨ f = 2 → x ≤ 256) ∧ (f = 3 → x % 65536 < 320)
  | 4, f, x => f = 0 → x % 65536 < 320
  | _, f, x => (f = 0 → x ≤ 31) ∧ (f = 1 → x % 65536 < 320)
theorem vOk_zero : ∀ t f, vOk t f 0
  | 0, _ => cOk_zero _
  | 1, _ => ⟨fun _ => by omega, fun _ => by omega, fun _ => by omega, fun _ => by omega, fun _ => by omega, fun _ => by omega⟩
  | 2, _ => ⟨fun _ => by omega, fun _ => by omega⟩
  | 3, _ => ⟨fun _ => by omega, fun _ => by omega⟩
  | 4, _ => fun _ => by omega
  | _ + 5, _ => ⟨fun _ => by omega, fun _ => by omega⟩
def Wc (t : Nat) (W : Nat → Int) : Prop := ∀ f, f < nF t → vOk t f (W f)
/-- The words of a row are words of its fields, and its cells are in range. -/
def Wq (t : Nat) (W : Nat → Int) : Prop := Wt t W ∧ Wc t W
def fOk (t f : Nat) (x : Int) : Prop := x < fMax t f ∧ vOk t f x
def Wr (ws : Nat → Nat → Nat → Int) : Prop := ∀ t r, t < 6 → r < nR t → Wq t (ws t r)
theorem Wr.upd {ws : Nat → Nat → Nat → Int} (h : Wr ws) {t r : Nat} {W : Nat → Int} (hW : Wq t W) : Wr (updW ws t r W) := fun u q hu hq => by
  unfold updW
  split
  · next e => rw [e.1]; exact hW
  · exact h u q hu hq
theorem fMax_pos : ∀ t f, 0 < fMax t f
  | 0, f => by unfold fMax; repeat' split <;> omega
  | 1, f => by unfold fMax; repeat' split <;> omega
  | 2, f => by unfold fMax; repeat' split <;> omega
  | 3, f => by unfold fMax; repeat' split <;> omega
  | 4, f => by unfold fMax; repeat' split <;> omega
  | t + 5, f => by unfold fMax; repeat' split <;> omega
theorem Wq.zero (t : Nat) : Wq t (fun _ => 0) := ⟨fun f _ => ⟨Int.le_refl _, fMax_pos t f⟩, fun f _ => vOk_zero t f⟩
section
variable {A : Nat} {rb sb : Nat → Nat} {s : Av} {tl : Nat → List Int} {ws : Nat → Nat → Nat → Int} {w : World} {L : Nat → List Nat} {n p c i : Nat}
/-- A call that turns the store and keeps it sound. -/
def Suc (A : Nat) (rb sb : Nat → Nat) (s : Av) (w w' : World) : Prop :=
  ∃ s' tl' ws' L' n', Ms w' A rb sb s' tl' ws' ∧ Ext w.heap.size (Tz A rb sb) w w' ∧ IV s' tl' L' n' ∧ Wr ws' ∧ Adv s s'
def epS (s : Av) (g : Nat) (k : Nat) : Av := { s with hd := fun x => if x < k ∧ (s.hd x).gen ≠ 4294967295 then ⟨g, (s.hd x).typ, (s.hd x).row, (s.hd x).par, (s.hd x).prv, (s.hd x).nxt, (s.hd x).bas, (s.hd x).siz⟩ else s.hd x }
theorem ep_sam (s : Av) (g k : Nat) : Sam s (epS s g k) := ⟨fun x => by unfold epS; dsimp only; split <;> exact ⟨rfl, rfl, rfl, rfl, rfl, rfl, rfl⟩, rfl, rfl, rfl, rfl⟩
theorem ep_gen (s : Av) (g k x : Nat) : ((epS s g k).hd x).gen = if x < k ∧ (s.hd x).gen ≠ 4294967295 then (g : Int) else (s.hd x).gen := by unfold epS; dsimp only; split <;> rfl
theorem ep_zero (s : Av) (g : Nat) : epS s g 0 = s := by
  unfold epS
  have : (fun x => if x < 0 ∧ (s.hd x).gen ≠ 4294967295 then (⟨g, (s.hd x).typ, (s.hd x).row, (s.hd x).par, (s.hd x).prv, (s.hd x).nxt, (s.hd x).bas, (s.hd x).siz⟩ : Hd) else s.hd x) = s.hd := by
    funext x
    rw [if_neg (by omega)]
  rw [this]
theorem ep_skip (s : Av) (g k : Nat) (h : (s.hd k).gen = 4294967295) : epS s g (k + 1) = epS s g k := by
  unfold epS
  congr 1
  funext x
  by_cases e : x = k
  · subst e
    rw [if_neg (fun q => q.2 h), if_neg (fun q => q.2 h)]
  · by_cases e2 : x < k
    · have e3 : x < k + 1 := by omega
      simp only [e2, e3, true_and]
    · have e3 : ¬ x < k + 1 := by omega
      simp only [e2, e3, false_and]
theorem ep_step (s : Av) (g k : Nat) (h : (s.hd k).gen ≠ 4294967295) : epS s g (k + 1) = (epS s g k).setHd k ⟨g, (s.hd k).typ, (s.hd k).row, (s.hd k).par, (s.hd k).prv, (s.hd k).nxt, (s.hd k).bas, (s.hd k).siz⟩ := by
  unfold epS Av.setHd
  dsimp only
  congr 1
  funext x
  by_cases e : x = k
  · subst e
    rw [if_pos ⟨by omega, h⟩, if_pos rfl]
  · rw [if_neg e]
    by_cases e2 : x < k
    · have e3 : x < k + 1 := by omega
      simp only [e2, e3, true_and]
    · have e3 : ¬ x < k + 1 := by omega
      simp only [e2, e3, false_and]
theorem ep_at (s : Av) (g k : Nat) : (epS s g k).hd k = s.hd k := by
  unfold epS
  dsimp only
  rw [if_neg (by omega)]
/-- Refused, or done. -/
def MuPost (A : Nat) (rb sb : Nat → Nat) (s : Av) (w : World) (e : Ending) (w' : World) : Prop :=
  (∃ v code, e = .returned v ∧ Refu w v w' code) ∨ (e = .returned .nilIface ∧ Suc A rb sb s w w')
set_option maxHeartbeats 4000000 in
theorem SetEpoch_walk (h : Ms w A rb sb s tl ws) (hI : IV s tl L n) (hW : Wr ws) {g : Nat} (hg : g < 4294967296) :
    Calls Tryz.prog 55 #[.pointer (some ⟨A, 0, none⟩), .int .u32 (g : Int)] w (MuPost A rb sb s w) := by
  have bB := alloc_below (w := w) (.cells #[.int .u16 0, .int .u32 (g : Int)] 32)
  have HM := hideIt (h.below bB)
  have HB := hideIt bB
  have HI := hideIt hI
  have HW : Hid (Wr ws) := hW
  have l0 := h.am.lt
  have e0 := (h.below bB).am.nrc
  rw [hI.ro.rts.nrt] at e0
  clear h hI bB hW
  by_cases h1 : g < 1
  · have c1 : (g : Int) < 1 := by omega
    go_enter Tryz.func55, Tryz.ntmps55
    go_wp2_with (go_at_call 123; refine (refuse_walk _ _ _ _ _ _).mono ?_; rintro e w2 ⟨v, rfl, hv, hb⟩)
    exact bodyPost_ret (v := v) (by simp [results, Tryz.results55]) rfl (Or.inl ⟨v, _, rfl, hv, by omega, Below.thr HB.out hb⟩)
  · have c1 : ¬ (g : Int) < 1 := by omega
    by_cases h2 : g = 4294967295
    · subst h2
      go_enter Tryz.func55, Tryz.ntmps55
      go_wp2_with (go_at_call 123; refine (refuse_walk _ _ _ _ _ _).mono ?_; rintro e w2 ⟨v, rfl, hv, hb⟩)
      exact bodyPost_ret (v := v) (by simp [results, Tryz.results55]) rfl (Or.inl ⟨v, _, rfl, hv, by omega, Below.thr HB.out hb⟩)
    · have c2 : ¬ (g : Int) ≥ 4294967295 := by omega
      by_cases h3 : n = 0
      · subst h3
        go_enter Tryz.func55, Tryz.ntmps55
        go_wp2_with fail
        generalize w.alloc (.cells #[.int .u16 0, .int .u32 (g : Int)] 32) = w0 at *
        go_loopw [26] (fun v26 wr => ∃ k : Nat, k ≤ 320 ∧ v26 = .int .i64 (k : Int) ∧ wr = w0 ∧ ∀ j, j < k → (s.hd j).gen ≤ (g : Int) ∨ (s.hd j).gen = 4294967295) (fun v26 _ => 320 - (intOf v26).toNat)
        case atStart => exact ⟨0, by omega, rfl, rfl, fun j hj => absurd hj (Nat.not_lt_zero _)⟩
        case round =>
          obtain ⟨k, hk, rfl, rfl, hle⟩ := hrel
          have HL : Hid (∀ j, j < k → (s.hd j).gen ≤ (g : Int) ∨ (s.hd j).gen = 4294967295) := hle
          clear hle
          by_cases hlt : k < 320
          · have hlt' : (k : Int) < 320 := by omega
            have ek := HM.out.am.gen hlt
            by_cases hgt : (s.hd k).gen > (g : Int)
            · by_cases hm : (s.hd k).gen = 4294967295
              · have cm : ((s.hd k).gen != 4294967295) = false := by rw [hm]; rfl
                go_wp2_with fail
                exact ⟨⟨k + 1, by omega, by go_num, trivial, fun j hj => by
                  by_cases e : j = k
                  · rw [e]; exact Or.inr hm
                  · exact HL.out j (by omega)⟩, by simp [intOf]; omega⟩
              · have cm : ((s.hd k).gen != 4294967295) = true := by rw [bne_iff_ne]; exact hm
                have k1 : (k : Int) % 65536 = (k : Int) := by omega
                go_wp2_with (first | (go_at_call 124; refine (refOf_walk HM.out.am hlt).mono ?_; rintro e w1 ⟨rfl, hb1⟩) | (go_at_call 123; refine (refuse_walk _ _ _ _ _ _).mono ?_; rintro e w2 ⟨v, rfl, hv, hb⟩))
                exact bodyPost_ret (v := v) (by simp [results, Tryz.results55]) rfl (Or.inl ⟨v, _, rfl, hv, by omega, Below.thr (Below.thr HB.out hb1) hb⟩)
            · have hgt' : ¬ (s.hd k).gen > (g : Int) := hgt
              go_wp2_with fail
              exact ⟨⟨k + 1, by omega, by go_num, trivial, fun j hj => by
                by_cases e : j = k
                · rw [e]; exact Or.inl (by omega)
                · exact HL.out j (by omega)⟩, by simp [intOf]; omega⟩
          · obtain rfl : k = 320 := by omega
            go_wp2_with fail
            generalize wr = w00 at *
            go_loopw [49] (fun v49 wz => ∃ k : Nat, k ≤ 320 ∧ v49 = .int .i64 (k : Int) ∧ Ms wz A rb sb (epS s g k) tl ws ∧ Ext w00.heap.size (Tz A rb sb) w00 wz) (fun v49 _ => 320 - (intOf v49).toNat)
            case atStart => exact ⟨0, by omega, rfl, by rw [ep_zero]; exact HM.out, Ext.refl _ _ _⟩
            case round =>
              obtain ⟨k, hk, rfl, hM, hE⟩ := hrel
              have HMk := hideIt hM
              have HEk := hideIt hE
              clear hM hE
              by_cases hlt : k < 320
              · have hlt' : (k : Int) < 320 := by omega
                have ek := HMk.out.am.gen hlt
                have fk := HMk.out.am.free (k * 8)
                rw [ep_at] at ek
                by_cases hm : (s.hd k).gen = 4294967295
                · have cm : ((s.hd k).gen != 4294967295) = false := by rw [hm]; rfl
                  have HF : Hid (Ms wr A rb sb (epS s g (k + 1)) tl ws) := by
                    show Ms _ _ _ _ _ _ _
                    rw [ep_skip s g k hm]; exact HMk.out
                  clear hm
                  go_wp2_with fail
                  exact ⟨⟨k + 1, by omega, by go_num, HF.out, HEk.out⟩, by simp [intOf]; omega⟩
                · have cm : ((s.hd k).gen != 4294967295) = true := by rw [bne_iff_ne]; exact hm
                  have HF : Hid (Ms (wr.setCell ⟨A, k * 8, none⟩ (.int .u32 (g : Int))) A rb sb (epS s g (k + 1)) tl ws) := by
                    show Ms _ _ _ _ _ _ _
                    rw [ep_step s g k hm]
                    refine HMk.out.setS (HMk.out.am.setHd (f := 0) hlt (by omega) rfl (fun f hf h0 => ?_)) rfl rfl
                    rw [ep_at]
                    match f, hf, h0 with
                    | 0, _, h => exact absurd rfl h
                    | 1, _, _ => rfl
                    | 2, _, _ => rfl
                    | 3, _, _ => rfl
                    | 4, _, _ => rfl
                    | 5, _, _ => rfl
                    | 6, _, _ => rfl
                    | 7, _, _ => rfl
                    | f + 8, h, _ => exact absurd h (by omega)
                  have HE2 := hideIt (HEk.out.setA (k * 8) (.int .u32 (g : Int)))
                  clear hm
                  go_wp2_with fail
                  exact ⟨⟨k + 1, by omega, by go_num, HF.out, HE2.out⟩, by simp [intOf]; omega⟩
              · obtain rfl : k = 320 := by omega
                have HF : Hid (MuPost A rb sb s w (.returned .nilIface) wr) := by
                  refine Or.inr ⟨rfl, _, tl, ws, L, 0, HMk.out, (Ext.of_below HB.out _).trans HEk.out HB.out.size (fun _ _ q => q), HI.out.sam (ep_sam s g 320) (fun i hi => ?_), HW.out, fun x hx => ?_⟩
                  · rw [ep_gen]
                    obtain ⟨g0, a1, a2, a3, a4⟩ := HI.out.ge.gen i hi
                    by_cases q : i < 320 ∧ (s.hd i).gen ≠ 4294967295
                    · rw [if_pos q]; exact ⟨g, rfl, by omega, by omega, fun _ => by omega⟩
                    · rw [if_neg q]; exact ⟨g0, a1, a2, a3, a4⟩
                  · rw [ep_gen]
                    by_cases q : x < 320 ∧ (s.hd x).gen ≠ 4294967295
                    · rw [if_pos q]
                      have h1 := (HL.out x hx).resolve_right q.2
                      by_cases e : (s.hd x).gen = (g : Int)
                      · exact Or.inr ⟨e.symm, fun k => by rw [((ep_sam s g 320).hd x).1]; exact k⟩
                      · exact Or.inl (by omega)
                    · rw [if_neg q]
                      exact Or.inr ⟨rfl, fun k => by rw [((ep_sam s g 320).hd x).1]; exact k⟩
                go_wp2_with fail
                exact bodyPost_ret (by simp [results, Tryz.results55]) rfl HF.out
      · have c3 : (n : Int) > 0 := by omega
        go_enter Tryz.func55, Tryz.ntmps55
        go_wp2_with (go_at_call 123; refine (refuse_walk _ _ _ _ _ _).mono ?_; rintro e w2 ⟨v, rfl, hv, hb⟩)
        exact bodyPost_ret (v := v) (by simp [results, Tryz.results55]) rfl (Or.inl ⟨v, _, rfl, hv, by omega, Below.thr HB.out hb⟩)
end
end Go.Proofs.Qxb6500847aGreatDoor.Os
