/-
  Reclaim.
-/
import Derived.Test.Qxb6500847aGreatDoorOsUa
import Derived.Deep.LoopGhost
namespace Go.Proofs.Qxb6500847aGreatDoor.Os
open Go.RowKit FloorA
set_option maxRecDepth 100000
section
variable {A : Nat} {rb sb : Nat → Nat} {s : Av} {tl : Nat → List Int} {ws : Nat → Nat → Nat → Int} {w : World} {L : Nat → List Nat} {n p c i : Nat}
/-- Between two rounds. -/
structure Rc (A : Nat) (rb sb : Nat → Nat) (s : Av) (ws : Nat → Nat → Nat → Int) (g : Nat) (r : Nat → Nat) (B : Nat) (w : World) (s1 : Av) (tl1 : Nat → List Int) (L1 : Nat → List Nat) (n1 c : Nat) (wr : World) : Prop where
  ms : Ms wr A rb sb s1 tl1 ws
  ext : Ext w.heap.size (Tz A rb sb) w wr
  size : w.heap.size ≤ wr.heap.size
  iv : IV s1 tl1 L1 n1
  adv : Adv s s1
  rk : Rk s1 r
  reg : IsReg s1 c
  pth : ∃ q, Pth s1 L1 g c q
def RcPost (A : Nat) (rb sb : Nat → Nat) (s : Av) (ws : Nat → Nat → Nat → Int) (i : Nat) (g : Int) (w : World) (e : Ending) (w' : World) : Prop :=
  (∃ v code, e = .returned (.tuple #[.int .i64 0, v]) ∧ Refu w v w' code ∧ (¬ Live s i g → code = stale i g)) ∨
  (Live s i g ∧ ∃ x, e = .returned (.tuple #[.int .i64 x, .nilIface]) ∧ ∃ s' tl' L' n', Ms w' A rb sb s' tl' ws ∧ Ext w.heap.size (Tz A rb sb) w w' ∧ IV s' tl' L' n' ∧ Adv s s')
theorem Rc.step {g B : Nat} {r : Nat → Nat} {w1 wr w2 : World} {s1 s2 : Av} {tl1 tl2 : Nat → List Int} {L1 : Nat → List Nat} {n1 n2 c t : Nat} {l : List Nat} (h : Rc A rb sb s ws g r B w1 s1 tl1 L1 n1 c wr) (hl : L1 c = l ++ [t])
    (h1 : Ms w2 A rb sb s2 tl2 ws) (h2 : Ext wr.heap.size (Tz A rb sb) wr w2) (h3 : IV s2 tl2 (fun q => (L1 q).erase t) n2) (h4 : Rel s1 s2 t) : Rc A rb sb s ws g r B w1 s2 tl2 (fun q => (L1 q).erase t) n2 c w2 := by
  have hm : t ∈ L1 c := by rw [hl]; simp
  obtain ⟨m1, m2, m3⟩ := h.iv.tr.mem h.reg hm
  have rc := h.rk t c m1 m2 m3 h.reg.2.1
  have ct : c ≠ t := fun e => by rw [e] at rc; omega
  obtain ⟨q, hq⟩ := h.pth
  have hk := Pth.rk h.rk h.reg hq
  refine ⟨h1, h.ext.trans h2 h.size (fun _ _ q => q), Nat.le_trans h.size h2.size, h3, h.adv.trans h4.adv, h.rk.rel h4, h.reg.rel h4 ct, q, hq.rel (n := c) h4 (fun p hp hm' => ?_) ct (fun x hx => ?_)⟩
  · by_cases e : p = c
    · exact e
    · exact absurd rfl (h.iv.tr.par_ne h.reg hp e hm' hm)
  · have := hk x hx
    exact ⟨fun e => by rw [e] at this; omega, fun e => by rw [e] at this; omega⟩
set_option maxHeartbeats 24000000 in
theorem Reclaim_walk (h : Ms w A rb sb s tl ws) (hI : IV s tl L n) (i : Nat) (g : Int) :
    Calls Tryz.prog 54 #[.pointer (some ⟨A, 0, none⟩), .agg #[.int .u16 (i : Int), .int .u32 g]] w (RcPost A rb sb s ws i g w) := by
  have bB := alloc_below (w := w) (.cells #[.int .u16 (i : Int), .int .u32 g] 32)
  have hz : (w.alloc (.cells #[.int .u16 (i : Int), .int .u32 g] 32)).heap[w.heap.size]? = some (.cells #[.int .u16 (i : Int), .int .u32 g] 32 (0, 0)) := heap_new _ _
  have HN := hideIt h.ntz
  have HM := hideIt (h.below bB)
  have HB := hideIt bB
  have HI := hideIt hI
  clear h hI bB
  go_enter Tryz.func54, Tryz.ntmps54
  go_wp2_with fail
  go_at_call 44
  refine (resolveRegion_walk HM.out.am i g _).mono ?_
  rintro e w1 ⟨hb1, hh⟩
  have HB1 := hideIt (Below.thr HB.out hb1)
  have HM1 := hideIt (HM.out.below hb1)
  have l0 : w.heap.size < w1.heap.size := Nat.lt_of_lt_of_le (heap_lt hz) hb1.size
  have hx := (hb1.block w.heap.size (heap_lt hz)).trans hz
  have x0 := box_cell hx 0
  simp only [List.getElem?_toArray, List.getElem?_cons_zero] at x0
  clear hb1 hz hx
  rcases hh with ⟨hl, h1, rfl⟩ | ⟨hl, v, rfl, code, hc, hv, hs⟩
  · have HL := hideIt hl
    obtain ⟨r, hr⟩ := HI.out.rk
    obtain ⟨B, hB⟩ := bound_of r 320
    have i1 : 256 ≤ i := by
      obtain ⟨k, ek, k7, kk⟩ := HI.out.ge.typ i hl.1
      have : k = 1 := by omega
      exact (kk (by omega)).1 this
    have HR : Hid (Rc A rb sb s ws i r B w1 s tl L n i w1) := ⟨HM1.out, Ext.refl _ _ _, Nat.le_refl _, HI.out, Adv.refl _, hr, ⟨i1, hl.1, h1⟩, [], rfl⟩
    have HMr : Hid (Mr s L r B i (nLv s * (B + 2) + 1 + B)) := Mr.any (by omega)
    have HBd : Hid (∀ x, x < 320 → r x ≤ B) := hB
    clear hl h1 hr hB i1
    go_wp2_with fail
    go_loopg [8, 9] (nLv s * (B + 2) + 1 + B) (fun gk v8 v9 wr => ∃ (x : Int) (c : Nat) (s1 : Av) (tl1 : Nat → List Int) (L1 : Nat → List Nat) (n1 : Nat), v8 = .int .i64 x ∧ v9 = .int .u16 (c : Int) ∧ Rc A rb sb s ws i r B w1 s1 tl1 L1 n1 c wr ∧ Mr s1 L1 r B c gk ∧ wr.cell? ⟨w.heap.size, 0, none⟩ = some (.int .u16 (i : Int)))
    case atStart => exact ⟨0, i, s, tl, L, n, rfl, rfl, HR.out, HMr.out, x0⟩
    case round =>
      clear HR HMr x0
      obtain ⟨x, c, s1, tl1, L1, n1, rfl, rfl, hR, hMr, x0⟩ := hrel
      have HR := hideIt hR
      have HMr := hideIt hMr
      have lw : w.heap.size < wr.heap.size := Nat.lt_of_lt_of_le l0 hR.size
      have c1 := hR.reg.1
      have c2 := hR.reg.2.1
      have c2' : (c : Int) < 320 := by omega
      have e1 := hR.ms.am.rgc (i := c - 256) (f := 1) (by omega) (by omega)
      simp only [rgC] at e1
      rw [hR.iv.tr.lst c hR.reg] at e1
      rcases snoc_cases (L1 c) with hE | ⟨l, t, hE⟩
      · rw [hE] at e1
        simp only [lOr] at e1
        by_cases hci : c = i
        · subst hci
          have HF : Hid (RcPost A rb sb s ws c g w (.returned (.tuple #[.int .i64 x, .nilIface])) wr) := Or.inr ⟨HL.out, x, rfl, s1, tl1, L1, n1, HR.out.ms, (Ext.of_below HB1.out _).trans HR.out.ext (Nat.le_of_lt l0) (fun _ _ q => q), HR.out.iv, HR.out.adv⟩
          clear hR hMr hE
          go_wp2_with (go_at_call 45; refine (body_walk A c1 c2 _).mono ?_; rintro e w' ⟨rfl, hw'⟩; obtain rfl := hw'.symm)
          exact bodyPost_ret (v := .tuple #[.int .i64 x, .nilIface]) (by simp [results, Tryz.results54]) rfl HF.out
        · obtain ⟨q, hq⟩ := hR.pth
          cases q with
          | nil => exact absurd hq hci
          | cons p q =>
            obtain ⟨_, q1, q2, q3, q4⟩ := hq
            have e2 := hR.ms.am.par hR.reg.2.1
            rw [q2] at e2
            obtain ⟨m1, m2⟩ := hMr.up hE q3
            have kn : ((c : Int) == (i : Int)) = false := by rw [beq_eq_false_iff_ne]; omega
            have HF : Hid (∃ (x' : Int) (c' : Nat) (s1' : Av) (tl1' : Nat → List Int) (L1' : Nat → List Nat) (n1' : Nat), (.int .i64 x : Value) = .int .i64 x' ∧ (.int .u16 (p : Int) : Value) = .int .u16 (c' : Int) ∧ Rc A rb sb s ws i r B w1 s1' tl1' L1' n1' c' wr ∧ Mr s1' L1' r B c' (gk - 1) ∧ wr.cell? ⟨w.heap.size, 0, none⟩ = some (.int .u16 (i : Int))) := ⟨x, p, s1, tl1, L1, n1, rfl, rfl, ⟨HR.out.ms, HR.out.ext, HR.out.size, HR.out.iv, HR.out.adv, HR.out.rk, q1, q, q4⟩, m2, x0⟩
            clear hR hMr hE q1 q2 q3 q4 m2 hci
            go_wp2_with (go_at_call 45; refine (body_walk A c1 c2 _).mono ?_; rintro e w' ⟨rfl, hw'⟩; obtain rfl := hw'.symm)
            go_roundg (gk - 1)
            case measure => omega
            case rel => exact HF.out
      · rw [hE, lOr_snoc] at e1
        have hm : t ∈ L1 c := by rw [hE]; simp
        obtain ⟨t1, t2, t3⟩ := hR.iv.tr.mem hR.reg hm
        have t1' : (t : Int) < 320 := by omega
        have kn : ((t : Int) == 65535) = false := by rw [beq_eq_false_iff_ne]; omega
        have e2 := hR.ms.am.typ t1
        have rt := hR.rk t c t1 t2 t3 hR.reg.2.1
        have HT : Hid (((s1.hd t).typ = 1 ∧ 256 ≤ t) ∨ ((s1.hd t).typ ≠ 1 ∧ t < 256)) := by
          obtain ⟨k, ek, k7, kk⟩ := hR.iv.ge.typ t t1
          have k0 : k ≠ 0 := fun e => t2 (by rw [ek, e]; rfl)
          have := kk k0
          by_cases h1 : k = 1
          · exact Or.inl ⟨by rw [ek, h1]; rfl, this.1 h1⟩
          · exact Or.inr ⟨by rw [ek]; omega, by omega⟩
        have HRel : Hid (¬ (IsReg s1 t ∧ L1 t ≠ []) → Calls Tryz.prog 136 #[.pointer (some ⟨A, 0, none⟩), .int .u16 (t : Int)] wr (fun e w' => e = .returned (.tuple #[]) ∧ w.heap.size < w'.heap.size ∧ ∀ x : Int, ∃ (x' : Int) (c' : Nat) (s1' : Av) (tl1' : Nat → List Int) (L1' : Nat → List Nat) (n1' : Nat), (.int .i64 x : Value) = .int .i64 x' ∧ (.int .u16 (c : Int) : Value) = .int .u16 (c' : Int) ∧ Rc A rb sb s ws i r B w1 s1' tl1' L1' n1' c' w' ∧ Mr s1' L1' r B c' (gk - 1) ∧ w'.cell? ⟨w.heap.size, 0, none⟩ = some (.int .u16 (i : Int)))) := fun hn => by
          refine (release_walk HR.out.ms HR.out.iv t1 t2 (fun q => ?_)).mono ?_
          · by_cases e : L1 t = []
            · exact e
            · exact absurd ⟨q, e⟩ hn
          · rintro e w2 ⟨rfl, s2, tl2, n2, a1, a2, a3, a4⟩
            exact ⟨rfl, Nat.lt_of_lt_of_le lw a2.size, fun x => ⟨x, c, s2, tl2, _, n2, rfl, rfl, HR.out.step hE a1 a2 a3 a4, (HMr.out.rel hE (nLv_rel a4 t1 t2)).2, (a2.cell (p := ⟨w.heap.size, 0, none⟩) lw HN.out).trans x0⟩⟩
        have HG : Hid (¬ (IsReg s1 t ∧ L1 t ≠ []) → 0 < gk) := fun hn => by
          rcases hMr with q | ⟨_, _, _, _, q⟩ | ⟨_, _, _, _, _, q⟩
          · rw [hE] at q; simp at q
          · have : 0 < nLv s1 := by
              unfold nLv
              rw [List.countP_pos_iff]
              exact ⟨t, by simpa using t1, by simpa using t2⟩
            have : 1 * 1 ≤ nLv s1 * (B + 2) := Nat.mul_le_mul this (by omega)
            omega
          · omega
        rcases HT.out with ⟨h1, i1⟩ | ⟨h1, i1⟩
        · rw [h1] at e2
          have hreg : IsReg s1 t := ⟨i1, t1, h1⟩
          have e3 := hR.ms.am.rgc (i := t - 256) (f := 2) (by omega) (by omega)
          simp only [rgC] at e3
          rw [hR.iv.tr.kds t hreg] at e3
          by_cases hE2 : L1 t = []
          · have HC := hideIt (HRel.out (fun q => q.2 hE2))
            have hg := HG.out (fun q => q.2 hE2)
            rw [hE2] at e3
            simp only [List.length_nil] at e3
            clear hR hMr hE hm HT HRel HG hreg hE2 h1 t2 t3 rt
            go_wp2_with (go_at_call 45; first | (refine (body_walk A c1 c2 _).mono ?_; rintro e w' ⟨rfl, hw'⟩; obtain rfl := hw'.symm) | (refine (body_walk A i1 t1 _).mono ?_; rintro e w' ⟨rfl, hw'⟩; obtain rfl := hw'.symm))
            go_at_call 136
            refine HC.out.mono ?_
            rintro e w2 ⟨rfl, lw2, hf⟩
            have HF := hideIt hf
            clear hf e1 e2 e3 x0
            go_wp2_with fail
            go_roundg (gk - 1)
            case measure => omega
            case rel => exact HF.out _
          · have c3 : ((L1 t).length : Int) > 0 := by
              have := List.length_pos_iff.2 hE2
              omega
            obtain ⟨m1, m2⟩ := hMr.down hE hreg hE2 rt (HBd.out t t1)
            obtain ⟨q, hq⟩ := hR.pth
            have hti : t ≠ i := fun e => by
              cases q with
              | nil =>
                have : c = i := hq
                rw [e, this] at rt
                omega
              | cons p q =>
                have h5 := Pth.rk hR.rk hR.reg hq
                have h6 : ∀ (q : List Nat) (c : Nat), Pth s1 L1 i c q → c ≠ i → i ∈ q := by
                  intro q
                  induction q with
                  | nil => intro c h1 h2; exact absurd h1 h2
                  | cons a q ih =>
                    intro c h1 h2
                    by_cases e : a = i
                    · rw [e]; simp
                    · exact List.mem_cons_of_mem _ (ih a h1.2.2.2.2 e)
                have := h5 i (h6 _ _ hq hq.1)
                rw [← e] at this
                omega
            have HF : Hid (∃ (x' : Int) (c' : Nat) (s1' : Av) (tl1' : Nat → List Int) (L1' : Nat → List Nat) (n1' : Nat), (.int .i64 x : Value) = .int .i64 x' ∧ (.int .u16 (t : Int) : Value) = .int .u16 (c' : Int) ∧ Rc A rb sb s ws i r B w1 s1' tl1' L1' n1' c' wr ∧ Mr s1' L1' r B c' (gk - 1) ∧ wr.cell? ⟨w.heap.size, 0, none⟩ = some (.int .u16 (i : Int))) := ⟨x, t, s1, tl1, L1, n1, rfl, rfl, ⟨HR.out.ms, HR.out.ext, HR.out.size, HR.out.iv, HR.out.adv, HR.out.rk, hreg, c :: q, ⟨hti, HR.out.reg, t3, ⟨l, hE⟩, hq⟩⟩, m2, x0⟩
            clear hR hMr hE hm HT HRel HG hreg hE2 h1 t2 t3 rt m2 hti hq
            generalize (L1 t).length = ln at *
            go_wp2_with (go_at_call 45; first | (refine (body_walk A c1 c2 _).mono ?_; rintro e w' ⟨rfl, hw'⟩; obtain rfl := hw'.symm) | (refine (body_walk A i1 t1 _).mono ?_; rintro e w' ⟨rfl, hw'⟩; obtain rfl := hw'.symm))
            go_roundg (gk - 1)
            case measure => omega
            case rel => exact HF.out
        · have c3 : ((s1.hd t).typ == 1) = false := by rw [beq_eq_false_iff_ne]; exact h1
          have HC := hideIt (HRel.out (fun q => h1 q.1.2.2))
          have hg := HG.out (fun q => h1 q.1.2.2)
          clear hR hMr hE hm HT HRel HG h1 t2 t3 rt
          go_wp2_with (go_at_call 45; refine (body_walk A c1 c2 _).mono ?_; rintro e w' ⟨rfl, hw'⟩; obtain rfl := hw'.symm)
          go_at_call 136
          refine HC.out.mono ?_
          rintro e w2 ⟨rfl, lw2, hf⟩
          have HF := hideIt hf
          clear hf e1 e2 x0
          go_wp2_with fail
          go_roundg (gk - 1)
          case measure => omega
          case rel => exact HF.out _
  · obtain ⟨b, rfl, hbc⟩ := hv
    have HF : Hid (RcPost A rb sb s ws i g w (.returned (.tuple #[.int .i64 0, .iface 212 (.pointer (some ⟨b, 0, none⟩))])) w1) := Or.inl ⟨_, code, rfl, ⟨⟨b, rfl, hbc⟩, hc, HB1.out⟩, hs⟩
    clear hbc hl hs hc
    go_wp2_with fail
    exact bodyPost_ret (v := .tuple #[.int .i64 0, .iface 212 (.pointer (some ⟨b, 0, none⟩))]) (by simp [results, Tryz.results54]) rfl HF.out
end
end Go.Proofs.Qxb6500847aGreatDoor.Os
