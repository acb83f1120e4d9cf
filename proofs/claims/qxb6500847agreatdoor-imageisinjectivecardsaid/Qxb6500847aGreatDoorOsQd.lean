/-
  Within.
-/
import Derived.Test.Qxb6500847aGreatDoorOsQc
namespace Go.Proofs.Qxb6500847aGreatDoor.Os
open Go.RowKit FloorA
set_option maxRecDepth 100000
theorem below_dN (w : World) (q : Nat) : Below w.heap.size w (w.drewN q) := ⟨rfl, rfl, rfl, Nat.le_refl _, fun _ _ => rfl⟩
theorem heap_new1 (w : World) (o : Obj) (b : Array Value) (t : TypeId) : ((w.alloc o).alloc (.cells b t)).heap[w.heap.size + 1]? = some (.cells b t (0, 0)) := by
  have := heap_new (w.alloc o) (.cells b t)
  rw [show (w.alloc o).heap.size = w.heap.size + 1 by simp] at this
  exact this
section
variable {A : Nat} {rb sb : Nat → Nat} {s : Av} {tl : Nat → List Int} {ws : Nat → Nat → Nat → Int} {w : World} {L : Nat → List Nat} {n : Nat}
def WiPost (s : Av) (i : Nat) (g : Int) (w : World) (e : Ending) (w' : World) : Prop :=
  (∃ v code, e = .returned (.tuple #[.bool false, v]) ∧ Refu w v w' code ∧ (¬ Live s i g → code = stale i g)) ∨ (Live s i g ∧ (∃ b, e = .returned (.tuple #[.bool b, .nilIface])) ∧ Below w.heap.size w w')
set_option maxHeartbeats 4000000 in
theorem Within_walk (h : Ms w A rb sb s tl ws) (hI : IV s tl L n) (i j : Nat) (g k : Int) :
    Calls Tryz.prog 68 #[.pointer (some ⟨A, 0, none⟩), .agg #[.int .u16 (i : Int), .int .u32 g], .agg #[.int .u16 (j : Int), .int .u32 k]] w (WiPost s i g w) := by
  have bB := Below.thr (alloc_below (w := w) (.cells #[.int .u16 (i : Int), .int .u32 g] 32)) (alloc_below (.cells #[.int .u16 (j : Int), .int .u32 k] 32))
  have HZ := hideIt (heap_new1 w (.cells #[.int .u16 (i : Int), .int .u32 g] 32) #[.int .u16 (j : Int), .int .u32 k] 32)
  have HM := hideIt (h.below bB)
  have HB := hideIt bB
  have HI := hideIt hI
  clear h hI bB
  go_enter Tryz.func68, Tryz.ntmps68
  go_wp2_with fail
  generalize (w.alloc (.cells #[.int .u16 (i : Int), .int .u32 g] 32)).alloc (.cells #[.int .u16 (j : Int), .int .u32 k] 32) = w0 at *
  go_at_call 98
  refine (resolve_walk HM.out.am i g _).mono ?_
  rintro e w1 ⟨hb1, hh⟩
  have HB1 := hideIt (Below.thr HB.out hb1)
  have HM1 := hideIt (HM.out.below hb1)
  have hz1 := (hb1.block (w.heap.size + 1) (heap_lt HZ.out)).trans HZ.out
  have HZ1 := hideIt hz1
  obtain ⟨x0, x1, _, _⟩ := two_cells hz1
  clear hb1 hz1
  rcases hh with ⟨hl, rfl⟩ | ⟨hl, v0, rfl, hv0⟩
  · have HL := hideIt hl
    have hi : i < 320 := hl.1
    clear hl
    go_wp2_with fail
    go_at_call 44
    refine (resolveRegion_walk HM1.out.am j k _).mono ?_
    rintro e w2 ⟨hb2, hh⟩
    have HB2 := hideIt (Below.thr HB1.out hb2)
    have HM2 := hideIt (HM1.out.below hb2)
    have hz2 := (hb2.block (w.heap.size + 1) (heap_lt HZ1.out)).trans HZ1.out
    have HZ2 := hideIt hz2
    clear hb2 hz2 x0 x1
    rcases hh with ⟨hlj, htj, rfl⟩ | ⟨hlj, v0, rfl, code, hc, hv0, _⟩
    · have hj : j < 320 := hlj.1
      have e6 := HM2.out.am.bas hi
      have f6 := HM2.out.am.bas hj
      have HE := hideIt (fun x (hx : x < 320) q => end_walk (w := w2.drewN q) (A := A) (s := s) (i := x) ⟨HM2.out.am.cell, HM2.out.am.free⟩ hx)
      obtain ⟨r, hr⟩ := HI.out.rk
      have HR : Hid (Rk s r) := hr
      have HP0 := hideIt (HI.out.par hi HL.out.2.2.1)
      clear hlj htj hr
      by_cases hba : (s.hd i).bas < (s.hd j).bas
      · have gd : decide ((s.hd i).bas < (s.hd j).bas) = true := decide_eq_true hba
        go_wp2_with fail
        go_region
        all_goals
          go_wp2_with fail
          exact bodyPost_ret (v := .tuple #[.bool false, .nilIface]) (by simp [results, Tryz.results68]) rfl (Or.inr ⟨HL.out, ⟨_, rfl⟩, Below.thr HB2.out (below_d _)⟩)
      · have gd : decide ((s.hd i).bas < (s.hd j).bas) = false := decide_eq_false hba
        by_cases hen : IntKind.u64.wrap ((s.hd i).bas + (s.hd i).siz) > IntKind.u64.wrap ((s.hd j).bas + (s.hd j).siz)
        · go_wp2_with fail
          go_quiet ((go_at_call 47; exact Calls.quiet_of ((HE.out _ (by first | exact hi | exact hj) _).mono (fun e w' q => ⟨q.1, 1, q.2⟩))))
          go_wp2_with fail
          exact bodyPost_ret (v := .tuple #[.bool false, .nilIface]) (by simp [results, Tryz.results68]) rfl (Or.inr ⟨HL.out, ⟨_, rfl⟩, Below.thr HB2.out (below_dN _ _)⟩)
        · have hen' : ¬ IntKind.u64.wrap ((s.hd i).bas + (s.hd i).siz) > IntKind.u64.wrap ((s.hd j).bas + (s.hd j).siz) := hen
          go_wp2_with fail
          go_quiet ((go_at_call 47; exact Calls.quiet_of ((HE.out _ (by first | exact hi | exact hj) _).mono (fun e w' q => ⟨q.1, 1, q.2⟩))))
          have HM3 := hideIt (HM2.out.below (below_dN w2 nq))
          have HB3 := hideIt (Below.thr HB2.out (below_dN w2 nq))
          have HZ3 := hideIt (((below_dN w2 nq).block (w.heap.size + 1) (heap_lt HZ2.out)).trans HZ2.out)
          clear e6 f6
          generalize w2.drewN nq = w3 at *
          have ep := HM3.out.am.par hi
          go_wp2_with fail
          go_loopw [11] (fun v11 wr => wr = w3 ∧ (v11 = .int .u16 65535 ∨ ∃ p, IsReg s p ∧ v11 = .int .u16 (p : Int))) (fun v11 _ => upM r v11)
          case atStart =>
            refine ⟨rfl, ?_⟩
            rcases HP0.out with e | ⟨p, hp, e⟩
            · exact Or.inl (by rw [e])
            · exact Or.inr ⟨p, hp, by rw [e]⟩
          case round =>
            clear ep HP0
            obtain ⟨rfl, hv⟩ := hrel
            rcases hv with rfl | ⟨p, hp, rfl⟩
            · go_wp2_with fail
              exact bodyPost_ret (v := .tuple #[.bool false, .nilIface]) (by simp [results, Tryz.results68]) rfl (Or.inr ⟨HL.out, ⟨_, rfl⟩, HB3.out⟩)
            · have pc : (p : Int) < 320 := by have := hp.2.1; omega
              have kn : ((p : Int) != 65535) = true := by rw [bne_iff_ne]; omega
              have epp := HM3.out.am.par hp.2.1
              have HPp := hideIt (HI.out.par hp.2.1 (by rw [hp.2.2]; decide))
              have HRR : Hid (∀ q : Nat, q < 320 → (s.hd p).par = (q : Int) → r q < r p) := fun q hq e => HR.out p q hp.2.1 (by rw [hp.2.2]; decide) e hq
              obtain ⟨x0, x1, _, _⟩ := two_cells HZ3.out
              clear hp
              by_cases epj : p = j
              · have kj : ((p : Int) == (j : Int)) = true := by rw [epj]; exact beq_self_eq_true _
                go_wp2_with fail
                exact bodyPost_ret (v := .tuple #[.bool true, .nilIface]) (by simp [results, Tryz.results68]) rfl (Or.inr ⟨HL.out, ⟨_, rfl⟩, HB3.out⟩)
              · have kj : ((p : Int) == (j : Int)) = false := by rw [beq_eq_false_iff_ne]; omega
                go_wp2_with fail
                have e0 : upM r (.int .u16 (p : Int)) = r p + 1 := by
                  unfold upM
                  rw [if_neg (by show (p : Int) ≠ 65535; omega)]
                  rfl
                have key : (s.hd p).par = 65535 ∨ ∃ q, IsReg s q ∧ (s.hd p).par = (q : Int) := HPp.out
                have hle : upM r (.int .u16 (s.hd p).par) ≤ r p := by
                  rcases key with e | ⟨q, hq, e⟩
                  · rw [e]; exact Nat.zero_le _
                  · have := HRR.out q hq.2.1 e
                    rw [e]
                    unfold upM
                    split
                    · exact Nat.zero_le _
                    · exact this
                refine ⟨⟨trivial, ?_⟩, by rw [e0]; omega⟩
                rcases key with e | ⟨q, hq, e⟩
                · exact Or.inl (by rw [e])
                · exact Or.inr ⟨q, hq, by rw [e]⟩
    · have HF : Hid (WiPost s i g w (.returned (.tuple #[.bool false, v0])) w2) := Or.inl ⟨_, _, rfl, ⟨hv0, hc, HB2.out⟩, fun q => absurd HL.out q⟩
      obtain ⟨b, rfl, hbc⟩ := hv0
      clear hbc hlj
      go_wp2_with fail
      exact bodyPost_ret (by simp [results, Tryz.results68]) rfl HF.out
  · obtain ⟨b, rfl, hbc⟩ := hv0
    have HF : Hid (WiPost s i g w (.returned (.tuple #[.bool false, .iface 212 (.pointer (some ⟨b, 0, none⟩))])) w1) := Or.inl ⟨_, _, rfl, ⟨⟨b, rfl, hbc⟩, stale_ne i g, HB1.out⟩, fun _ => rfl⟩
    clear hbc hl
    go_wp2_with fail
    exact bodyPost_ret (by simp [results, Tryz.results68]) rfl HF.out
end
end Go.Proofs.Qxb6500847aGreatDoor.Os
