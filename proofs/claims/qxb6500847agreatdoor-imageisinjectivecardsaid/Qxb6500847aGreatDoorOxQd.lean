/-
  Within, exactly.
-/
import Derived.Test.Qxb6500847aGreatDoorOxQa
import Derived.Test.Qxb6500847aGreatDoorOxC
import Derived.Test.Qxb6500847aGreatDoorOsQd
namespace Go.Proofs.Qxb6500847aGreatDoor.Os
open Go.RowKit FloorA
set_option maxRecDepth 100000
section
variable {A : Nat} {rb sb : Nat → Nat} {s : Av} {tl : Nat → List Int} {ws : Nat → Nat → Nat → Int} {w : World} {L : Nat → List Nat} {n : Nat}
def WiXP (X : Rs) (w : World) (e : Ending) (w' : World) : Prop :=
  (∃ v c, X = bad c ∧ e = .returned (.tuple #[.bool false, v]) ∧ Refu w v w' c) ∨ ((∃ b : Bool, X = ⟨0, [], [if b = true then 1 else 0]⟩ ∧ e = .returned (.tuple #[.bool b, .nilIface])) ∧ Below w.heap.size w w')
set_option maxHeartbeats 4000000 in
theorem Within_x (h : Ms w A rb sb s tl ws) (hI : IV s tl L n) (hX : IX s tl L n) (i j : Nat) (g k : Int) :
    Calls Tryz.prog 68 #[.pointer (some ⟨A, 0, none⟩), .agg #[.int .u16 (i : Int), .int .u32 g], .agg #[.int .u16 (j : Int), .int .u32 k]] w (WiXP (witX (ob s ws) i g j k) w) := by
  have bB := Below.thr (alloc_below (w := w) (.cells #[.int .u16 (i : Int), .int .u32 g] 32)) (alloc_below (.cells #[.int .u16 (j : Int), .int .u32 k] 32))
  have HZ := hideIt (heap_new1 w (.cells #[.int .u16 (i : Int), .int .u32 g] 32) #[.int .u16 (j : Int), .int .u32 k] 32)
  have HM := hideIt (h.below bB)
  have HB := hideIt bB
  have HI := hideIt hI
  have HXx := hideIt hX
  clear h hI bB hX
  go_enter Tryz.func68, Tryz.ntmps68
  go_wp2_with fail
  generalize (w.alloc (.cells #[.int .u16 (i : Int), .int .u32 g] 32)).alloc (.cells #[.int .u16 (j : Int), .int .u32 k] 32) = w0 at *
  go_at_call 98
  refine (resolve_walk HM.out.am i g _).mono ?_
  rintro e w1 ⟨hb1, hh⟩
  have HB1 := hideIt (Below.thr HB.out hb1)
  have HM1 := hideIt (HM.out.below hb1)
  have hz1 := (hb1.block (w.heap.size + 1) (heap_lt HZ.out)).trans HZ.out
  have HZ1 := hideIt hz1
  obtain ⟨x0, x1, _, _⟩ := two_cells hz1
  clear hb1 hz1
  rcases hh with ⟨hl, rfl⟩ | ⟨hl, v0, rfl, hv0⟩
  · have HL := hideIt hl
    have hi : i < 320 := hl.1
    clear hl
    go_wp2_with fail
    go_at_call 44
    refine (resolveRegion_x HM1.out.am j k _).mono ?_
    rintro e w2 ⟨hb2, hh⟩
    have HB2 := hideIt (Below.thr HB1.out hb2)
    have HM2 := hideIt (HM1.out.below hb2)
    have hz2 := (hb2.block (w.heap.size + 1) (heap_lt HZ1.out)).trans HZ1.out
    have HZ2 := hideIt hz2
    clear hb2 hz2 x0 x1
    rcases hh with ⟨hlj, htj, rfl⟩ | ⟨hlj, v0, rfl, code, hc, hv0, hcd⟩
    · have hj : j < 320 := hlj.1
      have e6 := HM2.out.am.bas hi
      have f6 := HM2.out.am.bas hj
      have HE := hideIt (fun x (hx : x < 320) q => end_walk (w := w2.drewN q) (A := A) (s := s) (i := x) ⟨HM2.out.am.cell, HM2.out.am.free⟩ hx)
      obtain ⟨r, hr⟩ := HI.out.rk
      have HR : Hid (Rk s r) := hr
      have HP0 := hideIt (HI.out.par hi HL.out.2.2.1)
      obtain ⟨al, hal⟩ := up_ex (ws := ws) HI.out hi HL.out.2.2.1
      have HAl := hideIt hal
      have HOk := hideIt (witX_ok (ws := ws) HL.out hlj htj hal)
      have HIn := hideIt (up_in HXx.out HI.out hi HL.out.2.2.1 hal)
      have HFa : Hid (j ∉ al → ∀ w5 : World, Below w.heap.size w w5 → WiXP (witX (ob s ws) i g j k) w (.returned (.tuple #[.bool false, .nilIface])) w5) := fun q w5 hb => by
        refine Or.inr ⟨⟨false, ?_, rfl⟩, hb⟩
        rw [HOk.out, if_neg q]
        rfl
      have HTr : Hid (j ∈ al → ∀ w5 : World, Below w.heap.size w w5 → WiXP (witX (ob s ws) i g j k) w (.returned (.tuple #[.bool true, .nilIface])) w5) := fun q w5 hb => by
        refine Or.inr ⟨⟨true, ?_, rfl⟩, hb⟩
        rw [HOk.out, if_pos q]
        rfl
      have li := HXx.out.gm.lim i hi HL.out.2.2.1
      have lj := HXx.out.gm.lim j hj (by rw [htj]; decide)
      have HWi : Hid (IntKind.u64.wrap ((s.hd i).bas + (s.hd i).siz) = (s.hd i).bas + (s.hd i).siz) := u64_same (by omega) (by omega)
      have HWj : Hid (IntKind.u64.wrap ((s.hd j).bas + (s.hd j).siz) = (s.hd j).bas + (s.hd j).siz) := u64_same (by omega) (by omega)
      clear hlj htj hr hal li lj
      by_cases hba : (s.hd i).bas < (s.hd j).bas
      · have gd : decide ((s.hd i).bas < (s.hd j).bas) = true := decide_eq_true hba
        go_wp2_with fail
        go_region
        all_goals
          go_wp2_with fail
          exact bodyPost_ret (v := .tuple #[.bool false, .nilIface]) (by simp [results, Tryz.results68]) rfl (HFa.out (fun q => by have := HIn.out j q; omega) _ (Below.thr HB2.out (below_d _)))
      · have gd : decide ((s.hd i).bas < (s.hd j).bas) = false := decide_eq_false hba
        by_cases hen : IntKind.u64.wrap ((s.hd i).bas + (s.hd i).siz) > IntKind.u64.wrap ((s.hd j).bas + (s.hd j).siz)
        · go_wp2_with fail
          go_quiet ((go_at_call 47; exact Calls.quiet_of ((HE.out _ (by first | exact hi | exact hj) _).mono (fun e w' q => ⟨q.1, 1, q.2⟩))))
          go_wp2_with fail
          exact bodyPost_ret (v := .tuple #[.bool false, .nilIface]) (by simp [results, Tryz.results68]) rfl (HFa.out (fun q => by have a := HIn.out j q; rw [HWi.out, HWj.out] at hen; omega) _ (Below.thr HB2.out (below_dN _ _)))
        · have hen' : ¬ IntKind.u64.wrap ((s.hd i).bas + (s.hd i).siz) > IntKind.u64.wrap ((s.hd j).bas + (s.hd j).siz) := hen
          go_wp2_with fail
          go_quiet ((go_at_call 47; exact Calls.quiet_of ((HE.out _ (by first | exact hi | exact hj) _).mono (fun e w' q => ⟨q.1, 1, q.2⟩))))
          have HM3 := hideIt (HM2.out.below (below_dN w2 nq))
          have HB3 := hideIt (Below.thr HB2.out (below_dN w2 nq))
          have HZ3 := hideIt (((below_dN w2 nq).block (w.heap.size + 1) (heap_lt HZ2.out)).trans HZ2.out)
          clear e6 f6
          generalize w2.drewN nq = w3 at *
          have ep := HM3.out.am.par hi
          go_wp2_with fail
          go_loopw [11] (fun v11 wr => wr = w3 ∧ (∃ ls : List Nat, j ∉ ls ∧ ∀ q, Up (ob s ws) (intOf v11) q → Up (ob s ws) (s.hd i).par (ls ++ q)) ∧ (v11 = .int .u16 65535 ∨ ∃ p, IsReg s p ∧ v11 = .int .u16 (p : Int))) (fun v11 _ => upM r v11)
          case atStart =>
            refine ⟨rfl, ⟨[], by simp, fun q hq => hq⟩, ?_⟩
            rcases HP0.out with e | ⟨p, hp, e⟩
            · exact Or.inl (by rw [e])
            · exact Or.inr ⟨p, hp, by rw [e]⟩
          case round =>
            clear ep HP0
            obtain ⟨rfl, ⟨ls, hjl, hup⟩, hv⟩ := hrel
            have HUp := hideIt hup
            have HJl := hideIt hjl
            clear hup hjl
            rcases hv with rfl | ⟨p, hp, rfl⟩
            · have HNo : Hid (j ∉ al) := by
                show j ∉ al
                have := HUp.out [] rfl
                rw [List.append_nil] at this
                rw [HAl.out.uniq this]
                exact HJl.out
              go_wp2_with fail
              exact bodyPost_ret (v := .tuple #[.bool false, .nilIface]) (by simp [results, Tryz.results68]) rfl (HFa.out HNo.out _ HB3.out)
            · have pc : (p : Int) < 320 := by have := hp.2.1; omega
              have kn : ((p : Int) != 65535) = true := by rw [bne_iff_ne]; omega
              have epp := HM3.out.am.par hp.2.1
              have HPp := hideIt (HI.out.par hp.2.1 (by rw [hp.2.2]; decide))
              have HRR : Hid (∀ q : Nat, q < 320 → (s.hd p).par = (q : Int) → r q < r p) := fun q hq e => HR.out p q hp.2.1 (by rw [hp.2.2]; decide) e hq
              obtain ⟨x0, x1, _, _⟩ := two_cells HZ3.out
              have HPR := hideIt hp
              clear hp
              by_cases epj : p = j
              · have kj : ((p : Int) == (j : Int)) = true := by rw [epj]; exact beq_self_eq_true _
                have HYe : Hid (j ∈ al) := by
                  show j ∈ al
                  obtain ⟨q, hq⟩ := up_ex (ws := ws) HI.out HPR.out.2.1 (by rw [HPR.out.2.2]; decide)
                  have := HUp.out (p :: q) ⟨rfl, HPR.out.2.1, by rw [ob_at _ _ HPR.out.2.1]; exact hq⟩
                  rw [HAl.out.uniq this, epj]
                  simp
                go_wp2_with fail
                exact bodyPost_ret (v := .tuple #[.bool true, .nilIface]) (by simp [results, Tryz.results68]) rfl (HTr.out HYe.out _ HB3.out)
              · have kj : ((p : Int) == (j : Int)) = false := by rw [beq_eq_false_iff_ne]; omega
                go_wp2_with fail
                have e0 : upM r (.int .u16 (p : Int)) = r p + 1 := by
                  unfold upM
                  rw [if_neg (by show (p : Int) ≠ 65535; omega)]
                  rfl
                have key : (s.hd p).par = 65535 ∨ ∃ q, IsReg s q ∧ (s.hd p).par = (q : Int) := HPp.out
                have hle : upM r (.int .u16 (s.hd p).par) ≤ r p := by
                  rcases key with e | ⟨q, hq, e⟩
                  · rw [e]; exact Nat.zero_le _
                  · have := HRR.out q hq.2.1 e
                    rw [e]
                    unfold upM
                    split
                    · exact Nat.zero_le _
                    · exact this
                refine ⟨⟨trivial, ⟨ls ++ [p], ?_, fun q hq => ?_⟩, ?_⟩, by rw [e0]; omega⟩
                · intro q
                  rcases List.mem_append.1 q with q | q
                  · exact HJl.out q
                  · have q2 : j = p := by simpa using q
                    exact epj q2.symm
                · rw [List.append_assoc]
                  exact HUp.out (p :: q) ⟨rfl, HPR.out.2.1, by rw [ob_at _ _ HPR.out.2.1]; exact hq⟩
                rcases key with e | ⟨q, hq, e⟩
                · exact Or.inl (by rw [e])
                · exact Or.inr ⟨q, hq, by rw [e]⟩
    · have HF : Hid (WiXP (witX (ob s ws) i g j k) w (.returned (.tuple #[.bool false, v0])) w2) := Or.inl ⟨_, _, witX_reg HL.out hcd hlj, rfl, hv0, hc, HB2.out⟩
      obtain ⟨b, rfl, hbc⟩ := hv0
      clear hbc hlj hcd
      go_wp2_with fail
      exact bodyPost_ret (by simp [results, Tryz.results68]) rfl HF.out
  · obtain ⟨b, rfl, hbc⟩ := hv0
    have HF : Hid (WiXP (witX (ob s ws) i g j k) w (.returned (.tuple #[.bool false, .iface 212 (.pointer (some ⟨b, 0, none⟩))])) w1) := Or.inl ⟨_, _, witX_dead hl, rfl, ⟨b, rfl, hbc⟩, stale_ne i g, HB1.out⟩
    clear hbc hl
    go_wp2_with fail
    exact bodyPost_ret (by simp [results, Tryz.results68]) rfl HF.out
end
end Go.Proofs.Qxb6500847aGreatDoor.Os
