/-
  The model's Step at a question.
-/
import Derived.Test.Qxb6500848aGreatDoorMqA
namespace Go.Proofs.Qxb6500848aGreatDoor
open Go.RowKit Pl Go.Maps
set_option maxRecDepth 100000

set_option maxHeartbeats 8000000 in
theorem mask15 {Y : Nat → Prop} {w : World} {hb ab nb : Nat} {B : List Nd} {regs : List Int} (hM : Mo Y w hb ab nb B regs) (hl : regs.length ≤ 8) (hne : regs ≠ []) (oa ob oc o6 : Int) (wa pa : Option Addr) (wn wc pn pc : Nat) {wd pd : Word} (hw : Ints Y w (.slice wa wn wc) wd) (hwz : Nz (.slice wa wn wc)) (hwl : wd.length ≤ 65536) (hp : Ints Y w (.slice pa pn pc) pd) (hpz : Nz (.slice pa pn pc)) (hpl : pd.length ≤ 65536) (hg : Gd tabC w) (hw0 : 3 < w.heap.size) :
    Calls Tryz.prog 62 #[.pointer (some ⟨hb, 0, none⟩), .agg #[.int .i64 15, .int .i64 oa, .int .i64 ob, .int .i64 oc, .slice wa wn wc, .slice pa pn pc, .int .i64 o6]] w (StPost (Mask 15 ob B regs (rg regs oa) (wd.take 5) (pd.take 5)) Y w hb ab nb B) := by
  have lk := hM.lh
  obtain ⟨rv, m0, m1, hR⟩ := hM.cells
  have hrl : ∃ ra rc, rv = .slice ra regs.length rc := by
    rcases hR with ⟨e, e2⟩ | ⟨rb, off, cap, _, e, _⟩
    · exact ⟨none, 0, by rw [e, e2]; rfl⟩
    · exact ⟨_, cap, e⟩
  have HT0 := hideIt (SP.start hM (.cells #[.int .i64 15, .int .i64 oa, .int .i64 ob, .int .i64 oc, .slice wa wn wc, .slice pa pn pc, .int .i64 o6] 31))
  have hB0 : Below w.heap.size w ((w.alloc (.cells #[.int .i64 15, .int .i64 oa, .int .i64 ob, .int .i64 oc, .slice wa wn wc, .slice pa pn pc, .int .i64 o6] 31)).alloc (.cells #[.bool false, .bool false, .bool false, .bool false, .int .i64 0] 95)) := (alloc_below _).trans ((alloc_below _).mono (alloc_below _).size)
  have hop : ((w.alloc (.cells #[.int .i64 15, .int .i64 oa, .int .i64 ob, .int .i64 oc, .slice wa wn wc, .slice pa pn pc, .int .i64 o6] 31)).alloc (.cells #[.bool false, .bool false, .bool false, .bool false, .int .i64 0] 95)).heap[w.heap.size]? = some (.cells #[.int .i64 15, .int .i64 oa, .int .i64 ob, .int .i64 oc, .slice wa wn wc, .slice pa pn pc, .int .i64 o6] 31 (0, 0)) := ((alloc_below _).block _ (by rw [Deep.nblk_alloc]; omega)).trans (heap_new _ _)
  have HR := hideIt hR
  have Hval := hideIt hM.val
  have Hwf := hideIt hM.st.ar.wf
  have Hlen := hideIt hM.st.ar.len
  have hpos : 0 < regs.length := List.length_pos_iff.2 hne
  have hb0 : ((regs.length : Int) == 0) = false := by rw [beq_eq_false_iff_ne]; omega
  have n0 : (0 : Int) < (regs.length : Int) := by omega
  have Hw := hideIt hw
  have Hp := hideIt hp
  have Hwz := hideIt hwz
  have Hpz := hideIt hpz
  have HXs : Hid (∀ b, b < w.heap.size → (Plus' Y (w.heap.size + 1) b → Y b)) := fun b hl q => q.elim id (fun e => by omega)
  clear hw hp hwz hpz
  have Hg := hideIt hg
  have Hw0 := hideIt hw0
  have hul : (wd.take 5).length ≤ 5 := by rw [List.length_take]; omega
  have hpl5 : (pd.take 5).length ≤ 5 := by rw [List.length_take]; omega
  obtain ⟨u, hue⟩ : ∃ u : Word, wd.take 5 = u := ⟨_, rfl⟩
  obtain ⟨p, hpe⟩ : ∃ u : Word, pd.take 5 = u := ⟨_, rfl⟩
  rw [hue] at hul
  rw [hpe] at hpl5
  have Hue := hideIt hue
  have Hpe := hideIt hpe
  clear hM hR hg hw0 hue hpe
  clear hrl
  go_enter Tryz.func62, Tryz.ntmps62
  go_upto_region 13 with fail
  generalize hWW : ((w.alloc (.cells #[.int .i64 15, .int .i64 oa, .int .i64 ob, .int .i64 oc, .slice wa wn wc, .slice pa pn pc, .int .i64 o6] 31)).alloc (.cells #[.bool false, .bool false, .bool false, .bool false, .int .i64 0] 95)) = w1 at *
  have HT : Hid (SP Y w hb ab nb B regs (Plus' Y (w.heap.size + 1)) w1 nb B) := HT0.out
  generalize hYY : Plus' Y (w.heap.size + 1) = Y1 at *
  have HB0 := hideIt hB0
  have p0 : w1.cell? ⟨hb, 0, none⟩ = some (.pointer (some ⟨ab, 0, none⟩)) := (hB0.cell (p := ⟨hb, 0, none⟩) lk).trans m0
  have o0 := box_cell hop 0
  have o1 := box_cell hop 1
  have o2 := box_cell hop 2
  have o3 := box_cell hop 3
  have o4 := box_cell hop 4
  have o5 := box_cell hop 5
  simp only [List.getElem?_toArray, List.getElem?_cons_zero, List.getElem?_cons_succ] at o0 o1 o2 o3 o4 o5
  have Hop := hideIt hop
  have lo : w.heap.size < w1.heap.size := heap_lt hop
  clear HT0 hWW hB0 hop m0 m1
  obtain ⟨rb, off, cap, p1, hrg⟩ := HT.out.regAt hpos
  obtain ⟨ca, sa⟩ := hrg oa
  obtain ⟨cb, sb⟩ := hrg ob
  have l0 : hb < w1.heap.size := HT.out.mo.lh
  have qa0 : 0 ≤ oa % (regs.length : Int) := Int.emod_nonneg _ (by omega)
  have qa1 : oa % (regs.length : Int) < (regs.length : Int) := Int.emod_lt_of_pos _ n0
  have qb0 : 0 ≤ ob % (regs.length : Int) := Int.emod_nonneg _ (by omega)
  have qb1 : ob % (regs.length : Int) < (regs.length : Int) := Int.emod_lt_of_pos _ n0
  have HFa := hideIt (fun W => fold_walk oa (regs.length : Int) n0 (by omega) W)
  have HFb := hideIt (fun W => fold_walk ob (regs.length : Int) n0 (by omega) W)
  have HTw1 := HT
  have HBw1 := HB0
  have HCw1 := hideIt (Below.refl w1.heap.size w1)
  obtain ⟨x, hx⟩ : ∃ x, rg regs oa = x := ⟨_, rfl⟩
  obtain ⟨y, hy⟩ : ∃ y, rg regs ob = y := ⟨_, rfl⟩
  rw [hx] at ca sa
  rw [hy] at cb sb
  have Hx := hideIt hx
  have Hy := hideIt hy
  have Sx := hideIt sa
  have Sy := hideIt sb
  obtain ⟨ma, hma⟩ : ∃ m, oa % (regs.length : Int) = m := ⟨_, rfl⟩
  obtain ⟨mb, hmb⟩ : ∃ m, ob % (regs.length : Int) = m := ⟨_, rfl⟩
  rw [hma] at qa0 qa1 ca
  rw [hmb] at qb0 qb1 cb
  have Hma := hideIt hma
  have Hmb := hideIt hmb
  clear hrg hx hy sa sb hma hmb HT HB0
  go_upto_region 15 with fail
  go_cut [6] (fun v wx => v = .int .i64 x ∧ Below w1.heap.size w1 wx)
  case first =>
    go_region_held3 (fun w' => w'.cell? ⟨hb, 1, none⟩ = some (.slice (some ⟨rb, off, none⟩) regs.length cap) ∧ w'.cell? ⟨w.heap.size, 1, none⟩ = some (.int .i64 oa) ∧ w'.cell? ⟨rb, off + ma.toNat, none⟩ = some (.int .i64 x)) (go_keep)
      (first | (go_at_call 46; refine (HFa.out _).mono ?_; rintro e w' ⟨rfl, rfl⟩; rw [Hma.out]))
    all_goals (try go_wp2_with fail)
    all_goals go_meet
    all_goals exact ⟨rfl, (by exact ⟨rfl, rfl, rfl, Nat.le_refl _, fun _ _ => rfl⟩)⟩
  case rest =>
    obtain ⟨e6, hbx⟩ := hcut
    subst e6
    clear ca qa0 qa1 o1
    obtain ⟨w2, hW⟩ : ∃ W, W = wc := ⟨_, rfl⟩
    subst hW
    have HTw2 := hideIt (HTw1.out.below hbx)
    have HBw2 := hideIt (HBw1.out.trans (hbx.mono HBw1.out.size))
    have HCw2 := hideIt (HCw1.out.trans (hbx.mono HCw1.out.size))
    have p0 := (hbx.cell (p := ⟨hb, 0, none⟩) l0).trans p0
    have p1 := (hbx.cell (p := ⟨hb, 1, none⟩) l0).trans p1
    have o0 := (hbx.cell (p := ⟨w.heap.size, 0, none⟩) lo).trans o0
    have o2 := (hbx.cell (p := ⟨w.heap.size, 2, none⟩) lo).trans o2
    have o3 := (hbx.cell (p := ⟨w.heap.size, 3, none⟩) lo).trans o3
    have o4 := (hbx.cell (p := ⟨w.heap.size, 4, none⟩) lo).trans o4
    have o5 := (hbx.cell (p := ⟨w.heap.size, 5, none⟩) lo).trans o5
    have l0 : hb < w2.heap.size := Nat.lt_of_lt_of_le l0 hbx.size
    have lo : w.heap.size < w2.heap.size := Nat.lt_of_lt_of_le lo hbx.size
    have cb := (hbx.cell (p := ⟨rb, off + mb.toNat, none⟩) (cell_lt cb)).trans cb
    clear hbx
    go_upto_region 16 with fail
    go_cut [7] (fun v wx => v = .int .i64 y ∧ Below w2.heap.size w2 wx)
    case first =>
      go_region_held3 (fun w' => w'.cell? ⟨hb, 1, none⟩ = some (.slice (some ⟨rb, off, none⟩) regs.length cap) ∧ w'.cell? ⟨w.heap.size, 2, none⟩ = some (.int .i64 ob) ∧ w'.cell? ⟨rb, off + mb.toNat, none⟩ = some (.int .i64 y)) (go_keep)
        (first | (go_at_call 46; refine (HFb.out _).mono ?_; rintro e w' ⟨rfl, rfl⟩; rw [Hmb.out]))
      all_goals (try go_wp2_with fail)
      all_goals go_meet
      all_goals exact ⟨rfl, (by exact ⟨rfl, rfl, rfl, Nat.le_refl _, fun _ _ => rfl⟩)⟩
    case rest =>
      obtain ⟨e7, hbx⟩ := hcut
      subst e7
      clear cb qb0 qb1
      obtain ⟨w3, hW⟩ : ∃ W, W = wc := ⟨_, rfl⟩
      subst hW
      have HTw3 := hideIt (HTw2.out.below hbx)
      have HBw3 := hideIt (HBw2.out.trans (hbx.mono HBw2.out.size))
      have HCw3 := hideIt (HCw2.out.trans (hbx.mono HCw2.out.size))
      have p0 := (hbx.cell (p := ⟨hb, 0, none⟩) l0).trans p0
      have p1 := (hbx.cell (p := ⟨hb, 1, none⟩) l0).trans p1
      have o0 := (hbx.cell (p := ⟨w.heap.size, 0, none⟩) lo).trans o0
      have o2 := (hbx.cell (p := ⟨w.heap.size, 2, none⟩) lo).trans o2
      have o3 := (hbx.cell (p := ⟨w.heap.size, 3, none⟩) lo).trans o3
      have o4 := (hbx.cell (p := ⟨w.heap.size, 4, none⟩) lo).trans o4
      have o5 := (hbx.cell (p := ⟨w.heap.size, 5, none⟩) lo).trans o5
      have l0 : hb < w3.heap.size := Nat.lt_of_lt_of_le l0 hbx.size
      have lo : w.heap.size < w3.heap.size := Nat.lt_of_lt_of_le lo hbx.size
      clear hbx
      have HIw : Hid (∀ W, Below w3.heap.size w3 W → Ints Y1 W (.slice wa wn wc) wd) := fun W hW => (Hw.out.more HXs.out).below (HBw3.out.trans (hW.mono HBw3.out.size)) (Nat.le_refl _)
      have HIp : Hid (∀ W, Below w3.heap.size w3 W → Ints Y1 W (.slice pa pn pc) pd) := fun W hW => (Hp.out.more HXs.out).below (HBw3.out.trans (hW.mono HBw3.out.size)) (Nat.le_refl _)
      go_upto_region 17 with fail
      go_cut [8, 9] (fun v u0 wx => Ints Y1 wx v u ∧ Ints Y1 wx u0 p ∧ Nz v ∧ Nz u0 ∧ Below w3.heap.size w3 wx)
      case first =>
        go_region_held3 (fun w' => w'.cell? ⟨w.heap.size, 4, none⟩ = some (.slice wa wn wc) ∧ w'.cell? ⟨w.heap.size, 5, none⟩ = some (.slice pa pn pc)) (go_keep)
          (first
            | (go_at_call_of 15 (Value.slice wa wn wc); refine (cut_walk (HIw.out _ (by exact ⟨rfl, rfl, rfl, Nat.le_refl _, fun _ _ => rfl⟩)) Hwz.out hwl).mono ?_; rintro e w' ⟨u1, rfl, hu1, hz1, rfl⟩)
            | (go_at_call_of 15 (Value.slice pa pn pc); refine (cut_walk (HIp.out _ (by exact ⟨rfl, rfl, rfl, Nat.le_refl _, fun _ _ => rfl⟩)) Hpz.out hpl).mono ?_; rintro e w' ⟨u2, rfl, hu2, hz2, rfl⟩))
        all_goals (try go_wp2_with fail)
        all_goals go_meet
        all_goals exact ⟨by rw [← Hue.out]; exact hu1, by rw [← Hpe.out]; exact hu2, hz1, hz2, (by exact ⟨rfl, rfl, rfl, Nat.le_refl _, fun _ _ => rfl⟩)⟩
      case rest =>
        obtain ⟨hu1, hu2, hz1, hz2, hbx⟩ := hcut
        have Hz1 := hideIt hz1
        have Hz2 := hideIt hz2
        clear hz1 hz2
        have Hu1 := hideIt hu1
        have Hu2 := hideIt hu2
        obtain ⟨ua1, uc1, e8, _, _, _⟩ := hu1
        subst e8
        obtain ⟨ua2, uc2, e9, _, _, _⟩ := hu2
        subst e9
        obtain ⟨w4, hW⟩ : ∃ W, W = wc := ⟨_, rfl⟩
        subst hW
        have HTw4 := hideIt (HTw3.out.below hbx)
        have HBw4 := hideIt (HBw3.out.trans (hbx.mono HBw3.out.size))
        have HCw4 := hideIt (HCw3.out.trans (hbx.mono HCw3.out.size))
        have p0 := (hbx.cell (p := ⟨hb, 0, none⟩) l0).trans p0
        have p1 := (hbx.cell (p := ⟨hb, 1, none⟩) l0).trans p1
        have o0 := (hbx.cell (p := ⟨w.heap.size, 0, none⟩) lo).trans o0
        have o2 := (hbx.cell (p := ⟨w.heap.size, 2, none⟩) lo).trans o2
        have o3 := (hbx.cell (p := ⟨w.heap.size, 3, none⟩) lo).trans o3
        have o4 := (hbx.cell (p := ⟨w.heap.size, 4, none⟩) lo).trans o4
        have o5 := (hbx.cell (p := ⟨w.heap.size, 5, none⟩) lo).trans o5
        have l0 : hb < w4.heap.size := Nat.lt_of_lt_of_le l0 hbx.size
        have lo : w.heap.size < w4.heap.size := Nat.lt_of_lt_of_le lo hbx.size
        clear hbx HIw HIp o4 o5
        have HT := HTw4
        go_upto_region 44 with fail
        have HL0 := hideIt (LgS.start w4 x u)
        generalize w4.alloc (.cells #[.int .i64 x, .slice none 0 0] 150) = wl at *
        go_wp2_with fail
        go_loopw [14, 221] (fun _ i wr => ∃ (k : Nat) (pa' : Option Addr) (n' c' : Nat), k ≤ u.length ∧ i = .int .i64 k ∧ LgS w4 x u k wr pa' n' c') (fun _ i _ => u.length - (intOf i).toNat)
        case atStart => exact ⟨0, none, 0, 0, by omega, rfl, HL0.out⟩
        case round =>
          obtain ⟨k, pa', n', c', hk, rfl, hL⟩ := hrel
          have HL := hideIt hL
          have hB := hL.below
          have d0 := box_cell hL.blk 0
          have d1 := box_cell hL.blk 1
          simp only [List.getElem?_toArray, List.getElem?_cons_zero, List.getElem?_cons_succ] at d0 d1
          have HB := hideIt hB
          clear hL
          by_cases hlt : k < u.length
          · have hlt' : (k : Int) < (u.length : Int) := by omega
            obtain ⟨_, _, eu, _, _, hu3⟩ := Hu1.out
            obtain ⟨ug, uo, eu2, _, huc⟩ := hu3 (fun e => by rw [e] at hlt; cases hlt)
            have ea : ua1 = some ⟨ug, uo, none⟩ := by cases eu; exact eu2
            subst ea
            have ck := (hB.cell (p := ⟨ug, uo + k, none⟩) (cell_lt (huc k hlt))).trans (huc k hlt)
            obtain ⟨ch, hch⟩ : ∃ z : Int, u[k] = z := ⟨_, rfl⟩
            rw [hch] at ck
            have Hch := hideIt hch
            clear eu hu3 eu2 huc hch hB
            go_wp2_with fail
            go_at_call 108
            refine (mderiv_walk x ch HL.out.word HL.out.nz (by rw [List.length_take]; omega)).mono ?_
            rintro e w5 ⟨ad5, n5, cap5, rfl, hI5, hN5, hB5⟩
            have HL5 := hideIt (HL.out.step (Below.refl _ _) hlt Hch.out hI5 hN5 hB5)
            have hb5 := (hB5.block w4.heap.size (heap_lt HL.out.blk)).trans HL.out.blk
            have e0 := box_cell hb5 0
            have e1 := box_cell hb5 1
            have g0 : w5.frozen? ⟨w4.heap.size, 0, none⟩ = false := by simp [World.frozen?, hb5]
            have g1 : w5.frozen? ⟨w4.heap.size, 1, none⟩ = false := by simp [World.frozen?, hb5]
            simp only [List.getElem?_toArray, List.getElem?_cons_zero, List.getElem?_cons_succ] at e0 e1
            clear hI5 hN5 hB5 hb5
            go_wp2_with fail
            go_roundw
            case rel => exact ⟨k + 1, ad5, n5, cap5, by omega, by go_num, HL5.out⟩
            case measure => simp [intOf]; omega
          · obtain rfl : k = u.length := by omega
            have HW : Hid (Ints (fun b => b ≤ w4.heap.size) wr (.slice pa' n' c') u) := by have := HL.out.word; rw [List.take_length] at this; exact this
            clear hB
            go_wp2_with fail
            go_at_call 110
            refine (mhas_walk (HT.out.below HB.out).mo.st Sx.out.1 HW.out HL.out.nz (by omega) (Hu2.out.below HB.out (Nat.le_refl _)) Hz2.out (by omega)).mono ?_
            rintro e w7 ⟨b, rfl, hb, hB7⟩
            have HB7 := hideIt (HB.out.trans (hB7.mono HB.out.size))
            have Hb := hideIt hb
            clear hB7 hb
            go_wp2_with fail
            go_at_call 109
            refine (truth_walk b _).mono ?_
            rintro e w6 ⟨rfl, hB6⟩
            have HS9 := hideIt (HT.out.below (HB7.out.trans (hB6.mono HB7.out.size)))
            clear hB6
            obtain ⟨tv, htv⟩ : ∃ t : Int, (if b then (1 : Int) else 0) = t := ⟨_, rfl⟩
            unfold resV
            rw [htv]
            have Htv := hideIt htv
            clear htv
            obtain ⟨q0, q1, q2, q3, q4, ⟨c0, c1, c2, c3, c4⟩, fz⟩ := HS9.out.rcells
            have f0 := fz 0
            have f1 := fz 1
            have f2 := fz 2
            have f3 := fz 3
            have f4 := fz 4
            clear fz
            go_wp2_with fail
            have Hd := hideIt (HS9.out.done (R := Mask 15 ob B regs (rg regs oa) (wd.take 5) (pd.take 5)) hl (.bool false) (.bool false) (.bool false) (.bool true) (.int .i64 tv) ⟨rfl, rfl, (by rw [Hx.out, Hue.out, Hpe.out]; exact ask15 ⟨b, Hb.out, by rw [Htv.out]; rfl⟩)⟩)
            refine bodyPost_ret (v := .agg #[.bool false, .bool false, .bool false, .bool true, .int .i64 tv]) ?_ rfl (by exact Hd.out.1)
            exact results_cell_row (by exact Tryz.results62) _ _ (w.heap.size + 1) _ _ _ _ (by rfl) (by exact Hd.out.2) Tryz.underlying95 rfl (by kernel_rfl)
end Go.Proofs.Qxb6500848aGreatDoor
