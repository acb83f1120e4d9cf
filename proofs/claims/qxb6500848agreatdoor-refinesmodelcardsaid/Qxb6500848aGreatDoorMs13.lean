/-
  The model's Step, kind by kind.
-/
import Derived.Test.Qxb6500848aGreatDoorMoC
import Derived.Test.Qxb6500848aGreatDoorMtA
namespace Go.Proofs.Qxb6500848aGreatDoor
open Go.RowKit Pl Go.Maps
set_option maxRecDepth 100000

theorem kp_ext {R : List Int → Bool → Bool → Prop} {Y : Nat → Prop} {w w' : World} {hb ab nb : Nat} {B : List Nd} {e : Ending} (h : KpPost R Y w hb ab nb B e w') : Ext w.heap.size (Th w hb) w w' := by
  obtain ⟨_, _, _, _, _, _, _, _, h5, _⟩ := h
  exact h5
theorem th_op {w : World} {hb o rb off n cap : Nat} (h : Th w hb o) (h1 : o ≠ hb) (h2 : w.cell? ⟨hb, 1, none⟩ = some (.slice (some ⟨rb, off, none⟩) n cap)) (h3 : o ≠ rb) : False := by
  rcases h with h | ⟨off', n', cap', h⟩
  · exact h1 h
  · rw [h2] at h
    simp only [Option.some.injEq, Value.slice.injEq, Addr.mk.injEq] at h
    exact h3 h.1.1.symm
theorem nfK13 (oa ob oc : Int) (B : List Nd) (regs : List Int) : nfK 13 oa ob oc B regs = loopN B (rg regs oa) (ob % 6) (oc % 6) := by
  unfold nfK
  rw [if_neg (by decide), if_neg (by decide), if_neg (by decide), if_neg (by decide), if_neg (by decide), if_neg (by decide), if_neg (by decide), if_neg (by decide), if_neg (by decide), if_neg (by decide), if_neg (by decide), if_neg (by decide), if_pos rfl]
theorem keep_any {Y : Nat → Prop} {w : World} {hb ab nb : Nat} {B : List Nd} {regs : List Int} (h : Mo Y w hb ab nb B regs) (hl : regs.length ≤ 8) {z : Int} {ev : Value} (hz : (ev = .nilIface ∧ Valid B z ∧ sz B z ≤ 100) ∨ ∃ t v, ev = .iface t v) :
    Calls Tryz.prog 99 #[.pointer (some ⟨hb, 0, none⟩), .int .i64 z, ev] w (KpPost (fun regs' f0 f2 => (ev = .nilIface ∧ Kend B z regs regs' f0 f2) ∨ ((∃ t v, ev = .iface t v) ∧ f2 = true ∧ f0 = false ∧ regs' = regs)) Y w hb ab nb B) := by
  rcases hz with ⟨rfl, hz⟩ | ⟨t, v, rfl⟩
  · refine (keep_walk h hl hz).mono ?_
    rintro e w' ⟨Y', regs', f0, f2, h1, h2, h3⟩
    exact ⟨Y', regs', f0, f2, h1, Or.inl ⟨rfl, h2⟩, h3⟩
  · refine (keep_full h hl z t v).mono ?_
    rintro e w' ⟨Y', regs', f0, f2, h1, h2, h3⟩
    exact ⟨Y', regs', f0, f2, h1, Or.inr ⟨⟨t, v, rfl⟩, h2⟩, h3⟩
theorem mend13 {B B5 : List Nd} {regs regs9 : List Int} {oa ob oc z : Int} {ev : Value} {b0 b2 : Bool} {nf : Nf} (hnf : nfK 13 oa ob oc B regs = nf) (hh : (ev = .nilIface ∧ Val B5 nf z ∧ Add B B5 nf) ∨ ((∃ t v, ev = .iface t v) ∧ z = 0 ∧ (65536 : Int) ≤ B5.length ∧ B5 = B ∧ NoVal B nf))
    (hR : (ev = .nilIface ∧ Kend B5 z regs regs9 b0 b2) ∨ ((∃ t v, ev = .iface t v) ∧ b2 = true ∧ b0 = false ∧ regs9 = regs)) : Mend 13 oa ob oc B regs B5 regs9 (.agg #[.bool b0, .bool false, .bool b2, .bool false, .int .i64 0]) := by
  subst hnf
  rcases hh with ⟨e, h1, h2⟩ | ⟨⟨t, v, e⟩, _, h1, h2, h3⟩
  · rcases hR with ⟨_, k⟩ | ⟨⟨t', v', e'⟩, _⟩
    · exact Mend.ok k (by unfold Mz; rw [if_neg (by decide)]; exact ⟨h1, h2⟩)
    · rw [e] at e'; cases e'
  · rcases hR with ⟨e', _⟩ | ⟨_, k⟩
    · rw [e] at e'; cases e'
    · exact Mend.bad k ⟨h1, by rw [if_neg (by decide)]; exact ⟨h2, h3⟩⟩

set_option maxHeartbeats 8000000 in
theorem step13 {Y : Nat → Prop} {w : World} {hb ab nb : Nat} {B : List Nd} {regs : List Int} (hM : Mo Y w hb ab nb B regs) (hl : regs.length ≤ 8) (hne : regs ≠ []) (oa ob oc o6 : Int) (wa pa : Option Addr) (wn wc pn pc : Nat) {wd pd : Word} (hw : Ints Y w (.slice wa wn wc) wd) (hwz : Nz (.slice wa wn wc)) (hwl : wd.length ≤ 65536) (hp : Ints Y w (.slice pa pn pc) pd) (hpz : Nz (.slice pa pn pc)) (hpl : pd.length ≤ 65536) :
    Calls Tryz.prog 62 #[.pointer (some ⟨hb, 0, none⟩), .agg #[.int .i64 13, .int .i64 oa, .int .i64 ob, .int .i64 oc, .slice wa wn wc, .slice pa pn pc, .int .i64 o6]] w (StPost (Mend 13 oa ob oc B regs) Y w hb ab nb B) := by
  have lk := hM.lh
  obtain ⟨rv, m0, m1, hR⟩ := hM.cells
  have hrl : ∃ ra rc, rv = .slice ra regs.length rc := by
    rcases hR with ⟨e, e2⟩ | ⟨rb, off, cap, _, e, _⟩
    · exact ⟨none, 0, by rw [e, e2]; rfl⟩
    · exact ⟨_, cap, e⟩
  have HT0 := hideIt (SP.start hM (.cells #[.int .i64 13, .int .i64 oa, .int .i64 ob, .int .i64 oc, .slice wa wn wc, .slice pa pn pc, .int .i64 o6] 31))
  have hB0 : Below w.heap.size w ((w.alloc (.cells #[.int .i64 13, .int .i64 oa, .int .i64 ob, .int .i64 oc, .slice wa wn wc, .slice pa pn pc, .int .i64 o6] 31)).alloc (.cells #[.bool false, .bool false, .bool false, .bool false, .int .i64 0] 95)) := (alloc_below _).trans ((alloc_below _).mono (alloc_below _).size)
  have hop : ((w.alloc (.cells #[.int .i64 13, .int .i64 oa, .int .i64 ob, .int .i64 oc, .slice wa wn wc, .slice pa pn pc, .int .i64 o6] 31)).alloc (.cells #[.bool false, .bool false, .bool false, .bool false, .int .i64 0] 95)).heap[w.heap.size]? = some (.cells #[.int .i64 13, .int .i64 oa, .int .i64 ob, .int .i64 oc, .slice wa wn wc, .slice pa pn pc, .int .i64 o6] 31 (0, 0)) := ((alloc_below _).block _ (by rw [Deep.nblk_alloc]; omega)).trans (heap_new _ _)
  have HR := hideIt hR
  have Hval := hideIt hM.val
  have Hwf := hideIt hM.st.ar.wf
  have Hlen := hideIt hM.st.ar.len
  have hpos : 0 < regs.length := List.length_pos_iff.2 hne
  have hb0 : ((regs.length : Int) == 0) = false := by rw [beq_eq_false_iff_ne]; omega
  have n0 : (0 : Int) < (regs.length : Int) := by omega
  have Hw := hideIt hw
  have Hp := hideIt hp
  have Hwz := hideIt hwz
  have Hpz := hideIt hpz
  have HXs : Hid (∀ b, b < w.heap.size → (Plus' Y (w.heap.size + 1) b → Y b)) := fun b hl q => q.elim id (fun e => by omega)
  clear hw hp hwz hpz
  have Hla := hideIt (hM.st.xlt _ hM.st.ar.xa)
  have Hln := hideIt (hM.st.xlt _ hM.st.ar.xn)
  clear hM hR
  clear hrl
  go_enter Tryz.func62, Tryz.ntmps62
  go_upto_region 13 with fail
  generalize hWW : ((w.alloc (.cells #[.int .i64 13, .int .i64 oa, .int .i64 ob, .int .i64 oc, .slice wa wn wc, .slice pa pn pc, .int .i64 o6] 31)).alloc (.cells #[.bool false, .bool false, .bool false, .bool false, .int .i64 0] 95)) = w1 at *
  have HT : Hid (SP Y w hb ab nb B regs (Plus' Y (w.heap.size + 1)) w1 nb B) := HT0.out
  generalize hYY : Plus' Y (w.heap.size + 1) = Y1 at *
  have HB0 := hideIt hB0
  have p0 : w1.cell? ⟨hb, 0, none⟩ = some (.pointer (some ⟨ab, 0, none⟩)) := (hB0.cell (p := ⟨hb, 0, none⟩) lk).trans m0
  have o0 := box_cell hop 0
  have o1 := box_cell hop 1
  have o2 := box_cell hop 2
  have o3 := box_cell hop 3
  have o4 := box_cell hop 4
  have o5 := box_cell hop 5
  simp only [List.getElem?_toArray, List.getElem?_cons_zero, List.getElem?_cons_succ] at o0 o1 o2 o3 o4 o5
  have Hop := hideIt hop
  have lo : w.heap.size < w1.heap.size := heap_lt hop
  clear HT0 hWW hB0 hop m0 m1
  obtain ⟨rb, off, cap, p1, hrg⟩ := HT.out.regAt hpos
  obtain ⟨ca, sa⟩ := hrg oa
  obtain ⟨cb, sb⟩ := hrg ob
  have l0 : hb < w1.heap.size := HT.out.mo.lh
  have qa0 : 0 ≤ oa % (regs.length : Int) := Int.emod_nonneg _ (by omega)
  have qa1 : oa % (regs.length : Int) < (regs.length : Int) := Int.emod_lt_of_pos _ n0
  have qb0 : 0 ≤ ob % (regs.length : Int) := Int.emod_nonneg _ (by omega)
  have qb1 : ob % (regs.length : Int) < (regs.length : Int) := Int.emod_lt_of_pos _ n0
  have HFa := hideIt (fun W => fold_walk oa (regs.length : Int) n0 (by omega) W)
  have HFb := hideIt (fun W => fold_walk ob (regs.length : Int) n0 (by omega) W)
  have HTw1 := HT
  have HBw1 := HB0
  have HCw1 := hideIt (Below.refl w1.heap.size w1)
  obtain ⟨x, hx⟩ : ∃ x, rg regs oa = x := ⟨_, rfl⟩
  obtain ⟨y, hy⟩ : ∃ y, rg regs ob = y := ⟨_, rfl⟩
  rw [hx] at ca sa
  rw [hy] at cb sb
  have Hx := hideIt hx
  have Hy := hideIt hy
  have Sx := hideIt sa
  have Sy := hideIt sb
  obtain ⟨ma, hma⟩ : ∃ m, oa % (regs.length : Int) = m := ⟨_, rfl⟩
  obtain ⟨mb, hmb⟩ : ∃ m, ob % (regs.length : Int) = m := ⟨_, rfl⟩
  rw [hma] at qa0 qa1 ca
  rw [hmb] at qb0 qb1 cb
  have Hma := hideIt hma
  have Hmb := hideIt hmb
  clear hrg hx hy sa sb hma hmb HT HB0
  go_upto_region 15 with fail
  go_cut [6] (fun v wx => v = .int .i64 x ∧ Below w1.heap.size w1 wx)
  case first =>
    go_region_held3 (fun w' => w'.cell? ⟨hb, 1, none⟩ = some (.slice (some ⟨rb, off, none⟩) regs.length cap) ∧ w'.cell? ⟨w.heap.size, 1, none⟩ = some (.int .i64 oa) ∧ w'.cell? ⟨rb, off + ma.toNat, none⟩ = some (.int .i64 x)) (go_keep)
      (first | (go_at_call 46; refine (HFa.out _).mono ?_; rintro e w' ⟨rfl, rfl⟩; rw [Hma.out]))
    all_goals (try go_wp2_with fail)
    all_goals go_meet
    all_goals exact ⟨rfl, (by exact ⟨rfl, rfl, rfl, Nat.le_refl _, fun _ _ => rfl⟩)⟩
  case rest =>
    obtain ⟨e6, hbx⟩ := hcut
    subst e6
    clear ca qa0 qa1 o1
    obtain ⟨w2, hW⟩ : ∃ W, W = wc := ⟨_, rfl⟩
    subst hW
    have HTw2 := hideIt (HTw1.out.below hbx)
    have HBw2 := hideIt (HBw1.out.trans (hbx.mono HBw1.out.size))
    have HCw2 := hideIt (HCw1.out.trans (hbx.mono HCw1.out.size))
    have p0 := (hbx.cell (p := ⟨hb, 0, none⟩) l0).trans p0
    have p1 := (hbx.cell (p := ⟨hb, 1, none⟩) l0).trans p1
    have o0 := (hbx.cell (p := ⟨w.heap.size, 0, none⟩) lo).trans o0
    have o2 := (hbx.cell (p := ⟨w.heap.size, 2, none⟩) lo).trans o2
    have o3 := (hbx.cell (p := ⟨w.heap.size, 3, none⟩) lo).trans o3
    have o4 := (hbx.cell (p := ⟨w.heap.size, 4, none⟩) lo).trans o4
    have o5 := (hbx.cell (p := ⟨w.heap.size, 5, none⟩) lo).trans o5
    have l0 : hb < w2.heap.size := Nat.lt_of_lt_of_le l0 hbx.size
    have lo : w.heap.size < w2.heap.size := Nat.lt_of_lt_of_le lo hbx.size
    have cb := (hbx.cell (p := ⟨rb, off + mb.toNat, none⟩) (cell_lt cb)).trans cb
    clear hbx
    go_upto_region 16 with fail
    go_cut [7] (fun v wx => v = .int .i64 y ∧ Below w2.heap.size w2 wx)
    case first =>
      go_region_held3 (fun w' => w'.cell? ⟨hb, 1, none⟩ = some (.slice (some ⟨rb, off, none⟩) regs.length cap) ∧ w'.cell? ⟨w.heap.size, 2, none⟩ = some (.int .i64 ob) ∧ w'.cell? ⟨rb, off + mb.toNat, none⟩ = some (.int .i64 y)) (go_keep)
        (first | (go_at_call 46; refine (HFb.out _).mono ?_; rintro e w' ⟨rfl, rfl⟩; rw [Hmb.out]))
      all_goals (try go_wp2_with fail)
      all_goals go_meet
      all_goals exact ⟨rfl, (by exact ⟨rfl, rfl, rfl, Nat.le_refl _, fun _ _ => rfl⟩)⟩
    case rest =>
      obtain ⟨e7, hbx⟩ := hcut
      subst e7
      clear cb qb0 qb1
      obtain ⟨w3, hW⟩ : ∃ W, W = wc := ⟨_, rfl⟩
      subst hW
      have HTw3 := hideIt (HTw2.out.below hbx)
      have HBw3 := hideIt (HBw2.out.trans (hbx.mono HBw2.out.size))
      have HCw3 := hideIt (HCw2.out.trans (hbx.mono HCw2.out.size))
      have p0 := (hbx.cell (p := ⟨hb, 0, none⟩) l0).trans p0
      have p1 := (hbx.cell (p := ⟨hb, 1, none⟩) l0).trans p1
      have o0 := (hbx.cell (p := ⟨w.heap.size, 0, none⟩) lo).trans o0
      have o2 := (hbx.cell (p := ⟨w.heap.size, 2, none⟩) lo).trans o2
      have o3 := (hbx.cell (p := ⟨w.heap.size, 3, none⟩) lo).trans o3
      have o4 := (hbx.cell (p := ⟨w.heap.size, 4, none⟩) lo).trans o4
      have o5 := (hbx.cell (p := ⟨w.heap.size, 5, none⟩) lo).trans o5
      have l0 : hb < w3.heap.size := Nat.lt_of_lt_of_le l0 hbx.size
      have lo : w.heap.size < w3.heap.size := Nat.lt_of_lt_of_le lo hbx.size
      clear hbx
      have HIw : Hid (∀ W, Below w3.heap.size w3 W → Ints Y1 W (.slice wa wn wc) wd) := fun W hW => (Hw.out.more HXs.out).below (HBw3.out.trans (hW.mono HBw3.out.size)) (Nat.le_refl _)
      have HIp : Hid (∀ W, Below w3.heap.size w3 W → Ints Y1 W (.slice pa pn pc) pd) := fun W hW => (Hp.out.more HXs.out).below (HBw3.out.trans (hW.mono HBw3.out.size)) (Nat.le_refl _)
      go_upto_region 17 with fail
      go_cut [8, 9] (fun v u wx => Ints Y1 wx v (wd.take 5) ∧ Ints Y1 wx u (pd.take 5) ∧ Below w3.heap.size w3 wx)
      case first =>
        go_region_held3 (fun w' => w'.cell? ⟨w.heap.size, 4, none⟩ = some (.slice wa wn wc) ∧ w'.cell? ⟨w.heap.size, 5, none⟩ = some (.slice pa pn pc)) (go_keep)
          (first
            | (go_at_call_of 15 (Value.slice wa wn wc); refine (cut_walk (HIw.out _ (by exact ⟨rfl, rfl, rfl, Nat.le_refl _, fun _ _ => rfl⟩)) Hwz.out hwl).mono ?_; rintro e w' ⟨u1, rfl, hu1, _, rfl⟩)
            | (go_at_call_of 15 (Value.slice pa pn pc); refine (cut_walk (HIp.out _ (by exact ⟨rfl, rfl, rfl, Nat.le_refl _, fun _ _ => rfl⟩)) Hpz.out hpl).mono ?_; rintro e w' ⟨u2, rfl, hu2, _, rfl⟩))
        all_goals (try go_wp2_with fail)
        all_goals go_meet
        all_goals exact ⟨hu1, hu2, (by exact ⟨rfl, rfl, rfl, Nat.le_refl _, fun _ _ => rfl⟩)⟩
      case rest =>
        obtain ⟨hu1, hu2, hbx⟩ := hcut
        have Hu1 := hideIt hu1
        have Hu2 := hideIt hu2
        obtain ⟨ua1, uc1, e8, _, _, _⟩ := hu1
        subst e8
        obtain ⟨ua2, uc2, e9, _, _, _⟩ := hu2
        subst e9
        obtain ⟨w4, hW⟩ : ∃ W, W = wc := ⟨_, rfl⟩
        subst hW
        have HTw4 := hideIt (HTw3.out.below hbx)
        have HBw4 := hideIt (HBw3.out.trans (hbx.mono HBw3.out.size))
        have HCw4 := hideIt (HCw3.out.trans (hbx.mono HCw3.out.size))
        have p0 := (hbx.cell (p := ⟨hb, 0, none⟩) l0).trans p0
        have p1 := (hbx.cell (p := ⟨hb, 1, none⟩) l0).trans p1
        have o0 := (hbx.cell (p := ⟨w.heap.size, 0, none⟩) lo).trans o0
        have o2 := (hbx.cell (p := ⟨w.heap.size, 2, none⟩) lo).trans o2
        have o3 := (hbx.cell (p := ⟨w.heap.size, 3, none⟩) lo).trans o3
        have o4 := (hbx.cell (p := ⟨w.heap.size, 4, none⟩) lo).trans o4
        have o5 := (hbx.cell (p := ⟨w.heap.size, 5, none⟩) lo).trans o5
        have l0 : hb < w4.heap.size := Nat.lt_of_lt_of_le l0 hbx.size
        have lo : w.heap.size < w4.heap.size := Nat.lt_of_lt_of_le lo hbx.size
        clear hbx HIw HIp o4 o5
        have HT := HTw4
        have HBop := HCw4
        have qf0 : 0 ≤ ob % 6 := Int.emod_nonneg _ (by omega)
        have qf1 : ob % 6 ≤ 5 := by have := Int.emod_lt_of_pos ob (show (0 : Int) < 6 by omega); omega
        have qg0 : 0 ≤ oc % 6 := Int.emod_nonneg _ (by omega)
        have qg1 : oc % 6 ≤ 5 := by have := Int.emod_lt_of_pos oc (show (0 : Int) < 6 by omega); omega
        have HF6b := hideIt (fun W => fold_walk ob 6 (by decide) (by decide) W)
        have HF6c := hideIt (fun W => fold_walk oc 6 (by decide) (by decide) W)
        obtain ⟨lo6, hlo6⟩ : ∃ m, ob % 6 = m := ⟨_, rfl⟩
        obtain ⟨hi6, hhi6⟩ : ∃ m, oc % 6 = m := ⟨_, rfl⟩
        rw [hlo6] at qf0 qf1
        rw [hhi6] at qg0 qg1
        have Hlo6 := hideIt hlo6
        have Hhi6 := hideIt hhi6
        clear hlo6 hhi6
        have HNF : Hid (nfK 13 oa ob oc B regs = loopN B x lo6 hi6) := by show _ = _; rw [nfK13, Hx.out, Hlo6.out, Hhi6.out]
        have hopA : w.heap.size ≠ ab := by have := Hla.out; omega
        have hopN : w.heap.size ≠ nb := by have := Hln.out; omega
        have hopH : w.heap.size ≠ hb := by omega
        have hopR : w.heap.size ≠ rb := fun e => by
          obtain ⟨rv', q1, q2⟩ := HT.out.mo.reg
          have q3 := box_cell q1 1
          rw [p1] at q3
          simp only [List.getElem?_toArray, List.getElem?_cons_zero, List.getElem?_cons_succ, Option.some.injEq] at q3
          rcases q2 with ⟨q2, _⟩ | ⟨rb', off', cap', cells, q2, _, _, hh, _⟩
          · rw [q2] at q3; cases q3
          · rw [q2] at q3
            simp only [Value.slice.injEq, Option.some.injEq, Addr.mk.injEq] at q3
            have q4 := (HBop.out.block w.heap.size (heap_lt Hop.out)).trans Hop.out
            rw [e, q3.1.1, hh] at q4
            simp at q4
        have hF2 : ¬ (w.heap.size = ab ∨ w.heap.size = nb) := fun q => q.elim hopA hopN
        have hH2 : ¬ (hb = ab ∨ hb = nb) := fun q => q.elim HT.out.mo.ha HT.out.mo.hn
        go_upto_region 39 with fail
        go_region_held3 (fun w' => w'.cell? ⟨w.heap.size, 2, none⟩ = some (.int .i64 ob) ∧ w'.cell? ⟨w.heap.size, 3, none⟩ = some (.int .i64 oc)) (go_keep) (first
          | (go_at_call_of 46 (Value.int IntKind.i64 ob); refine (HF6b.out _).mono ?_; rintro e w' ⟨rfl, rfl⟩; rw [Hlo6.out])
          | (go_at_call_of 46 (Value.int IntKind.i64 oc); refine (HF6c.out _).mono ?_; rintro e w' ⟨rfl, rfl⟩; rw [Hhi6.out])
          | (go_at_call 107; refine (loop_walkN (HT.out.below (by exact ⟨rfl, rfl, rfl, Nat.le_refl _, fun _ _ => rfl⟩)).mo.st (Int.le_refl _) Sx.out.1 qf0 qf1 (Int.le_trans (by decide) qg0) qg1).mono ?_; rintro e w5 ⟨Y5, nb5, B5, z, ev, hG, rfl, hh⟩; have HS5 := hideIt (HT.out.made (by exact ⟨rfl, rfl, rfl, Nat.le_refl _, fun _ _ => rfl⟩) hG); have HLe := hideIt hG.le; have HWf5 := hideIt hG.st.ar.wf; have HH : Hid ((ev = .nilIface ∧ Val B5 (loopN B x lo6 hi6) z ∧ Add B B5 (loopN B x lo6 hi6)) ∨ ((∃ t v, ev = .iface t v) ∧ z = 0 ∧ (65536 : Int) ≤ B5.length ∧ B5 = B ∧ NoVal B (loopN B x lo6 hi6))) := (hh.imp id (fun q => ⟨q.1, q.2.1, q.2.2.1.1, q.2.2.2⟩)); have HZ : Hid ((ev = .nilIface ∧ Valid B5 z ∧ sz B5 z ≤ 100) ∨ ∃ t v, ev = .iface t v) := (HH.out.imp (fun q => ⟨q.1, q.2.1.valid, (Nat.le_trans (mk_loop Hwf.out Sx.out HLe.out HWf5.out q.2.1) (by decide))⟩) (fun q => q.1)); have u2 := (hG.ext.cell (p := ⟨w.heap.size, 2, none⟩) lo hF2).trans o2; have u3 := (hG.ext.cell (p := ⟨w.heap.size, 3, none⟩) lo hF2).trans o3; have u1 := hideIt ((hG.ext.cell (p := ⟨hb, 1, none⟩) l0 hH2).trans p1); have lo5 := Nat.lt_of_lt_of_le lo hG.ext.size; clear hG hh)
          | (go_at_call 99; refine (keep_any HS5.out.mo hl HZ.out).mono ?_; rintro e wk hkp; have hE9 := kp_ext hkp; have hT9 : ¬ Th w5 hb w.heap.size := (fun q => th_op q hopH u1.out hopR); have y2 := (hE9.cell (p := ⟨w.heap.size, 2, none⟩) lo5 hT9).trans u2; have y3 := (hE9.cell (p := ⟨w.heap.size, 3, none⟩) lo5 hT9).trans u3; clear hE9 hT9; obtain ⟨Y9, regs9, b0, b2, rfl, hR9, hl9, hS9⟩ := HS5.out.kept (Below.refl _ _) hkp; have HS9 := hideIt hS9; have HR9 := hideIt hR9; obtain ⟨q0, q1, q2, q3, q4, ⟨c0, c1, c2, c3, c4⟩, fz⟩ := hS9.rcells; have f0 := fz 0; have f1 := fz 1; have f2 := fz 2; have f3 := fz 3; have f4 := fz 4; clear fz hS9 hR9 hkp))
        all_goals (try go_wp2_with fail)
        all_goals (have Hd := hideIt (HS9.out.done (R := Mend 13 oa ob oc B regs) hl9 (.bool b0) (.bool false) (.bool b2) (.bool false) (.int .i64 0) (mend13 HNF.out HH.out HR9.out)))
        all_goals refine bodyPost_ret (v := .agg #[.bool b0, .bool false, .bool b2, .bool false, .int .i64 0]) ?_ rfl (by exact Hd.out.1)
        all_goals exact results_cell_row (by exact Tryz.results62) _ _ (w.heap.size + 1) _ _ _ _ (by rfl) (by exact Hd.out.2) Tryz.underlying95 rfl (by kernel_rfl)
end Go.Proofs.Qxb6500848aGreatDoor
