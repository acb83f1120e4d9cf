/-
  The walk of build, kind by kind.
-/
import Derived.Test.Qxb6500848aGreatDoorBsB
namespace Go.Proofs.Qxb6500848aGreatDoor
open Go.RowKit Pl Go.Maps
set_option maxRecDepth 100000

set_option maxHeartbeats 4000000 in
theorem buildS6 {X : Nat → Prop} {w : World} {kb eb mb ab nb : Nat} {A : List Nd} {regs : List Int} (hM : Mc X w kb eb mb ab nb 65536 A regs) (hl : regs.length ≤ 8) (hne : regs ≠ []) {B0 : Nat} (hX : ∀ z, X z → B0 ≤ z) (hB : B0 ≤ w.heap.size) (oa ob oc o6 : Int) (wa pa : Option Addr) (wn wc pn pc : Nat) :
    Calls Tryz.prog 65 #[.pointer (some ⟨kb, 0, none⟩), .agg #[.int .i64 6, .int .i64 oa, .int .i64 ob, .int .i64 oc, .slice wa wn wc, .slice pa pn pc, .int .i64 o6]] w (BuPost (Tb w kb mb ab nb) (Bend (Bz 6 oa ob oc A regs) regs) X A B0 kb eb mb ab w) := by
  obtain ⟨rv, k0, k1, k2, hR⟩ := hM.cells
  have HM := hideIt hM
  have lk := hM.lk
  have hrl : ∃ ra rc, rv = .slice ra regs.length rc := by
    rcases hR with ⟨e, e2⟩ | ⟨rb, off, cap, _, e, _⟩
    · exact ⟨none, 0, by rw [e, e2]; rfl⟩
    · exact ⟨_, cap, e⟩
  obtain ⟨ra, rc, rfl⟩ := hrl
  clear hM hR

  have Hne := hideIt hne
  have hpos : 0 < regs.length := List.length_pos_iff.2 hne
  have hb0 : ((regs.length : Int) == 0) = false := by rw [beq_eq_false_iff_ne]; omega
  have Hl9 : Hid (regs.length ≤ 9) := by show _ ≤ _; omega
  clear hne hpos
  have na : w.heap.size ≠ ab := by have := HM.out.en.st.ar.la; omega
  have nn : w.heap.size ≠ nb := by have := HM.out.en.st.xlt nb HM.out.en.st.ar.xn; omega
  go_enter Tryz.func65, Tryz.ntmps65
  go_wp2_with fail
  have HT0 := hideIt (BTS.start HM.out hX hB (.cells #[.int .i64 6, .int .i64 oa, .int .i64 ob, .int .i64 oc, .slice wa wn wc, .slice pa pn pc, .int .i64 o6] 31))

  have hc : ((w.alloc (.cells #[.int .i64 6, .int .i64 oa, .int .i64 ob, .int .i64 oc, .slice wa wn wc, .slice pa pn pc, .int .i64 o6] 31)).alloc (.cells #[.bool false, .bool false, .bool false, .bool false, .int .i64 0] 95)).cell? ⟨kb, 0, none⟩ = some (.pointer (some ⟨ab, 0, none⟩)) ∧ ((w.alloc (.cells #[.int .i64 6, .int .i64 oa, .int .i64 ob, .int .i64 oc, .slice wa wn wc, .slice pa pn pc, .int .i64 o6] 31)).alloc (.cells #[.bool false, .bool false, .bool false, .bool false, .int .i64 0] 95)).cell? ⟨w.heap.size, 1, none⟩ = some (.int .i64 oa) ∧ ((w.alloc (.cells #[.int .i64 6, .int .i64 oa, .int .i64 ob, .int .i64 oc, .slice wa wn wc, .slice pa pn pc, .int .i64 o6] 31)).alloc (.cells #[.bool false, .bool false, .bool false, .bool false, .int .i64 0] 95)).cell? ⟨w.heap.size, 2, none⟩ = some (.int .i64 ob) ∧ ((w.alloc (.cells #[.int .i64 6, .int .i64 oa, .int .i64 ob, .int .i64 oc, .slice wa wn wc, .slice pa pn pc, .int .i64 o6] 31)).alloc (.cells #[.bool false, .bool false, .bool false, .bool false, .int .i64 0] 95)).cell? ⟨w.heap.size, 3, none⟩ = some (.int .i64 oc) := op_cells k0 lk _ _ _ _ _ _ _ _ _
  generalize hWW : ((w.alloc (.cells #[.int .i64 6, .int .i64 oa, .int .i64 ob, .int .i64 oc, .slice wa wn wc, .slice pa pn pc, .int .i64 o6] 31)).alloc (.cells #[.bool false, .bool false, .bool false, .bool false, .int .i64 0] 95)) = w1 at *
  have HT : Hid (BTS (Tb w kb mb ab nb) X A w kb eb mb ab regs B0 (fun b => X b ∨ b = w.heap.size + 1) w1 nb A) := HT0.out
  generalize (fun b => X b ∨ b = w.heap.size + 1) = X1 at *
  clear HT0 hWW k0 k1 k2 HM
  have KP : Hid (∀ (W w2 : World) (X' : Nat → Prop) (nb' : Nat) (A' : List Nd), Grow X1 W ab nb 65536 A X' w2 nb' A' → Below w1.heap.size w1 W → (w2.cell? ⟨kb, 0, none⟩ = some (.pointer (some ⟨ab, 0, none⟩)) ∧ w2.cell? ⟨w.heap.size, 1, none⟩ = some (.int .i64 oa) ∧ w2.cell? ⟨w.heap.size, 2, none⟩ = some (.int .i64 ob) ∧ w2.cell? ⟨w.heap.size, 3, none⟩ = some (.int .i64 oc))) := fun W w2 X' nb' A' g hW => HT.out.keep4 na nn hc g hW
  have KB : Hid (∀ (W : World), Below w1.heap.size w1 W → (W.cell? ⟨kb, 0, none⟩ = some (.pointer (some ⟨ab, 0, none⟩)) ∧ W.cell? ⟨w.heap.size, 1, none⟩ = some (.int .i64 oa) ∧ W.cell? ⟨w.heap.size, 2, none⟩ = some (.int .i64 ob) ∧ W.cell? ⟨w.heap.size, 3, none⟩ = some (.int .i64 oc))) := fun W hW => HT.out.keepB hc hW
  obtain ⟨hc0, hc1, hc2, hc3⟩ := hc
  go_region_held3 (fun w' => w'.cell? ⟨kb, 0, none⟩ = some (.pointer (some ⟨ab, 0, none⟩)) ∧ w'.cell? ⟨w.heap.size, 1, none⟩ = some (.int .i64 oa) ∧ w'.cell? ⟨w.heap.size, 2, none⟩ = some (.int .i64 ob) ∧ w'.cell? ⟨w.heap.size, 3, none⟩ = some (.int .i64 oc)) (first | (exact KP.out _ _ _ _ _ hG (Below.trans (by exact ⟨rfl, rfl, rfl, Nat.le_refl _, fun _ _ => rfl⟩) (Below.trans (alloc_below _) (by exact ⟨rfl, rfl, rfl, Nat.le_refl _, fun _ _ => rfl⟩)))) | (exact KB.out _ (Below.trans (by exact ⟨rfl, rfl, rfl, Nat.le_refl _, fun _ _ => rfl⟩) (Below.trans (alloc_below _) (by exact ⟨rfl, rfl, rfl, Nat.le_refl _, fun _ _ => rfl⟩)))) | go_keep)
    (first
      | (go_at_call_of 67 (Value.int IntKind.i64 oa); refine (reg_walkD (HT.out.below' (by exact ⟨rfl, rfl, rfl, Nat.le_refl _, fun _ _ => rfl⟩)).mc Hne.out Hl9.out oa).mono ?_; rintro e w' ⟨r, hr, er', rfl, rfl⟩; have er : Hid (r = rg regs oa) := er'; clear er')
      | (go_at_call_of 67 (Value.int IntKind.i64 ob); refine (reg_walkD (HT.out.below' (by exact ⟨rfl, rfl, rfl, Nat.le_refl _, fun _ _ => rfl⟩)).mc Hne.out Hl9.out ob).mono ?_; rintro e w' ⟨s, hs, es', rfl, rfl⟩; have es : Hid (s = rg regs ob) := es'; clear es')
      | (go_at_call 103; refine (((union_walk (xs := [r, s]) (HT.out.below' (Below.trans (by exact ⟨rfl, rfl, rfl, Nat.le_refl _, fun _ _ => rfl⟩) (Below.trans (alloc_below _) (by exact ⟨rfl, rfl, rfl, Nat.le_refl _, fun _ _ => rfl⟩)))).mc.en.st (Int.le_refl _) (by exact ints_new (t := 28) (HT.out.below' (by exact ⟨rfl, rfl, rfl, Nat.le_refl _, fun _ _ => rfl⟩)).mc.en.st.xlt [r, s] (by show 2 ≤ maxLen; unfold maxLen; omega)) (by intro x hx; rcases List.mem_cons.1 hx with hx | hx; exact hx ▸ hr.1; exact (List.mem_singleton.1 hx) ▸ hs.1) (by show 2 ≤ 65536; decide)).mono (fun _ _ h => h.mvN (n := 100) (fun q1 q2 q3 => mk_union HT.out.mc.en.st.ar.wf hr hs q1 q2 q3))).mono ?_); rintro e w2 ⟨X', nb', A', z, ev, hG, rfl, hh⟩))
  all_goals
    have HT2 : Hid (BTS (Tb w kb mb ab nb) X A w kb eb mb ab regs B0 X' w2 nb' A') := HT.out.made hG (Below.trans (by exact ⟨rfl, rfl, rfl, Nat.le_refl _, fun _ _ => rfl⟩) (Below.trans (alloc_below _) (by exact ⟨rfl, rfl, rfl, Nat.le_refl _, fun _ _ => rfl⟩)))
    rcases hh with ⟨rfl, hz, hv⟩ | ⟨⟨t0, v0, rfl⟩, _⟩
    · have Hz := hideIt hz
      have HZ : Hid (Bz 6 oa ob oc A regs A' z) := by show Val A' (unionN A [_, _]) z; rw [← er.out, ← es.out]; exact hv
      clear hz hv HT KP KB hG hc0 hc1 hc2 hc3
      go_wp2_with fail
      go_at_call 112
      refine (size_walk HT2.out.mc.en.st _ z rfl Hz.out.1 (by have := Hz.out.2; omega)).mono ?_
      rintro e wS ⟨rfl, hwS⟩
      obtain ⟨n, hsn⟩ : ∃ n : Nat, n = sz A' z := ⟨_, rfl⟩
      rw [← hsn]
      have hn100 : n ≤ 100 := by rw [hsn]; exact Hz.out.2
      have Hsm : Hid (n ≤ 18 → Sm A' z) := fun h => ⟨Hz.out.1, by rw [← hsn]; exact h⟩
      have HRf : Hid (18 < n → Bend (Bz 6 oa ob oc A regs) regs A' regs false false) := fun h => Or.inr ⟨rfl, z, HZ.out, Or.inr ⟨by rw [← hsn]; exact h, rfl, rfl⟩⟩
      have HRn : Hid (n ≤ 18 → regs.length ≠ 8 → Bend (Bz 6 oa ob oc A regs) regs A' (regs ++ [z]) true false) := fun h h8 => Or.inr ⟨rfl, z, HZ.out, Or.inl ⟨by rw [← hsn]; exact h, rfl, (if_neg h8).symm⟩⟩
      have HRt : Hid (n ≤ 18 → regs.length = 8 → Bend (Bz 6 oa ob oc A regs) regs A' (regs ++ [z]).tail true false) := fun h h8 => Or.inr ⟨rfl, z, HZ.out, Or.inl ⟨by rw [← hsn]; exact h, rfl, (if_pos h8).symm⟩⟩
      clear hsn
      obtain rfl := hwS.symm
      obtain ⟨q0, q1, q2, q3, q4, ⟨c0, c1, c2, c3, c4⟩, fz⟩ := HT2.out.rcells
      have f0 := fz 0
      have f1 := fz 1
      have f2 := fz 2
      have f3 := fz 3
      have f4 := fz 4
      clear fz
      by_cases hs : (18 : Int) < (n : Int)
      · go_wp2_with fail
        have Hd := hideIt ((HT2.out).doneS (R := Bend (Bz 6 oa ob oc A regs) regs) hl false false (HRf.out (by omega)))
        refine bodyPost_ret (v := .agg #[.bool false, .bool false, .bool false, .bool false, .int .i64 0]) ?_ rfl (by exact Hd.out.1)
        exact results_cell_row (by exact Tryz.results65) _ _ (w.heap.size + 1) _ _ _ _ (by rfl) (by exact Hd.out.2) Tryz.underlying95 rfl (by kernel_rfl)
      · have Hs := hideIt (Hsm.out (by omega))
        obtain ⟨rv1, k0, _, k2, hR1⟩ := HT2.out.mc.cells
        have kz := HT2.out.kfz
        have l1 : kb < w2.heap.size := HT2.out.mc.lk
        have l2 : w.heap.size + 1 < w2.heap.size := HT2.out.lt
        have HA : Hid (Below w2.heap.size w2 (w2.alloc (.cells #[.int .i64 z] 28))) := alloc_below _
        obtain ⟨i0, hi0, hz0, hz1, hz2⟩ := info_parts info_id
        have HR1 := hideIt hR1
        rcases hR1 with ⟨rfl, rfl⟩ | ⟨rb, off, cap, cells, rfl, xr, ⟨n1, n2, n3, n4⟩, hh, r1, r2, r3, r4⟩
        · exact absurd rfl Hne.out
        · obtain ⟨m, hm⟩ : ∃ m, m = regs.length := ⟨_, rfl⟩
          rw [← hm] at HR1 k2 hl r2
          have Hm := hideIt hm
          obtain ⟨hag, hsp⟩ := HR1.out.arg hm HA.out
          have Hag := hideIt hag
          have Hsp := hideIt hsp
          have lr := heap_lt hh
          clear hag hsp r1 r4 hh hm
          have n5 : rb ≠ w.heap.size + 1 := HT2.out.sp.dr rb off _ cap k2
          by_cases h8 : m = 8
          · have Hl : Hid ((regs ++ [z]).tail.length ≤ 8) := by
              have := Hm.out
              show _ ≤ _
              simp
              omega
            subst h8
            go_wp2_with (at_builtin; refine wpList_append_arg _ rfl (.tmp 251) (.tmp 253) 37 rfl 28 i0 (.int .i64 0) 1 8 Tryz.underlying37 hi0 hz0 hz1 hz2 rfl (by decide) rb off 8 cap (regs.map encI) rfl (by have := Hm.out; rw [List.length_map]; omega) (by exact Hag.out) ⟨w2.heap.size, 0, none⟩ 1 1 [encI z] rfl rfl (World.news_of_block (cs := #[.int .i64 z]) (t := 28) (fr := (0, 0)) (heap_new _ _)) (one_ints [z]) (by exact Hsp.out) (by unfold maxLen; omega) (by omega) ?room ?grow)
            case room =>
              intro hroom
              rw [show ∀ (W : World) (b o : Nat) (v : Value), W.setCells b o [v] = W.setCell ⟨b, o, none⟩ v from fun _ _ _ _ => rfl]
              have HB := HT2.out.roomed HA.out Hm.out k2 HR1.out hroom Hs.out
              (have hbel := HA.out; have k2' := (hbel.cell (p := ⟨kb, 2, none⟩) l1).trans k2; have kz' := (hbel.frozen (p := ⟨kb, 2, none⟩) l1).trans kz; have c0' := (hbel.cell (p := ⟨w.heap.size + 1, 0, none⟩) l2).trans c0; have c1' := (hbel.cell (p := ⟨w.heap.size + 1, 1, none⟩) l2).trans c1; have c2' := (hbel.cell (p := ⟨w.heap.size + 1, 2, none⟩) l2).trans c2; have c3' := (hbel.cell (p := ⟨w.heap.size + 1, 3, none⟩) l2).trans c3; have c4' := (hbel.cell (p := ⟨w.heap.size + 1, 4, none⟩) l2).trans c4; have f0' := (hbel.frozen (p := ⟨w.heap.size + 1, 0, none⟩) l2).trans f0; have f1' := (hbel.frozen (p := ⟨w.heap.size + 1, 1, none⟩) l2).trans f1; have f2' := (hbel.frozen (p := ⟨w.heap.size + 1, 2, none⟩) l2).trans f2; have f3' := (hbel.frozen (p := ⟨w.heap.size + 1, 3, none⟩) l2).trans f3; have f4' := (hbel.frozen (p := ⟨w.heap.size + 1, 4, none⟩) l2).trans f4; clear hbel)
              have HF := BTS.forgot Hm.out HB.out (by omega) ⟨_, by rw [World.cell?_setCell_other _ _ _ _ (by intro e; exact n1 (congrArg Addr.block e))]; exact k2'⟩
              generalize w2.alloc (.cells #[.int .i64 z] 28) = wA at *
              go_wp2_with fail
              have Hd := hideIt ((HF.out).doneS (R := Bend (Bz 6 oa ob oc A regs) regs) Hl.out true false (HRt.out (by omega) Hm.out.symm))
              refine bodyPost_ret (v := .agg #[.bool true, .bool false, .bool false, .bool false, .int .i64 0]) ?_ rfl (by exact Hd.out.1)
              exact results_cell_row (by exact Tryz.results65) _ _ (w.heap.size + 1) _ _ _ _ (by rfl) (by exact Hd.out.2) Tryz.underlying95 rfl (by kernel_rfl)

            case grow =>
              intro hgrow v' w3 hown hg
              (obtain ⟨g, cap', X', rfl, g1, g2, hbel, HB⟩ := HT2.out.appended HA.out Hm.out (by first | exact hown | (rw [Deep.nblk_alloc]; exact hown)) (by exact hg) Hs.out; have k2' := (hbel.cell (p := ⟨kb, 2, none⟩) l1).trans k2; have kz' := (hbel.frozen (p := ⟨kb, 2, none⟩) l1).trans kz; have c0' := (hbel.cell (p := ⟨w.heap.size + 1, 0, none⟩) l2).trans c0; have c1' := (hbel.cell (p := ⟨w.heap.size + 1, 1, none⟩) l2).trans c1; have c2' := (hbel.cell (p := ⟨w.heap.size + 1, 2, none⟩) l2).trans c2; have c3' := (hbel.cell (p := ⟨w.heap.size + 1, 3, none⟩) l2).trans c3; have c4' := (hbel.cell (p := ⟨w.heap.size + 1, 4, none⟩) l2).trans c4; have f0' := (hbel.frozen (p := ⟨w.heap.size + 1, 0, none⟩) l2).trans f0; have f1' := (hbel.frozen (p := ⟨w.heap.size + 1, 1, none⟩) l2).trans f1; have f2' := (hbel.frozen (p := ⟨w.heap.size + 1, 2, none⟩) l2).trans f2; have f3' := (hbel.frozen (p := ⟨w.heap.size + 1, 3, none⟩) l2).trans f3; have f4' := (hbel.frozen (p := ⟨w.heap.size + 1, 4, none⟩) l2).trans f4; clear hown hg hbel)

              have HF := BTS.forgot Hm.out HB.out (by omega) ⟨_, k2'⟩
              go_wp2_with fail
              have Hd := hideIt ((HF.out).doneS (R := Bend (Bz 6 oa ob oc A regs) regs) Hl.out true false (HRt.out (by omega) Hm.out.symm))
              refine bodyPost_ret (v := .agg #[.bool true, .bool false, .bool false, .bool false, .int .i64 0]) ?_ rfl (by exact Hd.out.1)
              exact results_cell_row (by exact Tryz.results65) _ _ (w.heap.size + 1) _ _ _ _ (by rfl) (by exact Hd.out.2) Tryz.underlying95 rfl (by kernel_rfl)

          · have Hl : Hid ((regs ++ [z]).length ≤ 8) := by
              have := Hm.out
              show _ ≤ _
              simp
              omega
            have h8' : (m : Int) + 1 ≤ 8 := by omega
            go_wp2_with (at_builtin; refine wpList_append_arg _ rfl (.tmp 251) (.tmp 253) 37 rfl 28 i0 (.int .i64 0) 1 8 Tryz.underlying37 hi0 hz0 hz1 hz2 rfl (by decide) rb off m cap (regs.map encI) rfl (by have := Hm.out; rw [List.length_map]; omega) (by exact Hag.out) ⟨w2.heap.size, 0, none⟩ 1 1 [encI z] rfl rfl (World.news_of_block (cs := #[.int .i64 z]) (t := 28) (fr := (0, 0)) (heap_new _ _)) (one_ints [z]) (by exact Hsp.out) (by unfold maxLen; omega) (by omega) ?room ?grow)
            case room =>
              intro hroom
              rw [show ∀ (W : World) (b o : Nat) (v : Value), W.setCells b o [v] = W.setCell ⟨b, o, none⟩ v from fun _ _ _ _ => rfl]
              have HB := HT2.out.roomed HA.out Hm.out k2 HR1.out hroom Hs.out
              (have hbel := HA.out; have k2' := (hbel.cell (p := ⟨kb, 2, none⟩) l1).trans k2; have kz' := (hbel.frozen (p := ⟨kb, 2, none⟩) l1).trans kz; have c0' := (hbel.cell (p := ⟨w.heap.size + 1, 0, none⟩) l2).trans c0; have c1' := (hbel.cell (p := ⟨w.heap.size + 1, 1, none⟩) l2).trans c1; have c2' := (hbel.cell (p := ⟨w.heap.size + 1, 2, none⟩) l2).trans c2; have c3' := (hbel.cell (p := ⟨w.heap.size + 1, 3, none⟩) l2).trans c3; have c4' := (hbel.cell (p := ⟨w.heap.size + 1, 4, none⟩) l2).trans c4; have f0' := (hbel.frozen (p := ⟨w.heap.size + 1, 0, none⟩) l2).trans f0; have f1' := (hbel.frozen (p := ⟨w.heap.size + 1, 1, none⟩) l2).trans f1; have f2' := (hbel.frozen (p := ⟨w.heap.size + 1, 2, none⟩) l2).trans f2; have f3' := (hbel.frozen (p := ⟨w.heap.size + 1, 3, none⟩) l2).trans f3; have f4' := (hbel.frozen (p := ⟨w.heap.size + 1, 4, none⟩) l2).trans f4; clear hbel)
              generalize w2.alloc (.cells #[.int .i64 z] 28) = wA at *
              go_wp2_with fail
              have Hd := hideIt ((HB.out).doneS (R := Bend (Bz 6 oa ob oc A regs) regs) Hl.out true false (HRn.out (by omega) (by have := Hm.out; omega)))
              refine bodyPost_ret (v := .agg #[.bool true, .bool false, .bool false, .bool false, .int .i64 0]) ?_ rfl (by exact Hd.out.1)
              exact results_cell_row (by exact Tryz.results65) _ _ (w.heap.size + 1) _ _ _ _ (by rfl) (by exact Hd.out.2) Tryz.underlying95 rfl (by kernel_rfl)

            case grow =>
              intro hgrow v' w3 hown hg
              (obtain ⟨g, cap', X', rfl, g1, g2, hbel, HB⟩ := HT2.out.appended HA.out Hm.out (by first | exact hown | (rw [Deep.nblk_alloc]; exact hown)) (by exact hg) Hs.out; have k2' := (hbel.cell (p := ⟨kb, 2, none⟩) l1).trans k2; have kz' := (hbel.frozen (p := ⟨kb, 2, none⟩) l1).trans kz; have c0' := (hbel.cell (p := ⟨w.heap.size + 1, 0, none⟩) l2).trans c0; have c1' := (hbel.cell (p := ⟨w.heap.size + 1, 1, none⟩) l2).trans c1; have c2' := (hbel.cell (p := ⟨w.heap.size + 1, 2, none⟩) l2).trans c2; have c3' := (hbel.cell (p := ⟨w.heap.size + 1, 3, none⟩) l2).trans c3; have c4' := (hbel.cell (p := ⟨w.heap.size + 1, 4, none⟩) l2).trans c4; have f0' := (hbel.frozen (p := ⟨w.heap.size + 1, 0, none⟩) l2).trans f0; have f1' := (hbel.frozen (p := ⟨w.heap.size + 1, 1, none⟩) l2).trans f1; have f2' := (hbel.frozen (p := ⟨w.heap.size + 1, 2, none⟩) l2).trans f2; have f3' := (hbel.frozen (p := ⟨w.heap.size + 1, 3, none⟩) l2).trans f3; have f4' := (hbel.frozen (p := ⟨w.heap.size + 1, 4, none⟩) l2).trans f4; clear hown hg hbel)

              go_wp2_with fail
              have Hd := hideIt ((HB.out).doneS (R := Bend (Bz 6 oa ob oc A regs) regs) Hl.out true false (HRn.out (by omega) (by have := Hm.out; omega)))
              refine bodyPost_ret (v := .agg #[.bool true, .bool false, .bool false, .bool false, .int .i64 0]) ?_ rfl (by exact Hd.out.1)
              exact results_cell_row (by exact Tryz.results65) _ _ (w.heap.size + 1) _ _ _ _ (by rfl) (by exact Hd.out.2) Tryz.underlying95 rfl (by kernel_rfl)

    · obtain ⟨q0, q1, q2, q3, q4, ⟨c0, c1, c2, c3, c4⟩, fz⟩ := HT2.out.rcells
      have f0 := fz 0
      have f1 := fz 1
      have f2 := fz 2
      have f3 := fz 3
      have f4 := fz 4
      clear fz HT KP KB hG hc0 hc1 hc2 hc3
      go_wp2_with fail
      have Hd := hideIt ((HT2.out).doneS (R := Bend (Bz 6 oa ob oc A regs) regs) hl false true (Or.inl ⟨rfl, rfl, rfl⟩))
      refine bodyPost_ret (v := .agg #[.bool false, .bool false, .bool true, .bool false, .int .i64 0]) ?_ rfl (by exact Hd.out.1)
      exact results_cell_row (by exact Tryz.results65) _ _ (w.heap.size + 1) _ _ _ _ (by rfl) (by exact Hd.out.2) Tryz.underlying95 rfl (by kernel_rfl)
end Go.Proofs.Qxb6500848aGreatDoor
