/-
  subjects with the check of AntimirovAgrees.
-/
import Derived.Test.Qxb6500848aGreatDoorRunN
import Derived.Test.Qxb6500848aGreatDoorAmA
namespace Go.Proofs.Qxb6500848aGreatDoor
open Go.RowKit Pl Go.Maps
set_option maxRecDepth 100000

set_option maxHeartbeats 8000000 in
theorem subjects_am (w : World) (hg : Gd tabC w) (he : Ge w) {ad : Addr} (hn0 : Gp w ad) (a0 : Option Addr) (b off n cap : Nat) (f : Nat → OpV) (hn : n ≤ 65536) (ha : 0 < n → a0 = some ⟨b, off, none⟩) (hf : ∀ i, i < n → OpAt w b (off + i * 7) (f i)) (hs : ∀ i, i < n → (f i).wd.length ≤ 65536 ∧ (f i).pd.length ≤ 65536) :
    Calls Tryz.prog 12 #[.slice a0 n cap, .func (.func 28) #[] #[]] w fun e w' => e = .returned (.bool true) ∧ Below w.heap.size w w' := by
  have HF : Hid (∀ i, i < n → OpAt w b (off + i * 7) (f i)) := hf
  have HA : Hid (0 < n → a0 = some ⟨b, off, none⟩) := ha
  have HS : Hid (∀ i, i < n → (f i).wd.length ≤ 65536 ∧ (f i).pd.length ≤ 65536) := hs
  have Hg := hideIt hg
  have He := hideIt he
  have Hn0 : Hid (Gp w ad) := hn0
  have lgn : 1 < w.heap.size := cell_lt hn0
  have lgd : 3 < w.heap.size := cell_lt (hg 0 (by omega))
  clear hf ha hs hg he hn0
  obtain ⟨X0, nb0, hM0, hA0, hX0⟩ := mc_new2 He.out 65536
  have s1 : ∀ (W : World) (o : Obj), (W.alloc o).heap.size = W.heap.size + 1 := Deep.nblk_alloc
  have sn : (nw w 65536).heap.size = w.heap.size + 1 + 1 := by unfold nw; rw [s1, s1]
  have bn : Below w.heap.size w (nw w 65536) := (alloc_below _).trans ((alloc_below _).mono (by rw [s1]; omega))
  have be : Below (nw w 65536).heap.size (nw w 65536) (ew (nw w 65536) (w.heap.size + 1)) := ((((alloc_below _).trans ((alloc_below _).mono (by rw [s1]; omega))).trans ((alloc_below _).mono (by rw [s1, s1]; omega))).trans ((alloc_below _).mono (by rw [s1, s1, s1]; omega))).trans ((alloc_below _).mono (by rw [s1, s1, s1, s1]; omega))
  have HSL : Hid (SL w (ew (nw w 65536) (w.heap.size + 1)).heap.size ((nw w 65536).heap.size + 4) (nw w 65536).heap.size (w.heap.size + 1) ((ew (nw w 65536) (w.heap.size + 1)).alloc (.cells #[.pointer (some ⟨w.heap.size + 1, 0, none⟩), .pointer (some ⟨(nw w 65536).heap.size + 4, 0, none⟩), .slice none 0 0] 39))) :=
    ⟨X0, nb0, A0, [], hM0, hA0, by simp, hX0, (bn.trans (be.mono (by omega))).trans ((alloc_below _).mono (by have := be.size; omega))⟩
  have Hnm := hideIt (newMachine_walk w)
  have hfl := field_full
  clear hM0 hA0 hX0 bn be sn s1
  generalize (ew (nw w 65536) (w.heap.size + 1)).alloc (.cells #[.pointer (some ⟨w.heap.size + 1, 0, none⟩), .pointer (some ⟨(nw w 65536).heap.size + 4, 0, none⟩), .slice none 0 0] 39) = w0 at *
  generalize (ew (nw w 65536) (w.heap.size + 1)).heap.size = kb at *
  generalize (nw w 65536).heap.size + 4 = eb at *
  generalize (nw w 65536).heap.size = mb at *
  generalize w.heap.size + 1 = ab at *
  go_enter Tryz.func12, Tryz.ntmps12
  go_wp2_with (go_at_call 59; refine Hnm.out.mono ?_; rintro e w' ⟨rfl, rfl⟩)
  go_loopw [11] (fun i wr => ∃ k : Nat, k ≤ n ∧ i = .int .i64 k ∧ SL w kb eb mb ab wr) (fun i _ => n - (intOf i).toNat)
  case atStart => exact ⟨0, by omega, rfl, HSL.out⟩
  case round =>
    obtain ⟨k, hk, rfl, X, nb, A, regs, hM, hAx, hl, hX, hB⟩ := hrel
    by_cases hlt : k < n
    · have hlt' : (k : Int) < (n : Int) := by omega
      obtain rfl := HA.out (by omega)
      have hO := HF.out k hlt
      obtain ⟨z4, z5⟩ := HS.out k hlt
      generalize f k = o at hO z4 z5
      have kk : ∀ {p : Addr} {u : Value}, w.cell? p = some u → wr.cell? p = some u := fun {p u} e => (hB.cell (p := p) (cell_lt e)).trans e
      have c0 := kk hO.c0
      have c1 := kk hO.c1
      have c2 := kk hO.c2
      have c3 := kk hO.c3
      have c4 := kk hO.c4
      have c5 := kk hO.c5
      have c6 := kk hO.c6
      have lb : b < wr.heap.size := cell_lt c0
      clear kk
      have Hiw := hideIt hO.wi
      have Hip := hideIt hO.pi
      have Hzw := hideIt hO.wz
      have Hzp := hideIt hO.pz
      obtain ⟨rv, k0, k1, k2, hR⟩ := hM.cells
      have hrl : ∃ ra rc, rv = .slice ra regs.length rc := by
        rcases hR with ⟨e, e2⟩ | ⟨rb, off, cap, _, e, _⟩
        · exact ⟨none, 0, by rw [e, e2]; rfl⟩
        · exact ⟨_, cap, e⟩
      obtain ⟨ra, rc, rfl⟩ := hrl
      have lk := hM.lk
      have HM := hideIt hM
      have HAx := hideIt hAx
      have HX : Hid (∀ z, X z → w.heap.size ≤ z) := hX
      have HB := hideIt hB
      have hsz := hB.size
      clear hM hX hB hR hO hAx
      obtain ⟨kd, oa, ob, oc, od, wa, wc, wd, pa, pc, pd⟩ := o
      simp only at c0 c1 c2 c3 c4 c5 c6 z4 z5
      by_cases q14 : 0 ≤ kd ∧ kd ≤ 14
      · have bb : decide (0 ≤ kd ∧ kd ≤ 14) = true := by simp [q14]
        have ba : decide (15 ≤ kd ∧ kd ≤ 20) = false := by simp; omega
        go_wp2_with (first
          | (go_at_call 63; refine (builds_walk kd _).mono ?_; rintro e w' ⟨rfl, hw'⟩; obtain rfl := hw'.symm; rw [bb])
          | (go_at_call 65; refine (build_walk (HM.out.below (alloc_below _)) hl HX.out (by rw [Deep.nblk_alloc]; omega) kd oa ob oc od wa pa wd.length wc pd.length pc q14.1 q14.2).mono ?_; rintro e w2 ⟨X', nb', A', regs', f0, f1, f2, f3, fn, rfl, hM', hl', hX', hB', hle', hext', hsub'⟩; have HSL2 : Hid (SL w kb eb mb ab w2) := ⟨X', nb', A', regs', hM', (Es.below ⟨HM.out.en, HAx.out⟩ (alloc_below _)).ax.keep HM.out.en.xe hext' hsub' hle' HM.out.en.st.ar.wf hM'.en.st.ar.wf, hl', hX', (HB.out.trans ((alloc_below _).mono (by omega))).trans hB'⟩; clear hM' hl' hX' hB' hle' hext' hsub'))
        · go_ret
          obtain ⟨_, _, _, _, _, _, _, _, hb2⟩ := HSL2.out
          exact ⟨rfl, hb2⟩
        · exact ⟨⟨k + 1, by omega, by go_num, HSL2.out⟩, by simp [intOf]; omega⟩
      · have bb : decide (0 ≤ kd ∧ kd ≤ 14) = false := by simp; omega
        have HSL2 : Hid (SL w kb eb mb ab (wr.alloc (.cells #[.int .i64 kd, .int .i64 oa, .int .i64 ob, .int .i64 oc, .slice wa wd.length wc, .slice pa pd.length pc, .int .i64 od] 31))) := ⟨X, nb, A, regs, HM.out.below (alloc_below _), (Es.below ⟨HM.out.en, HAx.out⟩ (alloc_below _)).ax, hl, HX.out, HB.out.trans ((alloc_below _).mono (by omega))⟩
        by_cases q20 : 15 ≤ kd ∧ kd ≤ 20
        · have ba : decide (15 ≤ kd ∧ kd ≤ 20) = true := by simp [q20]
          by_cases hne : regs = []
          · subst hne
            go_wp2_with (first
              | (go_at_call 63; refine (builds_walk kd _).mono ?_; rintro e w' ⟨rfl, hw'⟩; obtain rfl := hw'.symm; rw [bb])
              | (go_at_call 66; refine (asks_walk kd _).mono ?_; rintro e w' ⟨rfl, hw'⟩; obtain rfl := hw'.symm; rw [ba]))
            go_roundw
            case rel => exact ⟨k + 1, by omega, by go_num, HSL2.out⟩
            case measure => simp [intOf]; omega
          · have Hne := hideIt hne
            have hpos : (0 : Int) < (regs.length : Int) := by have := List.length_pos_iff.2 hne; omega
            have Hl9 : Hid (regs.length ≤ 9) := by show _ ≤ _; omega
            clear hne
            go_wp2_with (first
              | (go_at_call 63; refine (builds_walk kd _).mono ?_; rintro e w' ⟨rfl, hw'⟩; obtain rfl := hw'.symm; rw [bb])
              | (go_at_call 66; refine (asks_walk kd _).mono ?_; rintro e w' ⟨rfl, hw'⟩; obtain rfl := hw'.symm; rw [ba]))
            have HM1 : Hid (Mc X (wr.alloc (.cells #[.int .i64 kd, .int .i64 oa, .int .i64 ob, .int .i64 oc, .slice wa wd.length wc, .slice pa pd.length pc, .int .i64 od] 31)) kb eb mb ab nb 65536 A regs) := HM.out.below (alloc_below _)
            have HB1 : Hid (Below w.heap.size w (wr.alloc (.cells #[.int .i64 kd, .int .i64 oa, .int .i64 ob, .int .i64 oc, .slice wa wd.length wc, .slice pa pd.length pc, .int .i64 od] 31))) := HB.out.trans ((alloc_below _).mono (by omega))
            have HAx1 : Hid (Ax X (wr.alloc (.cells #[.int .i64 kd, .int .i64 oa, .int .i64 ob, .int .i64 oc, .slice wa wd.length wc, .slice pa pd.length pc, .int .i64 od] 31)) eb mb A) := (Es.below ⟨HM.out.en, HAx.out⟩ (alloc_below _)).ax
            have hbx : (wr.alloc (.cells #[.int .i64 kd, .int .i64 oa, .int .i64 ob, .int .i64 oc, .slice wa wd.length wc, .slice pa pd.length pc, .int .i64 od] 31)).heap[wr.heap.size]? = some (.cells #[.int .i64 kd, .int .i64 oa, .int .i64 ob, .int .i64 oc, .slice wa wd.length wc, .slice pa pd.length pc, .int .i64 od] 31 (0, 0)) := heap_new _ _
            have nx : ¬ X wr.heap.size := fun e => Nat.lt_irrefl _ (HM.out.en.st.xlt _ e)
            generalize (wr.alloc (.cells #[.int .i64 kd, .int .i64 oa, .int .i64 ob, .int .i64 oc, .slice wa wd.length wc, .slice pa pd.length pc, .int .i64 od] 31)) = w1 at *
            have Hbx := hideIt hbx
            have Hnx := hideIt nx
            have lw : w.heap.size ≤ w1.heap.size := HB1.out.size
            have KP : Hid (∀ (W w2 : World) (X' : Nat → Prop) (nb' : Nat) (A' : List Nd), GrX X W eb mb ab nb 65536 A X' w2 nb' A' → Below w1.heap.size w1 W → (w2.cell? ⟨wr.heap.size, 0, none⟩ = some (.int .i64 kd) ∧ w2.cell? ⟨wr.heap.size, 1, none⟩ = some (.int .i64 oa) ∧ w2.cell? ⟨wr.heap.size, 2, none⟩ = some (.int .i64 ob) ∧ w2.cell? ⟨wr.heap.size, 3, none⟩ = some (.int .i64 oc) ∧ w2.cell? ⟨wr.heap.size, 4, none⟩ = some (.slice wa wd.length wc) ∧ w2.cell? ⟨wr.heap.size, 5, none⟩ = some (.slice pa pd.length pc) ∧ w2.cell? ⟨wr.heap.size, 6, none⟩ = some (.int .i64 od))) := fun W w2 X' nb' A' g hW => by
              have h1 : w2.heap[wr.heap.size]? = some (.cells #[.int .i64 kd, .int .i64 oa, .int .i64 ob, .int .i64 oc, .slice wa wd.length wc, .slice pa pd.length pc, .int .i64 od] 31 (0, 0)) := g.block (Es.below ⟨HM1.out.en, HAx1.out⟩ hW) ((hW.block _ (heap_lt Hbx.out)).trans Hbx.out) Hnx.out
              exact ⟨box_cell h1 0, box_cell h1 1, box_cell h1 2, box_cell h1 3, box_cell h1 4, box_cell h1 5, box_cell h1 6⟩
            have d0 := box_cell hbx 0
            have d1 := box_cell hbx 1
            have d2 := box_cell hbx 2
            have d3 := box_cell hbx 3
            have d4 := box_cell hbx 4
            have d5 := box_cell hbx 5
            have d6 := box_cell hbx 6
            have HSC : Hid (∀ W, Below w1.heap.size w1 W → MD kb eb mb ab 65536 regs ad X W nb A) := fun W hW => by
              have hBW : Below w.heap.size w W := HB1.out.trans (hW.mono lw)
              exact ⟨HM1.out.below hW, (Es.below ⟨HM1.out.en, HAx1.out⟩ hW).ax, Hg.out.below hBW lgd, fun x => by have := HX.out _ x; omega, (hBW.cell (p := ⟨1, 0, none⟩) lgn).trans Hn0.out, fun x => by have := HX.out _ x; omega⟩
            have HWi : Hid (∀ W, Below w1.heap.size w1 W → Ints X W (.slice wa wd.length wc) wd) := fun W hW => Ints.of_script Hiw.out (HB1.out.trans (hW.mono lw)) HX.out
            have HPi : Hid (∀ W, Below w1.heap.size w1 W → Ints X W (.slice pa pd.length pc) pd) := fun W hW => Ints.of_script Hip.out (HB1.out.trans (hW.mono lw)) HX.out
            clear hbx nx
            go_region_held3 (fun w' => w'.cell? ⟨wr.heap.size, 0, none⟩ = some (.int .i64 kd) ∧ w'.cell? ⟨wr.heap.size, 1, none⟩ = some (.int .i64 oa) ∧ w'.cell? ⟨wr.heap.size, 2, none⟩ = some (.int .i64 ob) ∧ w'.cell? ⟨wr.heap.size, 3, none⟩ = some (.int .i64 oc) ∧ w'.cell? ⟨wr.heap.size, 4, none⟩ = some (.slice wa wd.length wc) ∧ w'.cell? ⟨wr.heap.size, 5, none⟩ = some (.slice pa pd.length pc) ∧ w'.cell? ⟨wr.heap.size, 6, none⟩ = some (.int .i64 od)) (first | (exact KP.out _ _ _ _ _ hG (by exact ⟨rfl, rfl, rfl, Nat.le_refl _, fun _ _ => rfl⟩)) | go_keep)
              (first
                | (go_at_call 67; refine (reg_walk (HM1.out.below (by exact ⟨rfl, rfl, rfl, Nat.le_refl _, fun _ _ => rfl⟩)) Hne.out Hl9.out oa).mono ?_; rintro e w' ⟨r, hr, rfl, rfl⟩)
                | (go_at_call 28; refine (anti_check (HSC.out _ (by exact ⟨rfl, rfl, rfl, Nat.le_refl _, fun _ _ => rfl⟩)) (Int.le_refl _) hr (HWi.out _ (by exact ⟨rfl, rfl, rfl, Nat.le_refl _, fun _ _ => rfl⟩)) Hzw.out z4 (HPi.out _ (by exact ⟨rfl, rfl, rfl, Nat.le_refl _, fun _ _ => rfl⟩)) Hzp.out z5).mono ?_; rintro e w2 ⟨X', nb', A', bo, hG, rfl, hlim⟩))
            all_goals
              have HM2 : Hid (Mc X' w2 kb eb mb ab nb' 65536 A' regs) := (HSC.out _ (by exact ⟨rfl, rfl, rfl, Nat.le_refl _, fun _ _ => rfl⟩)).mc.growX (HSC.out _ (by exact ⟨rfl, rfl, rfl, Nat.le_refl _, fun _ _ => rfl⟩)).ax hG
              have HX2 : Hid (∀ z, X' z → w.heap.size ≤ z) := fun z hz => by
                by_cases h : z < w1.heap.size
                · exact HX.out z ((hG.sub z h).1 hz)
                · omega
              have HB2 : Hid (Below w.heap.size w w2) := HB1.out.trans (Below.trans (by exact ⟨rfl, rfl, rfl, Nat.le_refl _, fun _ _ => rfl⟩) (hG.ext.below' (by exact lw) (fun q hq e => by
                rcases e with e | e | e
                · have := HX.out _ HM1.out.en.st.ar.xa; omega
                · have := HX.out _ HM1.out.en.st.ar.xn; omega
                · have := HX.out _ HM1.out.en.xm; have := e.1; omega)))
              have HSL3 : Hid (SL w kb eb mb ab w2) := ⟨X', nb', A', regs, HM2.out, hG.ax, hl, HX2.out, HB2.out⟩
              clear hG
              cases bo
              · have hlim' : (65536 : Int) ≤ (A'.length : Int) := hlim rfl
                obtain ⟨_, k0', _, _, _⟩ := HM2.out.cells
                go_wp2_with (go_at_call 68; refine (len_walk _ HM2.out.en.st.ar).mono ?_; rintro e w' ⟨rfl, hw'⟩; obtain rfl := hw'.symm)
                go_ret
                exact ⟨rfl, HB2.out⟩
              · clear hlim
                go_wp2_with fail
                go_roundw
                case rel => exact ⟨k + 1, by omega, by go_num, HSL3.out⟩
                case measure => simp [intOf]; omega
        · have ba : decide (15 ≤ kd ∧ kd ≤ 20) = false := by simp; omega
          go_wp2_with (first
            | (go_at_call 63; refine (builds_walk kd _).mono ?_; rintro e w' ⟨rfl, hw'⟩; obtain rfl := hw'.symm; rw [bb])
            | (go_at_call 66; refine (asks_walk kd _).mono ?_; rintro e w' ⟨rfl, hw'⟩; obtain rfl := hw'.symm; rw [ba]))
          go_roundw
          case rel => exact ⟨k + 1, by omega, by go_num, HSL2.out⟩
          case measure => simp [intOf]; omega
    · obtain rfl : k = n := by omega
      have HB := hideIt hB
      clear hM hX hB hAx
      go_wp2
      go_ret
      exact ⟨rfl, HB.out⟩
end Go.Proofs.Qxb6500848aGreatDoor
