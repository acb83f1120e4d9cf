/-
  SameMintermSameDerivative: the walk of the check.
-/
import Derived.Test.Qxb6500848aGreatDoorSameA
import Derived.Deep.DeepCutAuto
import Derived.Deep.AppendLies
namespace Go.Proofs.Qxb6500848aGreatDoor
open Go.RowKit Pl Go.Maps
set_option maxRecDepth 100000

set_option maxHeartbeats 16000000 in
theorem same_check {kb eb mb ab : Nat} {lim : Int} {regs : List Int} {xb : Nat} {cv : Value} {cs : List Int} {ad : Addr} {X : Nat → Prop} {w : World} {nb : Nat} {A : List Nd} (hC : SC kb eb mb ab lim regs xb cv cs ad X w nb A) (hlim : lim ≤ 65536) (hcp : 1 ≤ cs.length) (hcl : cs.length ≤ 100000000000) {r : Int} (hr : Valid A r)
    {o0 o1 o2 o3 o6 : Int} {wv pv : Value} {wd : Word} (hw : Ints X w wv wd) (hwz : Nz wv) (hwl : wd.length ≤ 65536) :
    Calls Tryz.prog 13 #[.pointer (some ⟨kb, 0, none⟩), .int .i64 r, .agg #[.int .i64 o0, .int .i64 o1, .int .i64 o2, .int .i64 o3, wv, pv, .int .i64 o6], .pointer (some ⟨xb, 0, none⟩)] w (SPost X w eb mb ab nb lim A) := by
  obtain ⟨ca, cc, ecv, _, _, c3⟩ := hC.ci
  obtain ⟨cg, co, eca, _, _⟩ := c3 (fun e => by rw [e] at hcp; simp at hcp)
  subst eca
  subst ecv
  clear c3
  obtain ⟨rv, k0, k1, k2, _⟩ := hC.mc.cells
  have HC0 := hideIt hC
  have Hr := hideIt hr
  have Hw := hideIt hw
  have Hwz := hideIt hwz
  obtain ⟨wa, wc, rfl, _, _, _⟩ := hw
  have lk := hC.mc.lk
  have HB0 : Hid (Below w.heap.size w (w.alloc (.cells #[.int .i64 o0, .int .i64 o1, .int .i64 o2, .int .i64 o3, .slice wa wd.length wc, pv, .int .i64 o6] 31))) := alloc_below _
  have HbB : Hid ((w.alloc (.cells #[.int .i64 o0, .int .i64 o1, .int .i64 o2, .int .i64 o3, .slice wa wd.length wc, pv, .int .i64 o6] 31)).heap[w.heap.size]? = some (.cells #[.int .i64 o0, .int .i64 o1, .int .i64 o2, .int .i64 o3, .slice wa wd.length wc, pv, .int .i64 o6] 31)) := heap_new _ _
  clear hC hr hwz
  go_enter Tryz.func13, Tryz.ntmps13
  go_wp2_with fail
  have m1 := (HB0.out.cell (p := ⟨kb, 1, none⟩) lk).trans k1
  have y4 := box_cell HbB.out 4
  simp only [List.getElem?_toArray, List.getElem?_cons_zero, List.getElem?_cons_succ] at y4
  have HC1 := hideIt (HC0.out.below HB0.out)
  have Hw1 := hideIt (Hw.out.below HB0.out (Nat.le_refl _))
  have hsz1 : (w.alloc (.cells #[.int .i64 o0, .int .i64 o1, .int .i64 o2, .int .i64 o3, .slice wa wd.length wc, pv, .int .i64 o6] 31)).heap.size = w.heap.size + 1 := Deep.nblk_alloc _ _
  have Hnx : Hid (¬ X w.heap.size) := fun x => Nat.lt_irrefl _ (HC0.out.mc.en.st.xlt _ x)
  generalize (w.alloc (.cells #[.int .i64 o0, .int .i64 o1, .int .i64 o2, .int .i64 o3, .slice wa wd.length wc, pv, .int .i64 o6] 31)) = w0 at *
  clear HbB k0 k1 k2
  have KP : Hid (∀ (W w2 : World) (X' : Nat → Prop) (nb' : Nat) (A' : List Nd), GrE X W eb mb ab nb lim A X' w2 nb' A' → Below w0.heap.size w0 W → w2.cell? ⟨kb, 1, none⟩ = some (.pointer (some ⟨eb, 0, none⟩)) ∧ w2.cell? ⟨w.heap.size, 4, none⟩ = some (.slice wa wd.length wc)) := fun W w2 X' nb' A' g hW => by
    have hCW := HC1.out.below hW
    obtain ⟨_, _, q1, _, _⟩ := (hCW.mc.grow g).cells
    exact ⟨q1, (g.ext.cell (p := ⟨w.heap.size, 4, none⟩) (by have := hW.size; show w.heap.size < _; omega) (hCW.mc.en.out Hnx.out)).trans ((hW.cell (p := ⟨w.heap.size, 4, none⟩) (by show w.heap.size < _; omega)).trans y4)⟩
  go_cut [1, 8] (fun rv ev wx => ∃ X1 nb1 A1 z, GrE X w0 eb mb ab nb lim A X1 wx nb1 A1 ∧ rv = .int .i64 z ∧ ((ev = .nilIface ∧ Valid A1 z) ∨ ((∃ t v, ev = .iface t v) ∧ lim ≤ A1.length)))
  case first =>
    go_region_held3 (fun w' => w'.cell? ⟨kb, 1, none⟩ = some (.pointer (some ⟨eb, 0, none⟩)) ∧ w'.cell? ⟨w.heap.size, 4, none⟩ = some (.slice wa wd.length wc)) (first | (exact KP.out _ _ _ _ _ hG (by exact ⟨rfl, rfl, rfl, Nat.le_refl _, fun _ _ => rfl⟩)) | go_keep)
      (first
        | (go_at_call 15; refine (cut_walk (Hw1.out.below (w' := _) (by exact ⟨rfl, rfl, rfl, Nat.le_refl _, fun _ _ => rfl⟩) (Nat.le_refl _)) Hwz.out hwl).mono ?_; rintro e w1' ⟨u, rfl, hui, huz, hw1'⟩; obtain rfl := hw1'.symm)
        | (go_at_call 14; refine (DerivWord_walk hlim ((HC1.out.below (by exact ⟨rfl, rfl, rfl, Nat.le_refl _, fun _ _ => rfl⟩)).mc.en) Hr.out hui (by simp; omega)).mono ?_; rintro e w2 ⟨X1, nb1, A1, z1, ev1, hG, rfl, hh1⟩))
    all_goals (try go_wp2_with fail)
    all_goals go_meet
    all_goals exact ⟨X1, nb1, A1, z1, GrE.after (by exact ⟨rfl, rfl, rfl, Nat.le_refl _, fun _ _ => rfl⟩) (Nat.le_refl _) hG, rfl, hh1.imp (fun h => ⟨h.1, h.2.1⟩) (fun h => ⟨h.1, h.2.2⟩)⟩
  case rest =>
    obtain ⟨X1, nb1, A1, z, hG, rfl, hh⟩ := hcut
    have HGx := hideIt ((((GrX.refl HC0.out.es).below HB0.out)).trans (hG.toX HC1.out.es))
    have HC2 := hideIt (HC1.out.step (hG.toX HC1.out.es))
    clear hG KP HC1 Hw1 Hnx hsz1 m1 y4 HB0
    rcases hh with ⟨rfl, hz⟩ | ⟨⟨t0, v0, rfl⟩, hf0⟩
    · have Hz := hideIt hz
      obtain ⟨_, j0, j1, _, _⟩ := HC2.out.mc.cells
      clear hz
      go_wp2_with fail
      go_at_call 17
      refine (classes_walk HC2.out.mc.en.st Hz.out).mono ?_
      rintro e w3 ⟨v3, F, rfl, hF, hcl2, hfl, hIs, hb3⟩
      have HF := hideIt hF
      have Hcl := hideIt hcl2
      have HIs := hideIt hIs
      have HB3 := hideIt hb3
      clear hF hcl2 hIs hb3
      go_wp2_with fail
      go_at_call 16
      refine (minterms_walk tabC_bd (HC2.out.gd.below HB3.out HC2.out.lt) (Nat.lt_of_lt_of_le HC2.out.lt HB3.out.size) HF.out Hcl.out hfl).mono ?_
      rintro e w4 ⟨bv, P, rfl, hS, hGood, hPl, hPm, hPs, hb4⟩
      have HIC : Hid (IsCut tabC A1 z P) := isCut_of tabC_ok ⟨hGood, F, Hcl.out, HIs.out, hPm, hPs⟩
      have HB4 := hideIt (HB3.out.trans (hb4.mono HB3.out.size))
      have HSv : Hid (Sets X1 w4 bv P) := by
        obtain ⟨fs, q1, q2, q3⟩ := hS
        exact ⟨fs, q1, q2.more (fun b _ x => Nat.lt_of_lt_of_le (HC2.out.mc.en.st.xlt b x) HB3.out.size), fun i hi hi' => (q3 i hi hi').more (fun b _ x => Nat.lt_of_lt_of_le (HC2.out.mc.en.st.xlt b x) HB3.out.size)⟩
      have HC4 := hideIt (HC2.out.below HB4.out)
      have HG4 := hideIt (HGx.out.below HB4.out)
      obtain ⟨_, i0, i1, _, _⟩ := HC4.out.mc.cells
      clear hGood hPm hPs hb4 hS HF Hcl HIs HC2 HGx j0 j1
      go_wp2_with fail
      go_at_call 18
      refine (Cut_walk HC4.out.es HC4.out.gd HC4.out.lt Hz.out).mono ?_
      rintro e w5 ⟨tb, P', rfl, hct, hic, hl5, hg5⟩
      obtain rfl := hic.uniq HIC.out
      have HC5 := hideIt (HC4.out.step hg5)
      have HG5 := hideIt (HG4.out.trans hg5)
      have HCt := hideIt hct
      have HSv5 := hideIt (hg5.sets HC4.out.es HSv.out)
      obtain ⟨_, h0, h1, _, _⟩ := HC5.out.mc.cells
      clear hct hic hg5 HC4 HG4 HSv i0 i1
      go_wp2_with fail
      go_at_call 19
      refine (Edges_walk hlim HC5.out.es HC5.out.gd HC5.out.lt Hz.out HIC.out).mono ?_
      rintro e w6 ⟨X6, nb6, A6, v6, ev6, hg6, rfl, hh6⟩
      have HG6 := hideIt (HG5.out.trans hg6)
      have HCt6 := hideIt (hg6.cut HC5.out.es HCt.out)
      have HSv6 := hideIt (hg6.sets HC5.out.es HSv5.out)
      have HC6 := hideIt (HC5.out.step hg6)
      have HIC6 := hideIt (HIC.out.le HC5.out.es.en.st.ar.wf hg6.le Hz.out)
      have Hz6 := hideIt (hg6.le.valid Hz.out)
      clear hg6 HC5 HG5 HSv5 HCt HIC Hz h0 h1
      rcases hh6 with ⟨rfl, D, es, rfl, hE3, hnD, hIE⟩ | ⟨⟨t0, v0, rfl⟩, rfl, hf6⟩
      · have HSK : Hid (SK kb eb mb ab lim regs xb (.slice (some ⟨cg, co, none⟩) cs.length cc) cs ad z P' bv tb D es X6 w6 nb6 A6) := ⟨HC6.out, Hz6.out, HSv6.out, HCt6.out, hE3, hnD, HIC6.out, hIE⟩
        obtain ⟨ba, bc, ra, rc, vs, c0, c1, _, _, _, _⟩ := HCt6.out.cells
        obtain ⟨sa, sc, vs2, rfl, _, _, _⟩ := HSv6.out.shape
        clear hE3 hnD hIE HC6 Hz6 HSv6 HCt6 HIC6
        go_wp2_with fail
        go_loopw [93] (fun i wr => ∃ (k : Nat) (X' : Nat → Prop) (nb' : Nat) (A' : List Nd), k ≤ P'.length ∧ i = .int .i64 k ∧ GrX X w eb mb ab nb lim A X' wr nb' A' ∧ SK kb eb mb ab lim regs xb (.slice (some ⟨cg, co, none⟩) cs.length cc) cs ad z P' (.slice sa P'.length sc) tb D es X' wr nb' A') (fun i _ => P'.length - (intOf i).toNat)
        case atStart => exact ⟨0, X6, nb6, A6, by omega, rfl, HG6.out, HSK.out⟩
        case round =>
          obtain ⟨k, X7, nb7, A7, hk, rfl, hG7, hK7⟩ := hrel
          obtain ⟨_, h0, h1, _, _⟩ := hK7.sc.mc.cells
          by_cases hlt : k < P'.length
          · have hlt' : (k : Int) < (P'.length : Int) := by omega
            obtain ⟨sg, so, pv7, rfl, s0, hpw⟩ := hK7.at hlt
            have HK7 := hideIt hK7
            have HG7 := hideIt hG7
            have Hpw := hideIt hpw
            clear hK7 hG7 hpw HSK HG6 c0 c1
            go_wp2_with fail
            go_at_call 20
            refine (DerivBlock_walk hlim HK7.out.sc.es HK7.out.sc.gd HK7.out.sc.lt HK7.out.sc.gn HK7.out.sc.xn HK7.out.val HK7.out.ic (k : Int)).mono ?_
            rintro e w8 ⟨X8, nb8, A8, z8, ev8, hg8, rfl, hh8⟩
            have HK8 := hideIt (HK7.out.step hg8)
            have HG8 := hideIt (HG7.out.trans hg8)
            have Hpw8 := hideIt (hg8.seq HK7.out.sc.es Hpw.out)
            have hh9 : (ev8 = .nilIface ∧ Der A8 (minF tabC P'[k]) z z8) ∨ ((∃ t v, ev8 = .iface t v) ∧ lim ≤ A8.length) := by
              rcases hh8 with ⟨h, _⟩ | ⟨_, h⟩
              · exfalso; omega
              · rw [Int.toNat_natCast, getD_lt hlt] at h
                exact h.imp (fun h => ⟨h.1, h.2.2⟩) (fun h => ⟨h.1, h.2.2⟩)
            clear hh8 hg8 HK7 HG7 Hpw h0 h1 s0
            rcases hh9 with ⟨rfl, hd8⟩ | ⟨⟨t8, v8, rfl⟩, hf8⟩
            · have Hrep := hideIt (HK8.out.ic.rep hlt).2
              have Hclk := hideIt (HK8.out.ic.cl hlt)
              obtain ⟨bg, bo, bc', rg, ro, rc', pv2, q0, q1, q2, hpw2, q3⟩ := Pl.CutAt_at HK8.out.ct hlt
              have Hpw2 := hideIt hpw2
              have hes := HK8.out.ie.1
              have hke : k < es.length := by omega
              obtain ⟨e0, e1, e2⟩ := HK8.out.ed.cell hke
              obtain ⟨f0, f1, f2⟩ := HK8.out.ie.2 k hke hlt
              have hd8' := f2.uniq HK8.out.sc.mc.en.st.ar.wf hd8
              rw [f0] at e0
              rw [f1] at e1
              rw [hd8'] at e2
              have Hd8 := hideIt hd8
              have Hsd : Hid (∀ (B : List Nd) (c d : Int), Le A8 B → Wf B → hasC P'[k] c = true → Der B c z d → d = z8) := fun B c d hle hB hc hd => (HK8.out.ic.le HK8.out.sc.mc.en.st.ar.wf hle HK8.out.val).same_der hB (hle.valid HK8.out.val) hlt hc (hd8.le HK8.out.sc.mc.en.st.ar.wf hB hle HK8.out.val) hd
              have Hix : Hid (∀ (b : Nat) (c : Int), b < P'.length → hasC P'[k] c = true → hasC (P'.getD b []) c = true → b = k) := fun b c hb h1 h2 => HK8.out.ic.one hb hlt (by rw [getD_lt hb] at h2; exact h2) h1
              clear hpw2 f0 f1 f2 hd8 hd8' hes hke
              generalize hmn : minF tabC P'[k] = mn at *
              generalize P'[k] = p at *
              have hsm : decide (p = p) = true := by simp
              obtain ⟨_, h0, h1, _, _⟩ := HK8.out.sc.mc.cells
              clear hmn
              go_wp2_with (first
                | (go_at_call 21; refine (sethas_walk Hpw8.out Hclk.out.1.1 Hclk.out.1.2 mn).mono ?_; rintro e w' ⟨rfl, hw'⟩; obtain rfl := hw'.symm; rw [Hrep.out])
                | (go_at_call 22; refine (same_walk Hpw8.out Hpw2.out).mono ?_; rintro e w9 ⟨rfl, q, rfl⟩))

              go_region
              go_wp2_with fail
              have hxb := HK8.out.sc.ch
              obtain ⟨i0, hi0, hz0, hz1, hz2⟩ := info_parts info_int
              have Hcn := hideIt (fun (W : World) (hW : Below w8.heap.size w8 W) => chars_news HK8.out.sc.ci hcp hW)
              have Hco := hideIt (fun (W w9 : World) (g cap : Nat) (a b : Int) h1 h2 h3 => cand_own (X := X8) (w := w8) (W := W) (w9 := w9) (g := g) (cap := cap) (cs := cs) (a := a) (b := b) h1 h2 h3 HK8.out.sc.mc.en.st.xlt)
              have Hmin := hideIt (fun (W : World) (hW : Below w8.heap.size w8 W) => min_walk tabC_bd (HK8.out.sc.gd.below hW HK8.out.sc.lt) (Hpw8.out.below hW (Nat.le_refl _)) Hclk.out.1 Hclk.out.2)
              have Hmax := hideIt (fun (W : World) (hW : Below w8.heap.size w8 W) => max_walk (Hpw8.out.below hW (Nat.le_refl _)) Hclk.out.1 Hclk.out.2)
              have KX : Hid (∀ (W w9 : World), W.grownBy w9 (Value.slice (some ⟨w8.heap.size, 0, none⟩) 2 2).ownBlock → Below w8.heap.size w8 W → w9.cell? ⟨xb, 0, none⟩ = some (.slice (some ⟨cg, co, none⟩) cs.length cc)) := fun W w9 hg hW => ((hW.grown hg hW.size (fun k e => by cases e; exact Nat.le_refl _)).cell (p := ⟨xb, 0, none⟩) (cell_lt hxb)).trans hxb
              go_cut [155, 156, 157] (fun av nv iv wx => ∃ (g cap : Nat) (cs2 : List Int), av = .slice (some ⟨g, 0, none⟩) cs2.length cap ∧ nv = .int .i64 cs2.length ∧ iv = .int .i64 0 ∧ Ints X8 wx (.slice (some ⟨g, 0, none⟩) cs2.length cap) cs2 ∧ cs2.length ≤ 200000000000 ∧ Below w8.heap.size w8 wx)
              case first =>
                go_region_held3 (fun w' => w'.cell? ⟨xb, 0, none⟩ = some (.slice (some ⟨cg, co, none⟩) cs.length cc)) (first | exact KX.out _ _ hgrow9 (below_push rfl rfl rfl rfl) | exact hxb | go_keep)
                  (first
                    | (go_at_call 23; refine (Hmin.out _ (by exact ⟨rfl, rfl, rfl, Nat.le_refl _, fun _ _ => rfl⟩)).mono ?_; rintro e w' ⟨rfl, rfl⟩)
                    | (go_at_call 24; refine (Hmax.out _ (by exact ⟨rfl, rfl, rfl, Nat.le_refl _, fun _ _ => rfl⟩)).mono ?_; rintro e w' ⟨m, rfl, rfl⟩)
                    | (refine step_append_lies _ (by rfl) _ _ _ (by rfl) w8.heap.size 3 i0 _ 1 8 Tryz.underlying24 hi0 hz0 hz1 hz2 rfl (by omega) (.slice (some ⟨w8.heap.size, 0, none⟩) 2 2) 2 [.int .i64 (minF tabC p), .int .i64 m] (by rfl) (own_two (by exact heap_new w8 _) (Nat.le_refl _)) ⟨cg, co, none⟩ cs.length cc (cs.map encI) (by rfl) (by simp) (Hcn.out _ (below_push rfl rfl rfl rfl)) (one_ints _) (by omega) (by unfold maxLen; omega) (by omega) (by exact (alloc_below (w := w8) _).size) (w8.heap.size + 1) (by simp) ?_; intro g9 cap9 w9 hown9 hgrow9 hat9 hglt9))
                all_goals (try go_wp2_with fail)
                all_goals go_meet
                all_goals
                  have hln : ([minF tabC p, m] ++ cs).length = 2 + cs.length := by simp; omega
                  obtain ⟨hI9, hB9⟩ := Hco.out _ _ _ _ _ _ hown9 hgrow9 (below_push rfl rfl rfl rfl)
                  exact ⟨g9, cap9, [minF tabC p, m] ++ cs, by rw [hln], congrArg _ (by rw [hln]; omega), rfl, by rw [hln]; exact hI9, by omega, hB9⟩
              case rest =>
                obtain ⟨g9, cap9, cs2, rfl, rfl, rfl, hI9, hl9, hB9⟩ := hcut
                have HK9 := hideIt (HK8.out.below hB9)
                have HG9 := hideIt (HG8.out.below hB9)
                have Hpw9 := hideIt (Hpw8.out.below hB9 (Nat.le_refl _))
                have HI9 := hideIt hI9
                clear hI9 hB9 HG8 Hpw8 Hmin Hmax Hcn Hco KX hxb q0 q1 q2 q3 e0 e1 e2 h0 h1 Hpw2 Hrep hi0 hz0 hz1 hz2 hsm HK8
                go_wp2_with fail
                go_loopw [157] (fun i wr => ∃ (j : Nat) (X' : Nat → Prop) (nb' : Nat) (A' : List Nd), j ≤ cs2.length ∧ i = .int .i64 j ∧ GrX X w eb mb ab nb lim A X' wr nb' A' ∧ SK kb eb mb ab lim regs xb (.slice (some ⟨cg, co, none⟩) cs.length cc) cs ad z P' (.slice (some ⟨sg, so, none⟩) P'.length sc) tb D es X' wr nb' A' ∧ Words X' wr pv7 p ∧ Ints X' wr (.slice (some ⟨g9, 0, none⟩) cs2.length cap9) cs2 ∧ Le A8 A') (fun i _ => cs2.length - (intOf i).toNat)
                case atStart => exact ⟨0, X8, nb8, A8, by omega, rfl, HG9.out, HK9.out, Hpw9.out, HI9.out, Le.refl _⟩
                case round =>
                  obtain ⟨j, XA, nbA, AA, hj, rfl, hGA, hKA, hpA, hIA, hleA⟩ := hrel
                  have HGA := hideIt hGA
                  have HKA := hideIt hKA
                  have HleA := hideIt hleA
                  by_cases hlj : j < cs2.length
                  · have hlj' : (j : Int) < (cs2.length : Int) := by omega
                    have HIA := hideIt hIA
                    have HpA := hideIt hpA
                    obtain ⟨ad', cap', e, _, _, h3⟩ := hIA
                    simp only [Value.slice.injEq] at e
                    obtain ⟨e1, el⟩ := e
                    clear el
                    obtain ⟨g, o, e2, hxg, hc⟩ := h3 (fun e => by rw [e] at hlj; cases hlj)
                    rw [e2] at e1
                    cases e1
                    have cu := hc j hlj
                    rw [Nat.zero_add] at cu
                    generalize cs2[j] = c at *
                    obtain ⟨_, h0, h1, _, _⟩ := hKA.sc.mc.cells
                    clear hGA hKA hpA hleA h3 hc e2 hxg HK9 HG9 Hpw9 HI9
                    cases hb : hasC p c
                    · go_wp2_with (go_at_call 21; refine (sethas_walk HpA.out Hclk.out.1.1 Hclk.out.1.2 c).mono ?_; rintro e w' ⟨rfl, hw'⟩; obtain rfl := hw'.symm; rw [hb])
                      go_roundw
                      case rel => exact ⟨j + 1, XA, nbA, AA, by omega, by go_num, HGA.out, HKA.out, HpA.out, HIA.out, HleA.out⟩
                      case measure => simp [intOf]; omega
                    · go_wp2_with (go_at_call 21; refine (sethas_walk HpA.out Hclk.out.1.1 Hclk.out.1.2 c).mono ?_; rintro e w' ⟨rfl, hw'⟩; obtain rfl := hw'.symm; rw [hb])
                      go_at_call 25
                      refine (Deriv_walk hlim HKA.out.sc.mc.en HKA.out.val).mono ?_
                      rintro e wB ⟨XB, nbB, AB, zB, evB, hgB, rfl, hhB⟩
                      have hgX := hgB.toX HKA.out.sc.es
                      have HKB := hideIt (HKA.out.step hgX)
                      have HGB := hideIt (HGA.out.trans hgX)
                      have HpB := hideIt (hgX.seq HKA.out.sc.es HpA.out)
                      have HIB := hideIt (hgX.seq HKA.out.sc.es HIA.out)
                      have HleB := hideIt (HleA.out.trans hgX.le)
                      have Hb := hideIt hb
                      clear hgB hgX HKA HGA HpA HIA HleA hb h0 h1 cu
                      have Hixw := hideIt (Index_walk HKB.out.ct HKB.out.ic hl5 c)
                      rcases hhB with ⟨rfl, hvB, _, hdB⟩ | ⟨⟨tB, vB, rfl⟩, rfl, hfB⟩
                      · have ezB := Hsd.out AB c zB HleB.out HKB.out.sc.mc.en.st.ar.wf Hb.out (hdB (hasC_alph Hb.out))
                        subst ezB
                        clear hdB
                        go_wp2_with fail
                        go_at_call 26
                        refine Hixw.out.mono ?_
                        rintro e wC ⟨hwC, hhC⟩
                        obtain rfl := hwC.symm
                        rcases hhC with ⟨hno, _⟩ | ⟨_, b, hb1, hb2, rfl⟩
                        · exact absurd (hasC_alph Hb.out) hno
                        · obtain rfl := Hix.out b c hb1 Hb.out hb2
                          clear hb1 hb2
                          go_wp2_with fail
                          go_roundw
                          case rel => exact ⟨j + 1, XB, nbB, AB, by omega, by go_num, HGB.out, HKB.out, HpB.out, HIB.out, HleB.out⟩
                          case measure => simp [intOf]; omega
                      · go_wp2_with fail
                        go_at_call 26
                        refine Hixw.out.mono ?_
                        rintro e wC ⟨hwC, hhC⟩
                        obtain rfl := hwC.symm
                        rcases hhC with ⟨hno, _⟩ | ⟨_, b, hb1, hb2, rfl⟩
                        · exact absurd (hasC_alph Hb.out) hno
                        · clear hb1 hb2
                          go_wp2_with fail
                          go_ret
                          exact ⟨XB, nbB, AB, false, HGB.out, rfl, fun _ => hfB⟩
                  · obtain rfl : j = cs2.length := by omega
                    clear hGA hKA hpA hleA hIA HK9 HG9 Hpw9 HI9
                    go_wp2_with fail
                    go_roundw
                    case rel => exact ⟨k + 1, XA, nbA, AA, by omega, by go_num, HGA.out, HKA.out⟩
                    case measure => simp [intOf]; omega
            · go_wp2_with fail
              go_ret
              exact ⟨X8, nb8, A8, false, HG8.out, rfl, fun _ => hf8⟩
          · obtain rfl : k = P'.length := by omega
            have HK7 := hideIt hK7
            have HG7 := hideIt hG7
            clear hK7 hG7 HSK HG6 c0 c1
            go_wp2_with fail
            go_at_call 20
            refine (DerivBlock_walk hlim HK7.out.sc.es HK7.out.sc.gd HK7.out.sc.lt HK7.out.sc.gn HK7.out.sc.xn HK7.out.val HK7.out.ic (-1)).mono ?_
            rintro e w8 ⟨X8, nb8, A8, z8, ev8, hg8, rfl, hh8⟩
            have ee : ev8 = .iface 216 (.pointer (some ad)) := by
              rcases hh8 with ⟨_, h⟩ | ⟨h, _⟩
              · exact h
              · omega
            subst ee
            have HK8 := hideIt (HK7.out.step hg8)
            have HG8 := hideIt (HG7.out.trans hg8)
            obtain ⟨_, i0, i1, _, _⟩ := HK8.out.sc.mc.cells
            clear hh8 hg8 HK7 HG7 h0 h1
            go_wp2_with fail
            go_at_call 20
            refine (DerivBlock_walk hlim HK8.out.sc.es HK8.out.sc.gd HK8.out.sc.lt HK8.out.sc.gn HK8.out.sc.xn HK8.out.val HK8.out.ic (P'.length : Int)).mono ?_
            rintro e w9 ⟨X9, nb9, A9, z9, ev9, hg9, rfl, hh9⟩
            have ee : ev9 = .iface 216 (.pointer (some ad)) := by
              rcases hh9 with ⟨_, h⟩ | ⟨h, _⟩
              · exact h
              · omega
            subst ee
            have HG9 := hideIt (HG8.out.trans hg9)
            have gn : w9.cell? ⟨0, 0, none⟩ = some (.iface 216 (.pointer (some ad))) := (HK8.out.step hg9).sc.gn
            clear hh9 hg9 HK8 HG8 i0 i1
            go_wp2_with (go_at_call 27; refine (is_same ad _).mono ?_; rintro e w' ⟨rfl, hw'⟩; obtain rfl := hw'.symm)
            go_ret
            exact ⟨X9, nb9, A9, true, HG9.out, rfl, fun h => by cases h⟩
      · go_wp2_with fail
        go_ret
        exact ⟨X6, nb6, A6, false, HG6.out, rfl, fun _ => hf6⟩
    · go_wp2_with fail
      go_ret
      exact ⟨X1, nb1, A1, false, HGx.out, rfl, fun _ => hf0⟩
end Go.Proofs.Qxb6500848aGreatDoor
