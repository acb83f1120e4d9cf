/-
  MatchersDecideMembership: what the check keeps.
-/
import Derived.Test.Qxb6500848aGreatDoorMpW
import Derived.Test.Qxb6500848aGreatDoorProbC
import Derived.Deep.DeepCutAuto
import Derived.Deep.AppendLies
namespace Go.Proofs.Qxb6500848aGreatDoor
open Go.RowKit Pl Go.Maps
set_option maxRecDepth 100000

/-- What is known from the start. -/
structure MD (kb eb mb ab : Nat) (lim : Int) (regs : List Int) (ad : Addr) (X : Nat → Prop) (w : World) (nb : Nat) (A : List Nd) : Prop where
  mc : Mc X w kb eb mb ab nb lim A regs
  ax : Ax X w eb mb A
  gd : Gd tabC w
  xt : ¬ X 3
  gn : Gp w ad
  xn : ¬ X 1

theorem MD.es {kb eb mb ab : Nat} {lim : Int} {regs : List Int} {ad : Addr} {X : Nat → Prop} {w : World} {nb : Nat} {A : List Nd} (h : MD kb eb mb ab lim regs ad X w nb A) : Es X w eb mb ab nb lim A := ⟨h.mc.en, h.ax⟩
theorem MD.lt {kb eb mb ab : Nat} {lim : Int} {regs : List Int} {ad : Addr} {X : Nat → Prop} {w : World} {nb : Nat} {A : List Nd} (h : MD kb eb mb ab lim regs ad X w nb A) : 3 < w.heap.size := cell_lt (h.gd 0 (by omega))
theorem MD.step {kb eb mb ab : Nat} {lim : Int} {regs : List Int} {ad : Addr} {X X' : Nat → Prop} {w w' : World} {nb nb' : Nat} {A A' : List Nd} (h : MD kb eb mb ab lim regs ad X w nb A) (g : GrX X w eb mb ab nb lim A X' w' nb' A') : MD kb eb mb ab lim regs ad X' w' nb' A' :=
  ⟨h.mc.growX h.ax g, g.ax, fun j hj => g.cell h.es (h.gd j hj) h.xt, fun x => h.xt ((g.sub _ h.lt).1 x), g.cell h.es h.gn h.xn, fun x => h.xn ((g.sub _ (cell_lt h.gn)).1 x)⟩
theorem MD.below {kb eb mb ab : Nat} {lim : Int} {regs : List Int} {ad : Addr} {X : Nat → Prop} {w w' : World} {nb : Nat} {A : List Nd} (h : MD kb eb mb ab lim regs ad X w nb A) (k : Below w.heap.size w w') : MD kb eb mb ab lim regs ad X w' nb A :=
  h.step ((GrX.refl h.es).below k)
theorem MD.mk' {kb eb mb ab : Nat} {lim : Int} {regs : List Int} {ad : Addr} {X : Nat → Prop} {w : World} {nb : Nat} {A : List Nd} (h : MD kb eb mb ab lim regs ad X w nb A) : Mk w kb ab eb := by
  obtain ⟨_, h0, h1, _⟩ := h.mc.cells
  exact ⟨h0, h1⟩
theorem MD.reps {kb eb mb ab : Nat} {lim : Int} {regs : List Int} {ad : Addr} {X : Nat → Prop} {w : World} {nb : Nat} {A : List Nd} (h : MD kb eb mb ab lim regs ad X w nb A) {W : World} (k : Below w.heap.size w W) {x : Int} (hx : Valid A x) :
    Calls Tryz.prog 29 #[.pointer (some ⟨kb, 0, none⟩), .int .i64 x] W (RPost tabC A x X W) :=
  reps_walk tabC_bd (h.below k).mc.en.st (h.below k).gd (h.below k).lt (h.below k).mk' hx

theorem MD.reps' {kb eb mb ab : Nat} {lim : Int} {regs : List Int} {ad : Addr} {X : Nat → Prop} {w : World} {nb : Nat} {A : List Nd} (h : MD kb eb mb ab lim regs ad X w nb A) {W : World} (k : Below w.heap.size w W) {x : Int} (hx : Valid A x) :
    Calls Tryz.prog 29 #[.pointer (some ⟨kb, 0, none⟩), .int .i64 x] W (fun e w' => ∃ v cs, e = .returned v ∧ Ints X w' v cs ∧ cs.length ≤ 196608 ∧ Below W.heap.size W w') := by
  refine (h.reps k hx).mono ?_
  rintro e w' ⟨v, P, h1, h2, h3, _, h5⟩
  exact ⟨v, _, h1, h2, by simpa using h3, h5⟩

set_option maxHeartbeats 1000000 in
theorem cut_walk2 {X : Nat → Prop} {w W : World} {v : Value} {wd : Word} (h : Ints X w v wd) (hz : Nz v) (hl : wd.length ≤ 65536) :
    Calls Tryz.prog 15 #[v] W fun e w' => ∃ ua un uc, e = .returned (.slice ua un uc) ∧ Wrd X w (.slice ua un uc) 5 ∧ w' = W := by
  obtain ⟨ad, cap, rfl, h1, h2, h3⟩ := h
  by_cases h5 : 5 < wd.length
  · obtain ⟨g, o, rfl, hx, hc⟩ := h3 (fun e => by rw [e] at h5; cases h5)
    have HC := hideIt hc
    have Hx := hideIt hx
    have h5' : (5 : Int) < (wd.length : Int) := by omega
    have hcap : (5 : Int) ≤ (cap : Int) := by omega
    clear h3 hc hx hz
    go_enter Tryz.func15, Tryz.ntmps15
    go_wp2
    go_ret
    have hlen : (wd.take 5).length = 5 := by simp; omega
    refine ⟨_, _, _, rfl, ⟨wd.take 5, by omega, ⟨some ⟨g, o, none⟩, cap, by rw [hlen], by omega, h2, fun _ => ⟨g, o, rfl, Hx.out, fun j hj => ?_⟩⟩, (by intro n c e; cases e)⟩, rfl⟩
    rw [List.getElem_take]
    exact HC.out j (by omega)
  · have h5' : ¬ (5 : Int) < (wd.length : Int) := by omega
    have HI : Hid (Wrd X w (.slice ad wd.length cap) 5) := ⟨wd, by omega, ⟨ad, cap, rfl, h1, h2, h3⟩, hz⟩
    clear h3 hz
    go_enter Tryz.func15, Tryz.ntmps15
    go_wp2
    go_ret
    exact ⟨_, _, _, rfl, HI.out, rfl⟩

theorem LW.below {X : Nat → Prop} {w w' : World} {v : Value} {us : List Value} (h : LW X w v us) (k : Below w.heap.size w w') : LW X w' v us :=
  ⟨h.1.below k (Nat.le_refl _), fun u hu => (h.2 u hu).below k⟩
theorem LW.growX {X X' : Nat → Prop} {w w' : World} {eb mb ab nb nb' : Nat} {lim : Int} {A A' : List Nd} {v : Value} {us : List Value} (h : LW X w v us) (g : GrX X w eb mb ab nb lim A X' w' nb' A') (hE : Es X w eb mb ab nb lim A) : LW X' w' v us :=
  ⟨g.seq hE h.1, fun u hu => by obtain ⟨wd, h1, h2, h3⟩ := h.2 u hu; exact ⟨wd, h1, g.seq hE h2, h3⟩⟩
theorem probes_i {X : Nat → Prop} {w0 w2 : World} (hXl : ∀ z, X z → z < w0.heap.size) (hbR : Below w0.heap.size w0 w2) {v2 u1 u2 : Value} {cs : List Int} (hi2 : Ints X w2 v2 cs) (hl2 : cs.length ≤ 196608) (hu1 : Wrd X w0 u1 5) (hu2 : Wrd X w0 u2 5) :
    Calls Tryz.prog 36 #[v2, .slice (some ⟨w2.heap.size, 0, none⟩) 2 2] (w2.alloc (.cells #[u1, u2] 24)) (PPost X w0) := by
  have hb : Below w0.heap.size w0 (w2.alloc (.cells #[u1, u2] 24)) := hbR.alloc hbR.size _
  refine (probes2_walk (fun z hz => Nat.lt_of_lt_of_le (hXl z hz) hb.size) (hi2.below (alloc_below _) (Nat.le_refl _)) hl2 (hu1.below hb) (hu2.below hb) (box_cell (heap_new _ _) 0) (box_cell (heap_new _ _) 1)).mono ?_
  rintro e w3 ⟨v, us, h1, h2, h3, h4⟩
  exact ⟨v, us, h1, h2, h3, hb.trans (h4.mono hb.size)⟩
theorem probes_ii {X : Nat → Prop} {w0 w2 : World} (hXl : ∀ z, X z → z < w0.heap.size) {v2 u1 u2 : Value} (hb2 : Below (w0.drew.alloc (.cells #[u1, u2] 24)).heap.size (w0.drew.alloc (.cells #[u1, u2] 24)) w2) {cs : List Int} (hi2 : Ints X w2 v2 cs) (hl2 : cs.length ≤ 196608) (hu1 : Wrd X w0 u1 5) (hu2 : Wrd X w0 u2 5) :
    Calls Tryz.prog 36 #[v2, .slice (some ⟨w0.heap.size, 0, none⟩) 2 2] w2 (PPost X w0) := by
  have hbQ : Below w0.heap.size w0 (w0.drew.alloc (.cells #[u1, u2] 24)) := (below_d _).alloc (below_d _).size _
  have hb : Below w0.heap.size w0 w2 := hbQ.trans (hb2.mono hbQ.size)
  have hn : (w0.drew.alloc (.cells #[u1, u2] 24)).heap[w0.heap.size]? = some (.cells #[u1, u2] 24) := heap_new _ _
  have hn2 := (hb2.block _ (heap_lt hn)).trans hn
  refine (probes2_walk (fun z hz => Nat.lt_of_lt_of_le (hXl z hz) hb.size) hi2 hl2 (hu1.below hb) (hu2.below hb) (box_cell hn2 0) (box_cell hn2 1)).mono ?_
  rintro e w3 ⟨v, us, h1, h2, h3, h4⟩
  exact ⟨v, us, h1, h2, h3, hb.trans (h4.mono hb.size)⟩

set_option maxHeartbeats 16000000 in
theorem match_check {kb eb mb ab : Nat} {lim : Int} {regs : List Int} {ad : Addr} {X : Nat → Prop} {w : World} {nb : Nat} {A : List Nd} (hC : MD kb eb mb ab lim regs ad X w nb A) (hlim : lim ≤ 65536) {r : Int} (hr : Valid A r)
    {o0 o1 o2 o3 o6 : Int} {wv pv : Value} {wd pd : Word} (hw : Ints X w wv wd) (hwz : Nz wv) (hwl : wd.length ≤ 65536) (hp : Ints X w pv pd) (hpz : Nz pv) (hpl : pd.length ≤ 65536) :
    Calls Tryz.prog 58 #[.pointer (some ⟨kb, 0, none⟩), .int .i64 r, .agg #[.int .i64 o0, .int .i64 o1, .int .i64 o2, .int .i64 o3, wv, pv, .int .i64 o6]] w (SPost X w eb mb ab nb lim A) := by
  obtain ⟨rv, k0, k1, k2, _⟩ := hC.mc.cells
  have HC0 := hideIt hC
  have Hr := hideIt hr
  have Hw := hideIt hw
  have Hwz := hideIt hwz
  have Hp := hideIt hp
  have Hpz := hideIt hpz
  obtain ⟨wa, wcp, rfl, _, _, _⟩ := hw
  obtain ⟨pa, pcp, rfl, _, _, _⟩ := hp
  have lk := hC.mc.lk
  have HB0 : Hid (Below w.heap.size w (w.alloc (.cells #[.int .i64 o0, .int .i64 o1, .int .i64 o2, .int .i64 o3, .slice wa wd.length wcp, .slice pa pd.length pcp, .int .i64 o6] 31))) := alloc_below _
  have HbB : Hid ((w.alloc (.cells #[.int .i64 o0, .int .i64 o1, .int .i64 o2, .int .i64 o3, .slice wa wd.length wcp, .slice pa pd.length pcp, .int .i64 o6] 31)).heap[w.heap.size]? = some (.cells #[.int .i64 o0, .int .i64 o1, .int .i64 o2, .int .i64 o3, .slice wa wd.length wcp, .slice pa pd.length pcp, .int .i64 o6] 31)) := heap_new _ _
  clear hC hr hwz hpz
  go_enter Tryz.func58, Tryz.ntmps58
  go_wp2_with fail
  go_at_call 30
  refine (mplain_walk _ r rfl _ (HC0.out.below HB0.out).mc.en.st Hr.out).mono ?_
  rintro e w0 ⟨bp, rfl, hbp, hb0⟩
  have Hbp := hideIt hbp
  have HB1 := hideIt (HB0.out.trans (hb0.mono HB0.out.size))
  have bB := (hb0.block _ (heap_lt HbB.out)).trans HbB.out
  have y4 := box_cell bB 4
  have y5 := box_cell bB 5
  simp only [List.getElem?_toArray, List.getElem?_cons_zero, List.getElem?_cons_succ] at y4 y5
  have lB : w.heap.size < w0.heap.size := heap_lt bB
  have HC1 := hideIt (HC0.out.below HB1.out)
  have Hw1 := hideIt (Hw.out.below HB1.out (Nat.le_refl _))
  have Hp1 := hideIt (Hp.out.below HB1.out (Nat.le_refl _))
  have KP : Hid (∀ (w2 : World), Below w0.heap.size w0 w2 → w2.cell? ⟨w.heap.size, 4, none⟩ = some (.slice wa wd.length wcp) ∧ w2.cell? ⟨w.heap.size, 5, none⟩ = some (.slice pa pd.length pcp)) := fun w2 h => ⟨(h.cell (p := ⟨w.heap.size, 4, none⟩) lB).trans y4, (h.cell (p := ⟨w.heap.size, 5, none⟩) lB).trans y5⟩
  have Hxl : Hid (∀ z, X z → z < w0.heap.size) := HC1.out.mc.en.st.xlt
  clear hbp hb0 bB HbB k0 k1 k2
  go_upto_region 2 with fail
  go_cut [31, 32, 33] (fun v n i wx => ∃ us, LW X wx v us ∧ us.length ≤ 10000000 ∧ Below w0.heap.size w0 wx ∧ n = .int .i64 us.length ∧ i = .int .i64 0)
  case first =>
    go_region_held3 (fun w' => w'.cell? ⟨w.heap.size, 4, none⟩ = some (.slice wa wd.length wcp) ∧ w'.cell? ⟨w.heap.size, 5, none⟩ = some (.slice pa pd.length pcp)) (first | (exact KP.out _ hb3) | (exact KP.out _ hbR) | go_keep)
      (first
        | (go_at_call 15; refine (cut_walk2 Hw1.out Hwz.out hwl).mono ?_; rintro e w1' ⟨ua, un, uc, rfl, hu1, hw1'⟩; obtain rfl := hw1'.symm)
        | (go_at_call 15; refine (cut_walk2 Hp1.out Hpz.out hpl).mono ?_; rintro e w1' ⟨va, vn, vc, rfl, hu2, hw1'⟩; obtain rfl := hw1'.symm)
        | (go_at_call 29; have hbQ : Below w0.heap.size w0 w0.drew := below_d _; refine (HC1.out.reps' hbQ Hr.out).mono ?_; rintro e w2 ⟨v2, cs2, rfl, hi2, hl2, hb2⟩; have hbR := hbQ.trans (hb2.mono hbQ.size))
        | (go_at_call 29; have hbQ : Below w0.heap.size w0 (w0.drew.alloc (.cells #[.slice ua un uc, .slice va vn vc] 24)) := (below_d _).alloc (below_d _).size _; refine (HC1.out.reps' hbQ Hr.out).mono ?_; rintro e w2 ⟨v2, cs2, rfl, hi2, hl2, hb2⟩; have hbR := hbQ.trans (hb2.mono hbQ.size))
        | (go_at_call 36; refine (probes_i Hxl.out hbR hi2 hl2 hu1 hu2).mono ?_; rintro e w3 ⟨v3, us, rfl, hlw, hus, hb3⟩; have hlw' := hlw.1; obtain ⟨xa, xc, ev, _, _, _⟩ := hlw'; subst ev)
        | (go_at_call 36; refine (probes_ii Hxl.out hb2 hi2 hl2 hu1 hu2).mono ?_; rintro e w3 ⟨v3, us, rfl, hlw, hus, hb3⟩; have hlw' := hlw.1; obtain ⟨xa, xc, ev, _, _, _⟩ := hlw'; subst ev))
    all_goals (try go_wp2_with fail)
    all_goals go_meet
    all_goals exact ⟨us, hlw, hus, hb3, rfl, rfl⟩
  case rest =>
    obtain ⟨us, hlw, hus, hbc, en, ei⟩ := hcut
    subst en
    subst ei
    have Hus : Hid (LW X wc u31 us) := hlw
    obtain ⟨xa, xc, ev, _, _, _⟩ := hlw.1
    subst ev
    have HGc := hideIt (((GrX.refl HC0.out.es).below HB1.out).below hbc)
    have HCc := hideIt (HC1.out.below hbc)
    clear hlw hbc HC1 Hw1 Hp1 KP Hxl y4 y5 lB HB1 HB0 Hw Hp Hwz Hpz
    have Hpr : Hid (∀ (X' : Nat → Prop) (wr : World) (nb' : Nat) (A' : List Nd), GrX X w eb mb ab nb lim A X' wr nb' A' → (PlainR A' r ↔ PlainR A r)) := fun X' wr nb' A' g => PlainR.le HC0.out.es.en.st.ar.wf g.le Hr.out
    go_wp2_with fail
    go_loopw [33] (fun i wr => ∃ (k : Nat) (X' : Nat → Prop) (nb' : Nat) (A' : List Nd), k ≤ us.length ∧ i = .int .i64 k ∧ GrX X w eb mb ab nb lim A X' wr nb' A' ∧ MD kb eb mb ab lim regs ad X' wr nb' A' ∧ LW X' wr (.slice xa us.length xc) us) (fun i _ => us.length - (intOf i).toNat)
    case atStart => exact ⟨0, X, nb, A, by omega, rfl, HGc.out, HCc.out, Hus.out⟩
    case round =>
      clear HGc HCc Hus
      obtain ⟨k, X1, nb1, A1, hk, rfl, hG, hM, hL⟩ := hrel
      have HG := hideIt hG
      have HM := hideIt hM
      have HL := hideIt hL
      have Hr1 := hideIt (hG.le.valid Hr.out)
      by_cases hlt : k < us.length
      · have hlt' : (k : Int) < (us.length : Int) := by omega
        obtain ⟨a4, c4, e4, _, _, h4⟩ := hL.1
        cases e4
        obtain ⟨g4, o4, rfl, _, hc4⟩ := h4 (fun e => by rw [e] at hlt; cases hlt)
        have ck := hc4 k hlt
        have hW := hL.2 _ (List.getElem_mem hlt)
        generalize us[k] = u at *
        obtain ⟨wd1, hl1, hi1, hz1⟩ := hW
        have Hi1 := hideIt hi1
        have Hz1 := hideIt hz1
        obtain ⟨ua, uc, rfl, _, _, _⟩ := hi1
        obtain ⟨_, k0, k1, _, _⟩ := hM.mc.cells
        have hl2 : wd1.length ≤ 1000 := by omega
        have hl3 : wd1.length ≤ 65536 := by omega
        clear h4 hc4 hG hM hL hz1
        go_wp2_with fail
        go_at_call 41
        refine (has_walk HM.out.mc.en.st Hi1.out hl2 Hr1.out).mono ?_
        rintro e w2 ⟨b2, rfl, hb2, hB2⟩
        have HG2 := hideIt (HG.out.below hB2)
        have HM2 := hideIt (HM.out.below hB2)
        have HL2 := hideIt (HL.out.below hB2)
        have Hi2 := hideIt (Hi1.out.below hB2 (Nat.le_refl _))
        have Hb2 := hideIt hb2
        obtain ⟨_, _, j1, _, _⟩ := HM2.out.mc.cells
        clear hb2 hB2 HG HM HL Hi1 k0 k1
        go_wp2_with fail
        go_at_call 55
        refine (Matches_walk hlim HM2.out.es HM2.out.gd HM2.out.lt Hr1.out Hi2.out hl2).mono ?_
        rintro e w3 ⟨X3, nb3, A3, b3, ev3, hg3, rfl, hh3⟩
        have HG3 := hideIt (HG2.out.trans hg3)
        have HM3 := hideIt (HM2.out.step hg3)
        have HL3 := hideIt (HL2.out.growX hg3 HM2.out.es)
        have Hi3 := hideIt (hg3.seq HM2.out.es Hi2.out)
        have Hr3 := hideIt (hg3.le.valid Hr1.out)
        have Hla : Hid (lang A3 r = lang A1 r) := hg3.le.lang HM2.out.es.en.st.ar.wf hg3.en.st.ar.wf Hr1.out
        obtain ⟨_, _, i1, _, _⟩ := HM3.out.mc.cells
        clear hg3 HG2 HM2 HL2 Hi2 Hr1 j1
        rcases hh3 with ⟨rfl, hb3⟩ | ⟨⟨t3, v3, rfl⟩, rfl, hf3⟩
        · have hbb : b3 = b2 := by
            have h1 := hb3
            rw [Hla.out] at h1
            exact Bool.eq_iff_iff.2 (h1.trans Hb2.out.symm)
          subst hbb
          clear hb3
          cases bp
          · go_wp2_with fail
            go_roundw
            case rel => exact ⟨k + 1, X3, nb3, A3, by omega, by go_num, HG3.out, HM3.out, HL3.out⟩
            case measure => simp [intOf]; omega
          · have Hpl : Hid (PlainR A3 r) := (Hpr.out _ _ _ _ HG3.out).2 (Hbp.out.1 rfl)
            go_wp2_with fail
            go_at_call 33
            refine (MatchesPartial_walk hlim HM3.out.es HM3.out.gn HM3.out.xn Hr3.out Hi3.out hl3).mono ?_
            rintro e w4 ⟨X4, nb4, A4, b4, ev4, hg4, rfl, hh4⟩
            have HG4 := hideIt (HG3.out.trans hg4)
            have HM4 := hideIt (HM3.out.step hg4)
            have HL4 := hideIt (HL3.out.growX hg4 HM3.out.es)
            have Hlb : Hid (lang A4 r = lang A3 r) := hg4.le.lang HM3.out.es.en.st.ar.wf hg4.en.st.ar.wf Hr3.out
            clear hg4 HG3 HM3 HL3 Hi3 Hr3 i1
            rcases hh4 with ⟨hp4, _⟩ | ⟨_, rfl, hb4⟩ | ⟨_, ⟨t4, v4, rfl⟩, rfl, hf4⟩
            · exact (hp4 Hpl.out).elim
            · have hbb : b4 = b3 := by
                have h1 := hb4
                rw [Hlb.out, Hla.out] at h1
                exact Bool.eq_iff_iff.2 (h1.trans Hb2.out.symm)
              subst hbb
              clear hb4
              go_wp2_with fail
              go_roundw
              case rel => exact ⟨k + 1, X4, nb4, A4, by omega, by go_num, HG4.out, HM4.out, HL4.out⟩
              case measure => simp [intOf]; omega
            · go_wp2_with fail
              go_ret
              exact ⟨X4, nb4, A4, false, HG4.out, rfl, fun _ => hf4.1⟩
        · go_wp2_with fail
          go_ret
          exact ⟨X3, nb3, A3, false, HG3.out, rfl, fun _ => hf3.1⟩
      · obtain rfl : k = us.length := by omega
        clear hG hM hL
        go_wp2_with fail
        go_ret
        exact ⟨X1, nb1, A1, true, HG.out, rfl, fun h => by cases h⟩
end Go.Proofs.Qxb6500848aGreatDoor
