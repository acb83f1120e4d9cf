/-
  The outer closure of the law.
-/
import Derived.Test.Qxb6500848aDoorHolds
namespace Go.Proofs.Qxb6500848aDoor
open Go.RowKit Pl Go.Maps
set_option maxRecDepth 100000

def CPost (X : Nat → Prop) (w : World) (eb mb ab nb : Nat) (lim : Int) (A : List Nd) (e : Ending) (w' : World) : Prop :=
  ∃ X' nb' A' b, GrE X w eb mb ab nb lim A X' w' nb' A' ∧ e = .returned (.bool b) ∧ (b = false → lim ≤ A'.length)

/-- What the check keeps: the machine, the characters, the words, the boxes. -/
structure CK (X : Nat → Prop) (w : World) (kb eb mb ab nb : Nat) (lim : Int) (A : List Nd) (regs : List Int) (bx ox wx : Nat) (ob : Obj) (cv : Value) (cs : List Int) (wv : Value) (us : List Value) (pv : Value) (wd : Word) (X' : Nat → Prop) (wr : World) (nb' : Nat) (A' : List Nd) : Prop where
  gr : GrE X w eb mb ab nb lim A X' wr nb' A'
  mc : Mc X' wr kb eb mb ab nb' lim A' regs
  ints : Ints X' wr cv cs
  lw : LW X' wr wv us
  wrd : Ints X' wr pv wd
  c1 : wr.cell? ⟨bx, 0, none⟩ = some (.pointer (some ⟨kb, 0, none⟩))
  c2 : wr.cell? ⟨wx, 0, none⟩ = some wv
  c3 : wr.heap[ox]? = some ob
  n1 : ¬ X' bx
  n2 : ¬ X' wx
  n3 : ¬ X' ox

theorem CK.step {X : Nat → Prop} {w : World} {kb eb mb ab nb : Nat} {lim : Int} {A : List Nd} {regs : List Int} {bx ox wx : Nat} {ob : Obj} {cv : Value} {cs : List Int} {wv : Value} {us : List Value} {pv : Value} {wd : Word} {X' X'' : Nat → Prop} {wr w2 : World} {nb' nb'' : Nat} {A' A'' : List Nd}
    (h : CK X w kb eb mb ab nb lim A regs bx ox wx ob cv cs wv us pv wd X' wr nb' A') (g : GrE X' wr eb mb ab nb' lim A' X'' w2 nb'' A'') : CK X w kb eb mb ab nb lim A regs bx ox wx ob cv cs wv us pv wd X'' w2 nb'' A'' :=
  ⟨h.gr.trans g, h.mc.grow g, g.seq h.mc.en h.ints, h.lw.grow h.mc.en g, g.seq h.mc.en h.wrd, (g.ext.cell (p := ⟨bx, 0, none⟩) (cell_lt h.c1) (h.mc.en.out h.n1)).trans h.c1, (g.ext.cell (p := ⟨wx, 0, none⟩) (cell_lt h.c2) (h.mc.en.out h.n2)).trans h.c2, (g.ext.block ox (heap_lt h.c3) (h.mc.en.out h.n3)).trans h.c3,
    fun e => h.n1 ((g.sub bx (cell_lt h.c1)).1 e), fun e => h.n2 ((g.sub wx (cell_lt h.c2)).1 e), fun e => h.n3 ((g.sub ox (heap_lt h.c3)).1 e)⟩

set_option maxHeartbeats 16000000 in
theorem check_walk {tab : Nat → Int} (ht : ∀ j, j < 64 → 0 ≤ tab j ∧ tab j ≤ 255) {X : Nat → Prop} {w : World} {kb eb mb ab nb : Nat} {lim : Int} {A : List Nd} {regs : List Int} (hM : Mc X w kb eb mb ab nb lim A regs) (hlim : lim ≤ 65536) (hg : Gd tab w) (hw0 : 0 < w.heap.size) {r : Int} (hr : Valid A r)
    {o0 o1 o2 o3 o6 : Int} {wv pv : Value} {wd pd : Word} (hw : Ints X w wv wd) (hwz : Nz wv) (hwl : wd.length ≤ 65536) (hp : Ints X w pv pd) (hpz : Nz pv) (hpl : pd.length ≤ 65536) :
    Calls Tryd.prog 6 #[.pointer (some ⟨kb, 0, none⟩), .int .i64 r, .agg #[.int .i64 o0, .int .i64 o1, .int .i64 o2, .int .i64 o3, wv, pv, .int .i64 o6]] w (CPost X w eb mb ab nb lim A) := by
  obtain ⟨rv, k0, k1, k2, _⟩ := hM.cells
  have hxl := hM.en.st.xlt
  have HM := hideIt hM
  have Hg := hideIt hg
  have Hw0 := hideIt hw0
  have Hr := hideIt hr
  have Ht := hideIt ht
  have Hw := hideIt hw
  have Hp := hideIt hp
  have Hwz := hideIt hwz
  have Hpz := hideIt hpz
  have Hxl := hideIt hxl
  have lk := hM.lk
  obtain ⟨wa, wc, rfl, _, _, _⟩ := hw
  obtain ⟨pa, pc, rfl, _, _, _⟩ := hp
  have HB0 : Hid (Below w.heap.size w ((w.alloc (.cells #[.pointer (some ⟨kb, 0, none⟩)] 25)).alloc (.cells #[.int .i64 o0, .int .i64 o1, .int .i64 o2, .int .i64 o3, .slice wa wd.length wc, .slice pa pd.length pc, .int .i64 o6] 30))) := (alloc_below _).trans ((alloc_below _).mono (by rw [Deep.nblk_alloc]; omega))
  have hB0c := fun (p : Addr) (h : p.block < w.heap.size) => HB0.out.cell (p := p) h
  have m0 := (hB0c ⟨kb, 0, none⟩ lk).trans k0
  have m1 := (hB0c ⟨kb, 1, none⟩ lk).trans k1
  have HMk : Hid (Mk ((w.alloc (.cells #[.pointer (some ⟨kb, 0, none⟩)] 25)).alloc (.cells #[.int .i64 o0, .int .i64 o1, .int .i64 o2, .int .i64 o3, .slice wa wd.length wc, .slice pa pd.length pc, .int .i64 o6] 30)) kb ab eb) := ⟨m0, m1⟩
  have HbA : Hid (((w.alloc (.cells #[.pointer (some ⟨kb, 0, none⟩)] 25)).alloc (.cells #[.int .i64 o0, .int .i64 o1, .int .i64 o2, .int .i64 o3, .slice wa wd.length wc, .slice pa pd.length pc, .int .i64 o6] 30)).heap[w.heap.size]? = some (.cells #[.pointer (some ⟨kb, 0, none⟩)] 25)) := (Deep.blk_alloc_lt _ _ _ (by rw [Deep.nblk_alloc]; omega)).trans (heap_new _ _)
  have HbB : Hid (((w.alloc (.cells #[.pointer (some ⟨kb, 0, none⟩)] 25)).alloc (.cells #[.int .i64 o0, .int .i64 o1, .int .i64 o2, .int .i64 o3, .slice wa wd.length wc, .slice pa pd.length pc, .int .i64 o6] 30)).heap[w.heap.size + 1]? = some (.cells #[.int .i64 o0, .int .i64 o1, .int .i64 o2, .int .i64 o3, .slice wa wd.length wc, .slice pa pd.length pc, .int .i64 o6] 30)) := new_at _ _ (Deep.nblk_alloc _ _)
  clear hM hg hw0 hr ht hwz hpz hxl hB0c m0 m1
  go_enter Tryd.func6, Tryd.ntmps6
  go_wp2_with fail
  go_at_call 7
  refine (reps_walk Ht.out (HM.out.en.st.below HB0.out (Nat.le_refl _)) (Hg.out.below HB0.out Hw0.out) (Nat.lt_of_lt_of_le Hw0.out HB0.out.size) HMk.out Hr.out).mono ?_
  rintro e w1 ⟨v1, cs, rfl, hcs, hcl, hb1⟩
  have bA := (hb1.block _ (heap_lt HbA.out)).trans HbA.out
  have bB := (hb1.block _ (heap_lt HbB.out)).trans HbB.out
  have y5 := box_cell bB 5
  simp only [List.getElem?_toArray, List.getElem?_cons_zero, List.getElem?_cons_succ] at y5
  have HB1 := hideIt (HB0.out.trans (hb1.mono HB0.out.size))
  have Hcs := hideIt hcs
  have HbA1 := hideIt bA
  have HbB1 := hideIt bB
  have lA := heap_lt bA
  have lB := heap_lt bB
  clear hcs hb1 bA bB
  go_wp2_with fail
  go_at_call 9
  refine (cut_walk (Hp.out.below HB1.out (Nat.le_refl _)) Hpz.out hpl).mono ?_
  rintro e w1' ⟨u, rfl, hui, huz, hw1'⟩
  obtain rfl := hw1'.symm
  have HWu : Hid (Wrd X w1 u 5) := ⟨_, by simp; omega, hui, huz⟩
  obtain ⟨qa, qc, equ, _, _, hq3⟩ := hui
  subst equ
  clear hq3 huz
  generalize (List.take 5 pd).length = qn at *
  go_wp2_with fail
  go_at_call 8
  refine (probes_walk (fun z hz => Nat.lt_of_lt_of_le (Hxl.out z hz) (Nat.le_trans HB1.out.size (alloc_below _).size)) (Hcs.out.below (alloc_below _) (Nat.le_refl _)) hcl (HWu.out.below (alloc_below _)) (box_cell (heap_new _ _) 0)).mono ?_
  rintro e w3 ⟨v3, us, rfl, hlw, hus, hb3⟩
  have hB13 : Below w1.heap.size w1 w3 := (alloc_below _).trans (hb3.mono (alloc_below _).size)
  have hB14 : ∀ o : Obj, Below w1.heap.size w1 (w3.alloc o) := fun o => hB13.alloc hB13.size o
  have HC0 : Hid (CK X w kb eb mb ab nb lim A regs w.heap.size (w.heap.size + 1) w3.heap.size (.cells #[.int .i64 o0, .int .i64 o1, .int .i64 o2, .int .i64 o3, .slice wa wd.length wc, .slice pa pd.length pc, .int .i64 o6] 30) v1 cs v3 us (.slice wa wd.length wc) wd X (w3.alloc (.cells #[v3] 32)) nb A) := by
    have hBw : Below w.heap.size w (w3.alloc (.cells #[v3] 32)) := HB1.out.trans ((hB14 _).mono HB1.out.size)
    have nX : ∀ b, w.heap.size ≤ b → ¬ X b := fun b hb hx => by have := Hxl.out b hx; omega
    have s3 := hB13.size
    exact ⟨(GrE.refl HM.out.en).below hBw (Nat.le_refl _), HM.out.below hBw, Hcs.out.below (hB14 _) (Nat.le_refl _), hlw.below (alloc_below _), Hw.out.below hBw (Nat.le_refl _), box_cell (((hB14 _).block _ lA).trans HbA1.out) 0, box_cell (heap_new _ _) 0, ((hB14 _).block _ lB).trans HbB1.out, nX _ (Nat.le_refl _), nX _ (by omega), nX _ (by omega)⟩
  obtain ⟨ca, cc, ecv, _, _, _⟩ := Hcs.out
  subst ecv
  obtain ⟨va, vc, ev3, _, _, _⟩ := hlw.1
  subst ev3
  clear hlw hb3 hB13 hB14
  go_wp2_with fail
  go_loopw [30] (fun i wr => ∃ (k : Nat) (X' : Nat → Prop) (nb' : Nat) (A' : List Nd), k ≤ cs.length ∧ i = .int .i64 k ∧ CK X w kb eb mb ab nb lim A regs w.heap.size (w.heap.size + 1) w3.heap.size (.cells #[.int .i64 o0, .int .i64 o1, .int .i64 o2, .int .i64 o3, .slice wa wd.length wc, .slice pa pd.length pc, .int .i64 o6] 30) (.slice ca cs.length cc) cs (.slice va us.length vc) us (.slice wa wd.length wc) wd X' wr nb' A') (fun i _ => cs.length - (intOf i).toNat)
  case atStart => exact ⟨0, X, nb, A, by omega, rfl, HC0.out⟩
  case round =>
    obtain ⟨k, X', nb', A', hk, rfl, hC⟩ := hrel
    by_cases hlt : k < cs.length
    · have hlt' : (k : Int) < (cs.length : Int) := by omega
      obtain ⟨ad, cap', e, _, _, h3⟩ := hC.ints
      cases e
      obtain ⟨g, o, rfl, _, hc⟩ := h3 (fun e => by rw [e] at hlt; cases hlt)
      have cu := hc k hlt
      generalize cs[k] = c at *
      have HC := hideIt hC
      clear h3 hc hC
      go_wp2_with fail
      go_at_call 10
      refine (holds_walk HC.out.mc hlim (HC.out.gr.le.valid Hr.out) HC.out.c1 HC.out.c2 HC.out.n1 HC.out.n2 HC.out.lw hus).mono ?_
      rintro e w5 ⟨X5, nb5, A5, z5, b5, hg5, rfl, ht5, hf5⟩
      cases b5
      · go_wp2_with fail
        go_ret
        exact ⟨X5, nb5, A5, false, HC.out.gr.trans hg5, rfl, fun _ => hf5 (by trivial)⟩
      · go_wp2_with fail
        go_roundw
        case rel => exact ⟨k + 1, X5, nb5, A5, by omega, by go_num, HC.out.step hg5⟩
        case measure => simp [intOf]; omega
    · obtain rfl : k = cs.length := by omega
      have y4 := box_cell hC.c3 4
      simp only [List.getElem?_toArray, List.getElem?_cons_zero, List.getElem?_cons_succ] at y4
      have HC := hideIt hC
      clear hC
      go_wp2_with fail
      go_at_call 9
      refine (cut_walk HC.out.wrd Hwz.out hwl).mono ?_
      rintro e w6 ⟨u2, rfl, hui, huz, hw6⟩
      obtain rfl := hw6.symm
      have Hui := hideIt hui
      have hl5 : (wd.take 5).length ≤ 5 := by simp; omega
      obtain ⟨ua, uc, eu, _, _, _⟩ := hui
      subst eu
      clear huz
      generalize hcw : wd.take 5 = cw at *
      generalize hwr2 : wr = w7 at *
      have HC7 : Hid (CK X w kb eb mb ab nb lim A regs w.heap.size (w.heap.size + 1) w3.heap.size (.cells #[.int .i64 o0, .int .i64 o1, .int .i64 o2, .int .i64 o3, .slice wa wd.length wc, .slice pa pd.length pc, .int .i64 o6] 30) (.slice ca cs.length cc) cs (.slice va us.length vc) us (.slice ua cw.length uc) cw X' w7 nb' A') := ⟨HC.out.gr, HC.out.mc, HC.out.ints, HC.out.lw, Hui.out, HC.out.c1, HC.out.c2, HC.out.c3, HC.out.n1, HC.out.n2, HC.out.n3⟩
      clear hwr2 hcw y4
      go_wp2_with fail
      go_loopw [1, 48] (fun rv i wr => ∃ (k : Nat) (r' : Int) (X' : Nat → Prop) (nb' : Nat) (A' : List Nd), k ≤ cw.length ∧ i = .int .i64 k ∧ rv = .int .i64 r' ∧ Valid A' r' ∧ CK X w kb eb mb ab nb lim A regs w.heap.size (w.heap.size + 1) w3.heap.size (.cells #[.int .i64 o0, .int .i64 o1, .int .i64 o2, .int .i64 o3, .slice wa wd.length wc, .slice pa pd.length pc, .int .i64 o6] 30) (.slice ca cs.length cc) cs (.slice va us.length vc) us (.slice ua cw.length uc) cw X' wr nb' A') (fun _ i _ => cw.length - (intOf i).toNat)
      case atStart => exact ⟨0, r, X', nb', A', by omega, rfl, rfl, HC.out.gr.le.valid Hr.out, HC7.out⟩
      case round =>
        obtain ⟨k2, r', X2, nb2, A2, hk2, rfl, rfl, hr2, hD⟩ := hrel
        by_cases hlt2 : k2 < cw.length
        · have hlt2' : (k2 : Int) < (cw.length : Int) := by omega
          obtain ⟨ad, cap', e, _, _, h3⟩ := hD.wrd
          cases e
          obtain ⟨g, o, rfl, _, hc⟩ := h3 (fun e => by rw [e] at hlt2; cases hlt2)
          have cu := hc k2 hlt2
          generalize cw[k2] = c at *
          have HD := hideIt hD
          have Hr2 := hideIt hr2
          clear h3 hc hD hr2
          go_wp2_with fail
          go_at_call 10
          refine (holds_walk HD.out.mc hlim Hr2.out HD.out.c1 HD.out.c2 HD.out.n1 HD.out.n2 HD.out.lw hus).mono ?_
          rintro e w5 ⟨X5, nb5, A5, z5, b5, hg5, rfl, ht5, hf5⟩
          cases b5
          · go_wp2_with fail
            go_ret
            exact ⟨X5, nb5, A5, false, HD.out.gr.trans hg5, rfl, fun _ => hf5 (by trivial)⟩
          · go_wp2_with fail
            go_roundw
            case rel => exact ⟨k2 + 1, z5, X5, nb5, A5, by omega, by go_num, rfl, ht5 (by trivial), HD.out.step hg5⟩
            case measure => simp [intOf]; omega
        · obtain rfl : k2 = cw.length := by omega
          have HD := hideIt hD
          clear hD
          go_wp2_with fail
          go_ret
          exact ⟨X2, nb2, A2, true, HD.out.gr, rfl, fun h => (by cases h)⟩
end Go.Proofs.Qxb6500848aDoor
