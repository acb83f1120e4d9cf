/-
  ask, walked.
-/
import Derived.Test.Qxb6500848aGreatDoorRfE
namespace Go.Proofs.Qxb6500848aGreatDoor
open Go.RowKit Pl Go.Maps
set_option maxRecDepth 100000

def AqPost (k oa ob : Int) (kb eb mb ab : Nat) (regs : List Int) (ad af an : Addr) (u p : Word) (X : Nat → Prop) (w : World) (nb : Nat) (A : List Nd) (e : Ending) (w' : World) : Prop :=
  ∃ X' nb' A' v, e = .returned v ∧ AskR k ob A' (rg regs oa) u p v ∧ MD kb eb mb ab 65536 regs ad X' w' nb' A' ∧ Sn X' w' ad af an ∧ Gz mb ab nb (w.heap.size + 2) X w A X' w' nb' A'

theorem two_new (w : World) (a b : Obj) : Below w.heap.size w ((w.alloc a).alloc b).drew ∧ ((w.alloc a).alloc b).drew.heap[w.heap.size]? = some a ∧ ((w.alloc a).alloc b).drew.heap[w.heap.size + 1]? = some b := by
  have s1 : ∀ (W : World) (o : Obj), (W.alloc o).heap.size = W.heap.size + 1 := Deep.nblk_alloc
  refine ⟨((alloc_below a).trans ((alloc_below b).mono (alloc_below a).size)).trans ((below_d _).mono (Nat.le_trans (alloc_below a).size (alloc_below b).size)), ?_, ?_⟩
  · exact ((below_d _).block _ (by rw [s1, s1]; omega)).trans (((alloc_below b).block _ (by rw [s1]; omega)).trans (heap_new _ _))
  · exact ((below_d _).block _ (by rw [s1, s1]; omega)).trans (new_at _ _ (s1 _ _))

theorem ints_take {Z : Nat → Prop} {W : World} {ad : Option Addr} {n cap : Nat} {wd : Word} (h : Ints Z W (.slice ad n cap) wd) (h5 : 5 < wd.length) : Ints Z W (.slice ad 5 cap) (wd.take 5) := by
  obtain ⟨ad', cap', e, h1, h2, h3⟩ := h
  cases e
  have hlen : (wd.take 5).length = 5 := by simp; omega
  obtain ⟨g, o, rfl, hx, hc⟩ := h3 (fun e => by rw [e] at h5; cases h5)
  refine ⟨some ⟨g, o, none⟩, cap, by rw [hlen], by omega, h2, fun _ => ⟨g, o, rfl, hx, fun j hj => ?_⟩⟩
  rw [List.getElem_take]
  exact hc j (by omega)
set_option maxHeartbeats 1000000 in
/-- Cut, in whatever world; the word lies in an older one. -/
theorem cut_far {Z : Nat → Prop} {w3 : World} {v : Value} {wd : Word} (h : ∀ W, Below w3.heap.size w3 W → Ints Z W v wd) (W : World) :
    Calls Tryz.prog 15 #[v] W fun e w' => ∃ ua un uc, e = .returned (.slice ua un uc) ∧ (∀ W', Below w3.heap.size w3 W' → Ints Z W' (.slice ua un uc) (wd.take 5)) ∧ w' = W := by
  obtain ⟨ad, cap, rfl, h1, h2, h3⟩ := h w3 (Below.refl _ _)
  have H := hideIt h
  clear h
  by_cases h5 : 5 < wd.length
  · obtain ⟨g, o, rfl, hx, hc⟩ := h3 (fun e => by rw [e] at h5; cases h5)
    have h5' : (5 : Int) < (wd.length : Int) := by omega
    have hcap : (5 : Int) ≤ (cap : Int) := by omega
    clear h3 hc hx
    go_enter Tryz.func15, Tryz.ntmps15
    go_wp2
    go_ret
    exact ⟨_, _, _, rfl, fun W' hW' => ints_take (H.out W' hW') h5, rfl⟩
  · have h5' : ¬ (5 : Int) < (wd.length : Int) := by omega
    clear h3
    go_enter Tryz.func15, Tryz.ntmps15
    go_wp2
    go_ret
    exact ⟨_, _, _, rfl, fun W' hW' => by rw [List.take_of_length_le (by omega)]; exact H.out W' hW', rfl⟩

theorem ans_form {q : Prop} {v : Value} (h : Ans q v) : ∃ n, v = numV n := by
  obtain ⟨b, _, e⟩ := h
  exact ⟨_, e⟩
theorem ask_form {k ob : Int} {A : List Nd} {r : Int} {u p : Word} {v : Value} (h : AskR k ob A r u p v) : ∃ (f0 f1 f2 f3 : Bool) (n : Int), v = .agg #[.bool f0, .bool f1, .bool f2, .bool f3, .int .i64 n] := by
  have num : (∃ n, v = numV n) → ∃ (f0 f1 f2 f3 : Bool) (n : Int), v = .agg #[.bool f0, .bool f1, .bool f2, .bool f3, .int .i64 n] := fun ⟨n, e⟩ => ⟨_, _, _, _, n, e⟩
  rcases h with h | h
  · exact ⟨_, _, _, _, _, h⟩
  · unfold AskV at h
    split at h
    · exact num (ans_form h)
    · split at h
      · obtain ⟨P, _, h⟩ := h
        exact num (ans_form h)
      · split at h
        · rcases h with ⟨_, h⟩ | ⟨_, h⟩
          · exact num (ans_form h)
          · exact ⟨_, _, _, _, _, h⟩
        · split at h
          · exact num (ans_form h)
          · split at h
            · rcases h with ⟨_, h⟩ | ⟨_, h⟩
              · exact num (ans_form h)
              · exact ⟨_, _, _, _, _, h⟩
            · split at h
              · obtain ⟨P, _, h⟩ := h
                exact num ⟨_, h⟩
              · exact ⟨_, _, _, _, _, h⟩

set_option maxHeartbeats 8000000 in
theorem ask_walk {k oa ob oc o6 : Int} {wa pa : Option Addr} {wn wk pn pc : Nat} {kb eb mb ab : Nat} {regs : List Int} {ad af an : Addr} {X : Nat → Prop} {w : World} {nb : Nat} {A : List Nd} (hk : 15 ≤ k ∧ k ≤ 20) (h : MD kb eb mb ab 65536 regs ad X w nb A) (sn : Sn X w ad af an) (hl : regs.length ≤ 8) (hne : regs ≠ [])
    {wd pd : Word} (hw : Ints X w (.slice wa wn wk) wd) (hp : Ints X w (.slice pa pn pc) pd) :
    Calls Tryz.prog 98 #[.pointer (some ⟨kb, 0, none⟩), .agg (opA k oa ob oc (.slice wa wn wk) (.slice pa pn pc) o6)] w (AqPost k oa ob kb eb mb ab regs ad af an (wd.take 5) (pd.take 5) X w nb A) := by
  have s1 : ∀ (W : World) (o : Obj), (W.alloc o).heap.size = W.heap.size + 1 := Deep.nblk_alloc
  have hpos : 0 < regs.length := List.length_pos_iff.2 hne
  have hb0 : ((regs.length : Int) == 0) = false := by rw [beq_eq_false_iff_ne]; omega
  have lk := h.mc.lk
  obtain ⟨rv, m0, m1, m2, hR⟩ := h.mc.cells
  have hrl : ∃ ra rc, rv = .slice ra regs.length rc := by
    rcases hR with ⟨e, e2⟩ | ⟨rb, off, cap, _, e, _⟩
    · exact ⟨none, 0, by rw [e, e2]; rfl⟩
    · exact ⟨_, cap, e⟩
  obtain ⟨ra, rc, rfl⟩ := hrl
  have hB1 : Below w.heap.size w (((w.alloc (.cells #[.pointer (some ⟨kb, 0, none⟩)] 27)).alloc (.cells (opA k oa ob oc (.slice wa wn wk) (.slice pa pn pc) o6) 31)).alloc (.cells #[.bool false, .bool false, .bool false, .bool false, .int .i64 0] 95)) := ((alloc_below _).trans ((alloc_below _).mono (alloc_below _).size)).trans ((alloc_below _).mono (Nat.le_trans (alloc_below _).size (alloc_below _).size))
  have hz1 : (((w.alloc (.cells #[.pointer (some ⟨kb, 0, none⟩)] 27)).alloc (.cells (opA k oa ob oc (.slice wa wn wk) (.slice pa pn pc) o6) 31)).alloc (.cells #[.bool false, .bool false, .bool false, .bool false, .int .i64 0] 95)).heap.size = w.heap.size + 3 := by rw [s1, s1, s1]
  have hx0 : (((w.alloc (.cells #[.pointer (some ⟨kb, 0, none⟩)] 27)).alloc (.cells (opA k oa ob oc (.slice wa wn wk) (.slice pa pn pc) o6) 31)).alloc (.cells #[.bool false, .bool false, .bool false, .bool false, .int .i64 0] 95)).heap[w.heap.size]? = some (.cells #[.pointer (some ⟨kb, 0, none⟩)] 27 (0, 0)) := ((alloc_below _).block _ (by rw [s1, s1]; omega)).trans (((alloc_below _).block _ (by rw [s1]; omega)).trans (heap_new _ _))
  have hx1 : (((w.alloc (.cells #[.pointer (some ⟨kb, 0, none⟩)] 27)).alloc (.cells (opA k oa ob oc (.slice wa wn wk) (.slice pa pn pc) o6) 31)).alloc (.cells #[.bool false, .bool false, .bool false, .bool false, .int .i64 0] 95)).heap[w.heap.size + 1]? = some (.cells (opA k oa ob oc (.slice wa wn wk) (.slice pa pn pc) o6) 31 (0, 0)) := ((alloc_below _).block _ (by rw [s1, s1]; omega)).trans (new_at _ _ (s1 _ _))
  have HSt : Hid (∀ {W : World} {r : Int} {br bw bp : Nat} {wv pv : Value} {u p : Word}, Below (w.heap.size + 3) (((w.alloc (.cells #[.pointer (some ⟨kb, 0, none⟩)] 27)).alloc (.cells (opA k oa ob oc (.slice wa wn wk) (.slice pa pn pc) o6) 31)).alloc (.cells #[.bool false, .bool false, .bool false, .bool false, .int .i64 0] 95)) W → Valid A r → W.heap[br]? = some (.cells #[.int .i64 r] 28 (0, 0)) → w.heap.size + 3 ≤ br → W.heap[bw]? = some (.cells #[wv] 24 (0, 0)) → w.heap.size + 3 ≤ bw → W.heap[bp]? = some (.cells #[pv] 24 (0, 0)) → w.heap.size + 3 ≤ bp → Ints (fun b => X b ∨ b = w.heap.size + 2) W wv u → Ints (fun b => X b ∨ b = w.heap.size + 2) W pv p → u.length ≤ 5 → p.length ≤ 5 →
      AQ kb eb mb ab 65536 regs ad af an (w.heap.size + 2) (w.heap.size + 1) w.heap.size br bw bp (opA k oa ob oc (.slice wa wn wk) (.slice pa pn pc) o6) r wv pv u p (fun b => X b ∨ b = w.heap.size + 2) W nb A ∧ Gz mb ab nb (w.heap.size + 2) X w A (fun b => X b ∨ b = w.heap.size + 2) W nb A) := fun a1 a2 a3 a4 a5 a6 a7 a8 a9 a10 a11 a12 => AQ.start h sn _ a1 a2 a3 a4 a5 a6 a7 a8 a9 a10 a11 a12
  have Hmc := hideIt (h.below hB1).mc
  have Hmore : Hid (∀ b, b < w.heap.size → (X b ∨ b = w.heap.size + 2) → X b) := fun b hb q => q.elim id (fun e => by omega)
  have hlu : (wd.take 5).length ≤ 5 := by rw [List.length_take]; omega
  have hlp : (pd.take 5).length ≤ 5 := by rw [List.length_take]; omega
  have Hw := hideIt hw
  have Hp := hideIt hp
  clear h sn hR hw hp s1
  go_enter Tryz.func98, Tryz.ntmps98
  go_upto_region 1 with fail
  generalize hWW : (((w.alloc (.cells #[.pointer (some ⟨kb, 0, none⟩)] 27)).alloc (.cells (opA k oa ob oc (.slice wa wn wk) (.slice pa pn pc) o6) 31)).alloc (.cells #[.bool false, .bool false, .bool false, .bool false, .int .i64 0] 95)) = w1 at *
  have k2 := (hB1.cell (p := ⟨kb, 2, none⟩) lk).trans m2
  have c0 := box_cell hx0 0
  have o1 := box_cell hx1 1
  have o4 := box_cell hx1 4
  have o5 := box_cell hx1 5
  have o6' := box_cell hx1 6
  simp only [List.getElem?_toArray, List.getElem?_cons_zero, List.getElem?_cons_succ] at c0 o1 o4 o5 o6'
  have HB1 := hideIt hB1
  have HZ1 := hideIt hz1
  have l0 : w.heap.size < w1.heap.size := by omega
  have l1 : w.heap.size + 1 < w1.heap.size := by omega
  clear hB1 hz1 hx0 hx1 hWW m0 m1 m2
  have hx3 : ∀ r : Int, Below w1.heap.size w1 (w1.alloc (.cells #[.int .i64 r] 28)).drew ∧ (w1.alloc (.cells #[.int .i64 r] 28)).drew.heap[w1.heap.size]? = some (.cells #[.int .i64 r] 28 (0, 0)) := fun r => ⟨(alloc_below _).trans ((below_d _).mono (alloc_below _).size), ((below_d _).block _ (heap_lt (heap_new _ _))).trans (heap_new _ _)⟩
  have HX3 := hideIt hx3
  clear hx3
  go_upto_region 3 with fail
  go_wp2_with fail
  go_at_call 67
  refine (reg_walkD Hmc.out hne (by omega) oa).mono ?_
  rintro e wr ⟨r, hr, hrr, rfl, hwr⟩
  subst hwr
  have Hr := hideIt hr
  have Hrr : Hid (r = rg regs oa) := hrr
  clear hr hrr
  go_upto_region 4 with fail
  obtain ⟨hB3, hx3⟩ := HX3.out r
  generalize (w1.alloc (.cells #[.int .i64 r] 28)).drew = w3 at *
  have c0 := (hB3.cell (p := ⟨w.heap.size, 0, none⟩) l0).trans c0
  have o4 := (hB3.cell (p := ⟨w.heap.size + 1, 4, none⟩) l1).trans o4
  have o5 := (hB3.cell (p := ⟨w.heap.size + 1, 5, none⟩) l1).trans o5
  have o6' := (hB3.cell (p := ⟨w.heap.size + 1, 6, none⟩) l1).trans o6'
  have HB3 := hideIt hB3
  have Hx3 := hideIt hx3
  have l0 : w.heap.size < w3.heap.size := Nat.lt_of_lt_of_le l0 hB3.size
  have l1 : w.heap.size + 1 < w3.heap.size := Nat.lt_of_lt_of_le l1 hB3.size
  have HT := hideIt (fun a b => two_new w3 a b)
  have HIw : Hid (∀ W, Below w3.heap.size w3 W → Ints (fun b => X b ∨ b = w.heap.size + 2) W (.slice wa wn wk) wd) := fun W hW => (Hw.out.more Hmore.out).below ((HB1.out.trans (HB3.out.mono HB1.out.size)).trans (hW.mono (Nat.le_of_lt l0))) (Nat.le_refl _)
  have HIp : Hid (∀ W, Below w3.heap.size w3 W → Ints (fun b => X b ∨ b = w.heap.size + 2) W (.slice pa pn pc) pd) := fun W hW => (Hp.out.more Hmore.out).below ((HB1.out.trans (HB3.out.mono HB1.out.size)).trans (hW.mono (Nat.le_of_lt l0))) (Nat.le_refl _)
  clear hB3 hx3 HX3 o1 k2
  have HCw : Hid (∀ W, Calls Tryz.prog 15 #[.slice wa wn wk] W fun e w' => ∃ ua un uc, e = .returned (.slice ua un uc) ∧ (∀ W', Below w3.heap.size w3 W' → Ints (fun b => X b ∨ b = w.heap.size + 2) W' (.slice ua un uc) (wd.take 5)) ∧ w' = W) := fun W => cut_far HIw.out W
  have HCp : Hid (∀ W, Calls Tryz.prog 15 #[.slice pa pn pc] W fun e w' => ∃ ua un uc, e = .returned (.slice ua un uc) ∧ (∀ W', Below w3.heap.size w3 W' → Ints (fun b => X b ∨ b = w.heap.size + 2) W' (.slice ua un uc) (pd.take 5)) ∧ w' = W) := fun W => cut_far HIp.out W
  go_cut [6, 7] (fun v6 v7 wx => ∃ bw bp ua un uc qa qn qc, v6 = .pointer (some ⟨bw, 0, none⟩) ∧ v7 = .pointer (some ⟨bp, 0, none⟩) ∧ Below w3.heap.size w3 wx ∧ wx.heap[bw]? = some (.cells #[.slice ua un uc] 24 (0, 0)) ∧ w3.heap.size ≤ bw ∧ wx.heap[bp]? = some (.cells #[.slice qa qn qc] 24 (0, 0)) ∧ w3.heap.size ≤ bp ∧ Ints (fun b => X b ∨ b = w.heap.size + 2) wx (.slice ua un uc) (wd.take 5) ∧ Ints (fun b => X b ∨ b = w.heap.size + 2) wx (.slice qa qn qc) (pd.take 5))
  case first =>
    go_region_held3 (fun w' => w'.cell? ⟨w.heap.size + 1, 4, none⟩ = some (.slice wa wn wk) ∧ w'.cell? ⟨w.heap.size + 1, 5, none⟩ = some (.slice pa pn pc)) (go_keep)
      (first
        | (go_at_call_of 15 (Value.slice wa wn wk); refine (HCw.out _).mono ?_; rintro e w' ⟨ua, un, uc, rfl, hu1, hw'⟩; obtain rfl := hw'.symm; have Hu1 := hideIt hu1; clear hu1 hw')
        | (go_at_call_of 15 (Value.slice pa pn pc); refine (HCp.out _).mono ?_; rintro e w' ⟨qa, qn, qc, rfl, hu2, hw'⟩; obtain rfl := hw'.symm; have Hu2 := hideIt hu2; clear hu2 hw'))
    all_goals (try go_wp2_with fail)
    all_goals go_meet
    all_goals first
      | exact ⟨_, _, _, _, _, _, _, _, rfl, rfl, (HT.out _ _).1, (HT.out _ _).2.1, Nat.le_refl _, (HT.out _ _).2.2, Nat.le_succ _, Hu1.out _ (HT.out _ _).1, Hu2.out _ (HT.out _ _).1⟩
      | exact ⟨_, _, _, _, _, _, _, _, rfl, rfl, (HT.out _ _).1, (HT.out _ _).2.2, Nat.le_succ _, (HT.out _ _).2.1, Nat.le_refl _, Hu1.out _ (HT.out _ _).1, Hu2.out _ (HT.out _ _).1⟩
  case rest =>
    obtain ⟨bw, bp, ua, un, uc, qa, qn, qc, e6, e7, hBx, xw, lw, xp, lp, hu1, hu2⟩ := hcut
    subst e6
    subst e7
    have z1 := HZ1.out
    have z3 := HB3.out.size
    have hBw : Below (w.heap.size + 3) w1 wc := by rw [← z1]; exact HB3.out.trans (hBx.mono z3)
    have hr1 := (hBx.block w1.heap.size (heap_lt Hx3.out)).trans Hx3.out
    have HQ := hideIt (HSt.out hBw Hr.out.1 hr1 (by omega) xw (by omega) xp (by omega) hu1 hu2 hlu hlp)
    have c0 := (hBx.cell (p := ⟨w.heap.size, 0, none⟩) l0).trans c0
    have o6' := (hBx.cell (p := ⟨w.heap.size + 1, 6, none⟩) l1).trans o6'
    clear hBx xw lw xp lp hu1 hu2 hBw hr1 z1 z3
    go_wp2_with fail
    go_at_call 53
    refine (cramped_ask hk HQ.out.1 o6).mono ?_
    rintro e w5 ⟨rfl, X5, nb5, A5, q5, g5, v0, v1, v2, v3, v4, hd, hv⟩
    obtain ⟨f0, f1, f2, f3, n, ef⟩ := ask_form hv
    simp only [Value.agg.injEq] at ef
    cases ef
    have HQ5 := hideIt q5
    have HG5 := hideIt (HQ.out.2.trans g5)
    have HV := hideIt hv
    have d0 := box_cell hd 0
    have d1 := box_cell hd 1
    have d2 := box_cell hd 2
    have d3 := box_cell hd 3
    have d4 := box_cell hd 4
    have z : ∀ i, w5.frozen? ⟨w.heap.size + 2, i, none⟩ = false := fun i => by simp [World.frozen?, hd]
    have z0 := z 0
    have z1 := z 1
    have z2 := z 2
    have z3 := z 3
    have z4 := z 4
    simp only [List.getElem?_toArray, List.getElem?_cons_zero, List.getElem?_cons_succ] at d0 d1 d2 d3 d4
    have Hd := hideIt hd
    clear q5 g5 hv hd z
    go_wp2_with fail
    have hE := five_ext w5 (w.heap.size + 2) (.bool f0) (.bool f1) (.bool f2) (.bool f3) (.int .i64 n)
    have hH := five_heap Hd.out (.bool f0) (.bool f1) (.bool f2) (.bool f3) (.int .i64 n)
    have hT := HQ5.out.turn hE ⟨_, _, _, _, _, hH⟩
    refine bodyPost_ret (v := .agg #[.bool f0, .bool f1, .bool f2, .bool f3, .int .i64 n]) ?_ rfl ⟨X5, nb5, A5, _, rfl, by rw [← Hrr.out]; exact HV.out, hT.md, hT.sn, HG5.out.turn hE⟩
    exact results_cell_row (by exact Tryz.results98) _ _ (w.heap.size + 2) _ _ _ _ (by rfl) (by exact hH) Tryz.underlying95 rfl (by kernel_rfl)
end Go.Proofs.Qxb6500848aGreatDoor
