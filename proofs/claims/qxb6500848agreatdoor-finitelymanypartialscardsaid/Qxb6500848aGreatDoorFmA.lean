/-
  FinitelyManyPartials: the check.
-/
import Derived.Test.Qxb6500848aGreatDoorMtA
import Derived.Test.Qxb6500848aGreatDoorExP
import Derived.Test.Qxb6500848aGreatDoorAgW
import Derived.Test.Qxb6500848aGreatDoorBdW
namespace Go.Proofs.Qxb6500848aGreatDoor
open Go.RowKit Pl Go.Maps
set_option maxRecDepth 100000

def FmK (lim : Int) (r : Int) (A1 : List Nd) (P : List (List Nat)) (K : List Int) (wh ok : Bool) : Prop :=
  (ok = false ∧ lim ≤ A1.length) ∨ (ok = true ∧ K.Nodup ∧ r ∈ K ∧ (∀ x ∈ K, Rc Par A1 (P.map (minF tabC)) r x) ∧ (wh = true → Pl.Shut Par A1 (P.map (minF tabC)) K) ∧ (wh = false → 120 < K.length))

theorem MD.repsC {kb eb mb ab : Nat} {lim : Int} {regs : List Int} {ad : Addr} {X : Nat → Prop} {w : World} {nb : Nat} {A : List Nd} (h : MD kb eb mb ab lim regs ad X w nb A) {W : World} (k : Below w.heap.size w W) {x : Int} (hx : Valid A x) :
    Calls Tryz.prog 29 #[.pointer (some ⟨kb, 0, none⟩), .int .i64 x] W (fun e w' => ∃ v P, e = .returned v ∧ Ints X w' v (P.map (minF tabC)) ∧ P.length ≤ 196608 ∧ IsCut tabC A x P ∧ Below W.heap.size W w') := by
  refine (h.reps k hx).mono ?_
  rintro e w' ⟨v, P, h1, h2, h3, h4, h5⟩
  exact ⟨v, P, h1, h2, h3, isCut_of tabC_ok h4, h5⟩

theorem Pl.IsCut.alph {A : List Nd} {r : Int} {P : List (List Nat)} (h : IsCut tabC A r P) : ∀ c ∈ P.map (minF tabC), 0 ≤ c ∧ c ≤ 196607 := fun c hc => by
  obtain ⟨p, hp, rfl⟩ := List.mem_map.1 hc
  obtain ⟨j, hj, rfl⟩ := List.getElem_of_mem hp
  exact (h.rep hj).1

theorem MD.eng1 {kb eb mb ab : Nat} {lim : Int} {regs : List Int} {ad : Addr} {X : Nat → Prop} {w : World} {nb : Nat} {A : List Nd} (h : MD kb eb mb ab lim regs ad X w nb A) : w.cell? ⟨kb, 1, none⟩ = some (.pointer (some ⟨eb, 0, none⟩)) := by
  obtain ⟨_, _, j1, _, _⟩ := h.mc.cells
  exact j1

def FmR (r : Int) (P : List (List Nat)) (X : Nat → Prop) (w0 : World) (eb mb ab nb : Nat) (lim : Int) (A : List Nd) (e : Ending) (w' : World) : Prop :=
  ∃ X1 nb1 A1 m K wh ok, e = .returned (.tuple #[.map (some m), .bool wh, .bool ok]) ∧ GrX X w0 eb mb ab nb lim A X1 w' nb1 A1 ∧ Kn w0.heap.size X1 w' m K ∧ FmK lim r A1 P K wh ok

theorem MD.clo {kb eb mb ab : Nat} {lim : Int} {regs : List Int} {ad : Addr} {X : Nat → Prop} {w0 : World} {nb : Nat} {A : List Nd} (h : MD kb eb mb ab lim regs ad X w0 nb A) (hlim : lim ≤ 65536) {W : World} (k : Below w0.heap.size w0 W) {r : Int} (hr : Valid A r) (hp : PlainR A r) {v : Value} {P : List (List Nat)} (hi : Ints X W v (P.map (minF tabC))) (hl : P.length ≤ 196608) (hc : IsCut tabC A r P) :
    Calls Tryz.prog 43 #[.int .i64 r, v, .func (.func 31) #[.pointer (some ⟨eb, 0, none⟩)] #[]] W (FmR r P X w0 eb mb ab nb lim A) := by
  refine (closureP_walk hlim (h.below k).es hr hp hi hc.alph (by simpa using hl)).mono ?_
  rintro e w' ⟨X1, nb1, A1, m, K, wh, ok, h1, h2, h3, h4⟩
  exact ⟨X1, nb1, A1, m, K, wh, ok, h2, GrX.after k h1, ⟨Nat.le_trans k.size h3.base, h3.nx, h3.mp⟩, h4⟩

set_option maxHeartbeats 16000000 in
theorem fmp_check {kb eb mb ab : Nat} {lim : Int} {regs : List Int} {ad : Addr} {X : Nat → Prop} {w : World} {nb : Nat} {A : List Nd} (hC : MD kb eb mb ab lim regs ad X w nb A) (hlim : lim ≤ 65536) {r : Int} (hr : Valid A r)
    {o0 o1 o2 o3 o6 : Int} {wv pv : Value} {wd pd : Word} (hw : Ints X w wv wd) (hp : Ints X w pv pd) :
    Calls Tryz.prog 49 #[.pointer (some ⟨kb, 0, none⟩), .int .i64 r, .agg #[.int .i64 o0, .int .i64 o1, .int .i64 o2, .int .i64 o3, wv, pv, .int .i64 o6]] w (SPost X w eb mb ab nb lim A) := by
  obtain ⟨rv, k0, k1, k2, _⟩ := hC.mc.cells
  have HC0 := hideIt hC
  have Hr := hideIt hr
  obtain ⟨wa, wcp, rfl, _, _, _⟩ := hw
  obtain ⟨pa, pcp, rfl, _, _, _⟩ := hp
  have lk := hC.mc.lk
  have HB0 : Hid (Below w.heap.size w (w.alloc (.cells #[.int .i64 o0, .int .i64 o1, .int .i64 o2, .int .i64 o3, .slice wa wd.length wcp, .slice pa pd.length pcp, .int .i64 o6] 31))) := alloc_below _
  have HbB : Hid ((w.alloc (.cells #[.int .i64 o0, .int .i64 o1, .int .i64 o2, .int .i64 o3, .slice wa wd.length wcp, .slice pa pd.length pcp, .int .i64 o6] 31)).heap[w.heap.size]? = some (.cells #[.int .i64 o0, .int .i64 o1, .int .i64 o2, .int .i64 o3, .slice wa wd.length wcp, .slice pa pd.length pcp, .int .i64 o6] 31)) := heap_new _ _
  clear hC hr
  go_enter Tryz.func49, Tryz.ntmps49
  go_wp2_with fail
  go_at_call 30
  refine (mplain_walk _ r rfl _ (HC0.out.below HB0.out).mc.en.st Hr.out).mono ?_
  rintro e w0 ⟨bp, rfl, hbp, hb0⟩
  have HB1 := hideIt (HB0.out.trans (hb0.mono HB0.out.size))
  cases bp
  · have HP : Hid (SPost X w eb mb ab nb lim A (.returned (.bool true)) w0) := ⟨X, nb, A, true, (GrX.refl HC0.out.es).below HB1.out, rfl, (fun e => by cases e)⟩
    clear hbp hb0
    go_wp2_with fail
    go_ret
    exact HP.out
  · have Hpl := hideIt (hbp.1 rfl)
    have bB := (hb0.block _ (heap_lt HbB.out)).trans HbB.out
    have y3 := box_cell bB 3
    simp only [List.getElem?_toArray, List.getElem?_cons_zero, List.getElem?_cons_succ] at y3
    have lB : w.heap.size < w0.heap.size := heap_lt bB
    have HC1 := hideIt (HC0.out.below HB1.out)
    have HxB : Hid (¬ X w.heap.size) := fun x => by have := HC0.out.mc.en.st.xlt _ x; omega
    obtain ⟨_, j0, j1, j2, _⟩ := HC1.out.mc.cells
    have KP : Hid (∀ (w2 : World), Below w0.heap.size w0 w2 → w2.cell? ⟨kb, 1, none⟩ = some (.pointer (some ⟨eb, 0, none⟩))) := fun w2 h => (h.cell (p := ⟨kb, 1, none⟩) HC1.out.mc.lk).trans j1
    have Hy3 := hideIt y3
    clear hbp hb0 bB HbB k0 k1 k2 y3 j0 j2
    go_upto_region 3 with fail
    go_cut [7, 8, 9] (fun v7 v8 v9 wx => ∃ X1 nb1 A1 m K wh ok P, v7 = .map (some m) ∧ v8 = .bool wh ∧ v9 = .bool ok ∧ GrX X w0 eb mb ab nb lim A X1 wx nb1 A1 ∧ Kn w0.heap.size X1 wx m K ∧ IsCut tabC A r P ∧ FmK lim r A1 P K wh ok)
    case first =>
      go_region_held3 (fun w' => w'.cell? ⟨kb, 1, none⟩ = some (.pointer (some ⟨eb, 0, none⟩))) (first | (exact KP.out _ hbR) | (exact (HC1.out.step hg1).eng1) | go_keep)
        (first
          | (go_at_call 29; have hbQ : Below w0.heap.size w0 w0.drew := below_d _; refine (HC1.out.repsC hbQ Hr.out).mono ?_; rintro e w2 ⟨v2, P, rfl, hi2, hl2, hic, hb2⟩; have hbR := hbQ.trans (hb2.mono hbQ.size))
          | (go_at_call 43; refine (HC1.out.clo hlim hbR Hr.out Hpl.out hi2 hl2 hic).mono ?_; rintro e w3 ⟨X1, nb1, A1, m, K, wh, ok, rfl, hg1, hk1, hf1⟩))
      all_goals (try go_wp2_with fail)
      all_goals go_meet
      all_goals exact ⟨X1, nb1, A1, m, K, wh, ok, P, rfl, rfl, rfl, hg1, hk1, hic, hf1⟩
    case rest =>
      obtain ⟨X1, nb1, A1, m, K, wh, ok, P, e7, e8, e9, hg1, hk1, hic, hf1⟩ := hcut
      subst e7
      subst e8
      subst e9
      obtain ⟨W1, hW1⟩ : ∃ W, W = wc := ⟨_, rfl⟩
      subst hW1
      have HC2 := hideIt (HC1.out.step hg1)
      have Hwf1 : Hid (Wf A1) := hg1.en.st.ar.wf
      have HK1 := hideIt hk1
      have Hic := hideIt hic
      have HG0 := hideIt (GrX.after HB1.out hg1)
      have z3 : W1.cell? ⟨w.heap.size, 3, none⟩ = some (.int .i64 o3) := hg1.cell HC1.out.es Hy3.out HxB.out
      have lB1 : w.heap.size < W1.heap.size := Nat.lt_of_lt_of_le lB hg1.ext.size
      have Hr1 := hideIt (hg1.le.valid Hr.out)
      have Hpl1 := hideIt ((PlainR.le HC1.out.es.en.st.ar.wf hg1.le Hr.out).2 Hpl.out)
      have Hic1 := hideIt (hic.le HC1.out.es.en.st.ar.wf hg1.le Hr.out)
      have l03 : w0.heap.size ≤ W1.heap.size := hg1.ext.size
      have lm3 : mb + 3 < w0.heap.size := by obtain ⟨_, _, m, _⟩ := HC1.out.ax.pn; exact m.lt
      obtain ⟨_, _, i1, _, _⟩ := HC2.out.mc.cells
      clear hg1 hk1 hic j1 KP
      rcases hf1 with ⟨rfl, hfull⟩ | ⟨rfl, hnd, hkr, hrc, hsh, hbg⟩
      · have Hfull := hideIt hfull
        clear hfull i1 z3
        go_upto_region 4 with fail
        go_region
        go_wp2_with fail
        go_ret
        exact ⟨X1, nb1, A1, false, HG0.out.below (below_d _), rfl, fun _ => Hfull.out⟩
      · have hKf : K.length ≤ 65536 := by
          have h1 := few_of hnd (fun x hx => (hrc x hx).valid stpPar HC2.out.es.en.st.ar.wf Hr1.out)
          have h2 := HC2.out.es.en.st.ar.len
          omega
        have Hle : Hid (∀ n, Bd A1 r n → (K.length : Int) ≤ plusZ n 1) := fun n hb => reached_few HC2.out.es.en.st.ar.wf Hr1.out hb hnd hrc (by omega)
        have Hag : Hid (∀ (A2 : List Nd) (L : List Int) (whL : Bool) (limit : Int), Wf A2 → Le A1 A2 → L.Nodup → r ∈ L → (∀ x ∈ L, Rc Par A2 (P.map (minF tabC)) r x) → (whL = true → Pl.Shut Par A2 (P.map (minF tabC)) L ∧ (L.length : Int) ≤ limit) → (whL = false → (L.length : Int) = max limit 0 + 1) → limit ≤ 120 → whL = (wh && decide ((K.length : Int) ≤ limit)) ∧ (whL = true → L.length = K.length) ∧ (wh = true → ∀ s ∈ L, s ∈ K)) := fun A2 L whL limit h2 h12 q1 q2 q3 q4 q5 q6 => agree_fact stpPar HC2.out.es.en.st.ar.wf h2 h12 Hr1.out hnd hkr hrc hsh hbg q1 q2 q3 q4 q5 q6
        have KP2 : Hid (∀ (w2 : World), Below W1.heap.size W1 w2 → w2.cell? ⟨kb, 1, none⟩ = some (.pointer (some ⟨eb, 0, none⟩)) ∧ (∀ ty : TypeId, (Builtin.len_ #[82] ty #[.map (some m)]).run Tryz.prog w2 = .ok (.int .i64 K.length) w2)) := fun w2 h => ⟨(h.cell (p := ⟨kb, 1, none⟩) HC2.out.mc.lk).trans i1, (HK1.out.below h).len⟩
        have hlD : ∀ ty : TypeId, (Builtin.len_ #[82] ty #[.map (some m)]).run Tryz.prog W1.drew = .ok (.int .i64 K.length) W1.drew := (HK1.out.below (below_d W1)).len
        have hl0 : ∀ ty : TypeId, (Builtin.len_ #[82] ty #[.map (some m)]).run Tryz.prog W1 = .ok (.int .i64 K.length) W1 := HK1.out.len
        clear hnd hkr hrc hsh hbg
        go_upto_region 4 with fail
        go_cut [48] (fun v wx => v = .bool false ∧ Below W1.heap.size W1 wx)
        case first =>
          go_region_held3 (fun w' => w'.cell? ⟨kb, 1, none⟩ = some (.pointer (some ⟨eb, 0, none⟩)) ∧ (∀ ty : TypeId, (Builtin.len_ #[82] ty #[.map (some m)]).run Tryz.prog w' = .ok (.int .i64 K.length) w')) (first | (exact KP2.out _ hbR) | (exact KP2.out _ (below_d _)) | (exact KP2.out _ (Below.refl _ _)) | go_keep)
            (first | (go_at_call 50; have hbQ : Below W1.heap.size W1 W1.drew := below_d _; refine (PartialBound_walk (HC2.out.below hbQ).es Hr1.out).mono ?_; rintro e w5 ⟨n, rfl, hbd, hb5⟩; have hbR : Below W1.heap.size W1 w5 := hbQ.trans (hb5.mono hbQ.size); have hl5 : ∀ ty : TypeId, (Builtin.len_ #[82] ty #[.map (some m)]).run Tryz.prog w5 = .ok (.int .i64 K.length) w5 := (HK1.out.below hbR).len; have hno : ¬ (plusZ n 1 < (K.length : Int)) := (by have := Hle.out n hbd; omega)))
          all_goals (try go_wp2_with fail)
          all_goals go_meet
          all_goals exact ⟨by rw [decide_eq_false (by omega)], hbR⟩
        case rest =>
          obtain ⟨e48, hbx⟩ := hcut
          subst e48
          have hf0 : 0 ≤ o3 % 8 := Int.emod_nonneg _ (by omega)
          have hf1 : o3 % 8 ≤ 7 := by have := Int.emod_lt_of_pos o3 (show (0 : Int) < 8 by omega); omega
          have HG3 := hideIt (HG0.out.below hbx)
          have HC3 := hideIt (HC2.out.below hbx)
          have HK3 := hideIt (HK1.out.below hbx)
          have z3' : wc.cell? ⟨w.heap.size, 3, none⟩ = some (.int .i64 o3) := (hbx.cell (p := ⟨w.heap.size, 3, none⟩) lB1).trans z3
          have Hfo := hideIt (fun W => fold_walk o3 8 (by decide) (by decide) W)
          generalize o3 % 8 = f at *
          have HbL : Hid ((wc.alloc (.cells #[.int .i64 120, .int .i64 (f - 1)] 3)).heap[wc.heap.size]? = some (.cells #[.int .i64 120, .int .i64 (f - 1)] 3)) := heap_new _ _
          have HaL : Hid (Below wc.heap.size wc (wc.alloc (.cells #[.int .i64 120, .int .i64 (f - 1)] 3))) := alloc_below _
          have HxL : Hid (¬ X1 wc.heap.size) := fun x => by have := HC3.out.mc.en.st.xlt _ x; omega
          clear hbx hlD hl0 i1 z3 HC2 HK1 HG0 KP2 Hle
          go_wp2_with (go_at_call 46; refine (Hfo.out _).mono ?_; rintro e w' ⟨rfl, hw'⟩; obtain rfl := hw'.symm)
          go_loopw [55] (fun i wr => ∃ (k : Nat) (X' : Nat → Prop) (nb' : Nat) (A' : List Nd), k ≤ 2 ∧ i = .int .i64 k ∧ GrX X w eb mb ab nb lim A X' wr nb' A' ∧ MD kb eb mb ab lim regs ad X' wr nb' A' ∧ Le A1 A' ∧ Kn w0.heap.size X' wr m K ∧ wr.heap[wc.heap.size]? = some (.cells #[.int .i64 120, .int .i64 (f - 1)] 3) ∧ ¬ X' wc.heap.size) (fun i _ => 2 - (intOf i).toNat)
          case atStart => exact ⟨0, X1, nb1, A1, by omega, rfl, HG3.out.below HaL.out, HC3.out.below HaL.out, Le.refl _, HK3.out.below HaL.out, HbL.out, HxL.out⟩
          case round =>
            clear HG3 HC3 HK3 HbL HaL HxL z3'
            obtain ⟨k, X2, nb2, A2, hk, rfl, hG, hM, hL12, hK, hbl, hxl⟩ := hrel
            have HG := hideIt hG
            have HM := hideIt hM
            have HL12 := hideIt hL12
            have HK := hideIt hK
            have Hbl := hideIt hbl
            have Hxl := hideIt hxl
            obtain ⟨_, q0, q1, q2, _⟩ := hM.mc.cells
            by_cases hlt : k < 2
            · have hlt' : (k : Int) < 2 := by omega
              obtain ⟨lv, hlv0, hlv1, cl⟩ : ∃ lv : Int, -1 ≤ lv ∧ lv ≤ 120 ∧ wr.cell? ⟨wc.heap.size, k, none⟩ = some (.int .i64 lv) := by
                have : k = 0 ∨ k = 1 := by omega
                rcases this with rfl | rfl
                · exact ⟨120, by omega, by omega, box_cell hbl 0⟩
                · exact ⟨f - 1, by omega, by omega, box_cell hbl 1⟩
              have Hr2 := hideIt (hL12.valid Hr1.out)
              have Hpl2 := hideIt ((PlainR.le Hwf1.out HL12.out Hr1.out).2 Hpl1.out)
              clear hG hM hL12 hK hbl hxl
              go_wp2_with fail
              go_at_call 34
              refine (PartialStates_walk hlim HM.out.es HM.out.gd HM.out.lt HM.out.xt hlv0 hlv1 Hr2.out Hpl2.out (Hic1.out.le Hwf1.out HL12.out Hr1.out)).mono ?_
              rintro e w5 ⟨X5, nb5, A5, v5, wh5, ev5, hg5, rfl, hh5⟩
              have HG5 := hideIt (HG.out.trans hg5)
              have HM5 := hideIt (HM.out.step hg5)
              have HK5 := hideIt (HK.out.growX lm3 HM.out.es hg5)
              have Hbl5 := hideIt (hg5.block HM.out.es Hbl.out Hxl.out)
              have HL5 := hideIt (HL12.out.trans hg5.le)
              have Hxl5 : Hid (¬ X5 wc.heap.size) := fun x => Hxl.out ((hg5.sub _ (heap_lt Hbl.out)).1 x)
              clear hg5 q0 q1 q2
              rcases hh5 with ⟨rfl, L, hL, hLn, hLr, hLc, hLw, hL2⟩ | ⟨⟨t5, u5, rfl⟩, hf5⟩
              · obtain ⟨a1, a2, a3⟩ := Hag.out A5 L wh5 lv HG5.out.en.st.ar.wf HL5.out hLn hLr hLc hLw hL2 hlv1
                have hval : ∀ s ∈ L, Valid A5 s := fun s hs => (hLc s hs).valid stpPar HG5.out.en.st.ar.wf (HL5.out.valid Hr1.out)
                have hA5 := HG5.out.en.st.ar.len
                have hLf : L.length ≤ 65536 := by have := few_of hLn hval; omega
                have HAg := hideIt (agrees_walk HK5.out hL hLn hLf hKf (fun s hs => ⟨(hval s hs).1, by have h1 := (hval s hs).2; have h2 := (hval s hs).1; omega⟩) hlv0 hlv1 a1 a2 hL2 a3)
                obtain ⟨la, lc, rfl, _, _, _⟩ := hL
                clear hLn hLr hLc hLw hL2 a1 a2 a3 hval
                go_wp2_with fail
                go_at_call 48
                refine HAg.out.mono ?_
                rintro e w6 ⟨rfl, hb6⟩
                have HG6 := hideIt (HG5.out.below hb6)
                have HM6 := hideIt (HM5.out.below hb6)
                have HK6 := hideIt (HK5.out.below hb6)
                have Hbl6 := hideIt ((hb6.block _ (heap_lt Hbl5.out)).trans Hbl5.out)
                clear hb6
                go_wp2_with fail
                go_roundw
                case rel => exact ⟨k + 1, X5, nb5, A5, by omega, by go_num, HG6.out, HM6.out, HL5.out, HK6.out, Hbl6.out, Hxl5.out⟩
                case measure => simp [intOf]; omega
              · have HP : Hid (SPost X w eb mb ab nb lim A (.returned (.bool false)) w5) := ⟨X5, nb5, A5, false, HG5.out, rfl, fun _ => hf5⟩
                clear hf5
                go_wp2_with fail
                go_ret
                exact HP.out
            · obtain rfl : k = 2 := by omega
              clear hG hM hL12 hK hbl hxl
              go_wp2_with fail
              go_ret
              exact ⟨X2, nb2, A2, true, HG.out, rfl, (fun e => by cases e)⟩
end Go.Proofs.Qxb6500848aGreatDoor
