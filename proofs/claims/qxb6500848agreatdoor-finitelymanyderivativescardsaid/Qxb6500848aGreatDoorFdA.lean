/-
  FinitelyManyDerivatives: the check.
-/
import Derived.Test.Qxb6500848aGreatDoorMtA
import Derived.Test.Qxb6500848aGreatDoorClD
import Derived.Test.Qxb6500848aGreatDoorExD
import Derived.Test.Qxb6500848aGreatDoorAgW
import Derived.Test.Qxb6500848aGreatDoorPrW
namespace Go.Proofs.Qxb6500848aGreatDoor
open Go.RowKit Pl Go.Maps
set_option maxRecDepth 100000

/-- What is known from the start. -/
structure FC (kb eb mb ab : Nat) (lim : Int) (regs : List Int) (X : Nat → Prop) (w : World) (nb : Nat) (A : List Nd) : Prop where
  mc : Mc X w kb eb mb ab nb lim A regs
  ax : Ax X w eb mb A
  gd : Gd tabC w
  xt : ¬ X 3

section
variable {kb eb mb ab : Nat} {lim : Int} {regs : List Int} {X X' : Nat → Prop} {w w' : World} {nb nb' : Nat} {A A' : List Nd}
theorem FC.es (h : FC kb eb mb ab lim regs X w nb A) : Es X w eb mb ab nb lim A := ⟨h.mc.en, h.ax⟩
theorem FC.lt (h : FC kb eb mb ab lim regs X w nb A) : 3 < w.heap.size := cell_lt (h.gd 0 (by omega))
theorem FC.step (h : FC kb eb mb ab lim regs X w nb A) (g : GrX X w eb mb ab nb lim A X' w' nb' A') : FC kb eb mb ab lim regs X' w' nb' A' :=
  ⟨h.mc.growX h.ax g, g.ax, fun j hj => g.cell h.es (h.gd j hj) h.xt, fun x => h.xt ((g.sub _ h.lt).1 x)⟩
theorem FC.below (h : FC kb eb mb ab lim regs X w nb A) (k : Below w.heap.size w w') : FC kb eb mb ab lim regs X w' nb A := h.step ((GrX.refl h.es).below k)
theorem FC.mk' (h : FC kb eb mb ab lim regs X w nb A) : Mk w kb ab eb := by
  obtain ⟨_, h0, h1, _⟩ := h.mc.cells
  exact ⟨h0, h1⟩
theorem FC.eng1 (h : FC kb eb mb ab lim regs X w nb A) : w.cell? ⟨kb, 1, none⟩ = some (.pointer (some ⟨eb, 0, none⟩)) := by
  obtain ⟨_, _, j1, _, _⟩ := h.mc.cells
  exact j1
theorem FC.repsC (h : FC kb eb mb ab lim regs X w nb A) {W : World} (k : Below w.heap.size w W) {x : Int} (hx : Valid A x) :
    Calls Tryz.prog 29 #[.pointer (some ⟨kb, 0, none⟩), .int .i64 x] W (fun e w' => ∃ v P, e = .returned v ∧ Ints X w' v (P.map (minF tabC)) ∧ P.length ≤ 196608 ∧ IsCut tabC A x P ∧ Below W.heap.size W w') := by
  refine (reps_walk tabC_bd (h.below k).mc.en.st (h.below k).gd (h.below k).lt (h.below k).mk' hx).mono ?_
  rintro e w' ⟨v, P, h1, h2, h3, h4, h5⟩
  exact ⟨v, P, h1, h2, h3, isCut_of tabC_ok h4, h5⟩
end

def FdK (lim : Int) (r : Int) (A1 : List Nd) (P : List (List Nat)) (K : List Int) (wh ok : Bool) : Prop :=
  (ok = false ∧ lim ≤ A1.length) ∨ (ok = true ∧ K.Nodup ∧ r ∈ K ∧ (∀ x ∈ K, Rc Ds A1 (P.map (minF tabC)) r x) ∧ (wh = true → Pl.Shut Ds A1 (P.map (minF tabC)) K) ∧ (wh = false → 120 < K.length))

theorem Pl.IsCut.alphD {A : List Nd} {r : Int} {P : List (List Nat)} (h : IsCut tabC A r P) : ∀ c ∈ P.map (minF tabC), 0 ≤ c ∧ c ≤ 196607 := fun c hc => by
  obtain ⟨p, hp, rfl⟩ := List.mem_map.1 hc
  obtain ⟨j, hj, rfl⟩ := List.getElem_of_mem hp
  exact (h.rep hj).1

set_option maxHeartbeats 16000000 in
theorem fmd_check {kb eb mb ab : Nat} {lim : Int} {regs : List Int} {X : Nat → Prop} {w : World} {nb : Nat} {A : List Nd} (hC : FC kb eb mb ab lim regs X w nb A) (hlim : lim ≤ 65536) {r : Int} (hr : Valid A r)
    {o0 o1 o2 o3 o6 : Int} {wv pv : Value} {wd pd : Word} (hw : Ints X w wv wd) (hp : Ints X w pv pd) :
    Calls Tryz.prog 42 #[.pointer (some ⟨kb, 0, none⟩), .int .i64 r, .agg #[.int .i64 o0, .int .i64 o1, .int .i64 o2, .int .i64 o3, wv, pv, .int .i64 o6]] w (SPost X w eb mb ab nb lim A) := by
  have HC0 := hideIt hC
  have Hr := hideIt hr
  obtain ⟨wa, wcp, rfl, _, _, _⟩ := hw
  obtain ⟨pa, pcp, rfl, _, _, _⟩ := hp
  have lk := hC.mc.lk
  have sM : (w.alloc (.cells #[.pointer (some ⟨kb, 0, none⟩)] 27)).heap.size = w.heap.size + 1 := Deep.nblk_alloc _ _
  have HB0 : Hid (Below w.heap.size w ((w.alloc (.cells #[.pointer (some ⟨kb, 0, none⟩)] 27)).alloc (.cells #[.int .i64 o0, .int .i64 o1, .int .i64 o2, .int .i64 o3, .slice wa wd.length wcp, .slice pa pd.length pcp, .int .i64 o6] 31))) := (alloc_below _).alloc (by omega) _
  have HbM : Hid (((w.alloc (.cells #[.pointer (some ⟨kb, 0, none⟩)] 27)).alloc (.cells #[.int .i64 o0, .int .i64 o1, .int .i64 o2, .int .i64 o3, .slice wa wd.length wcp, .slice pa pd.length pcp, .int .i64 o6] 31)).heap[w.heap.size]? = some (.cells #[.pointer (some ⟨kb, 0, none⟩)] 27)) := ((alloc_below (w := w.alloc (.cells #[.pointer (some ⟨kb, 0, none⟩)] 27)) (.cells #[.int .i64 o0, .int .i64 o1, .int .i64 o2, .int .i64 o3, .slice wa wd.length wcp, .slice pa pd.length pcp, .int .i64 o6] 31)).block w.heap.size (by omega)).trans (heap_new _ _)
  have HbB : Hid (((w.alloc (.cells #[.pointer (some ⟨kb, 0, none⟩)] 27)).alloc (.cells #[.int .i64 o0, .int .i64 o1, .int .i64 o2, .int .i64 o3, .slice wa wd.length wcp, .slice pa pd.length pcp, .int .i64 o6] 31)).heap[w.heap.size + 1]? = some (.cells #[.int .i64 o0, .int .i64 o1, .int .i64 o2, .int .i64 o3, .slice wa wd.length wcp, .slice pa pd.length pcp, .int .i64 o6] 31)) := by have := heap_new (w.alloc (.cells #[.pointer (some ⟨kb, 0, none⟩)] 27)) (.cells #[.int .i64 o0, .int .i64 o1, .int .i64 o2, .int .i64 o3, .slice wa wd.length wcp, .slice pa pd.length pcp, .int .i64 o6] 31); rw [sM] at this; exact this
  have HxM : Hid (¬ X w.heap.size) := fun x => by have := hC.mc.en.st.xlt _ x; omega
  have HxB : Hid (¬ X (w.heap.size + 1)) := fun x => by have := hC.mc.en.st.xlt _ x; omega
  clear hC hr sM
  go_enter Tryz.func42, Tryz.ntmps42
  go_wp2_with fail
  go_at_call 29
  refine (HC0.out.repsC HB0.out Hr.out).mono ?_
  rintro e w0 ⟨v2, P, rfl, hi2, hl2, hic, hb2⟩
  have HB1 := hideIt (HB0.out.trans (hb2.mono HB0.out.size))
  have HC1 := hideIt (HC0.out.below HB1.out)
  have HbM1 := hideIt ((hb2.block _ (heap_lt HbM.out)).trans HbM.out)
  have HbB1 := hideIt ((hb2.block _ (heap_lt HbB.out)).trans HbB.out)
  have Hi2 := hideIt hi2
  have Hic := hideIt hic
  clear hb2 hic HbM HbB hi2
  go_wp2_with fail
  go_at_call 43
  refine (closureD_walk HC1.out.es Hr.out Hi2.out Hic.out.alphD (by simpa using hl2) (fun X' w' nb' A' g x c hx hc => next1_walk hlim g.es (box_cell (g.block HC1.out.es HbM1.out HxM.out) 0) (HC1.out.step g).eng1 hc hx)).mono ?_
  rintro e W1 ⟨X1, nb1, A1, m, K, wh, ok, hg1, rfl, hk1, hf1⟩
  have HC2 := hideIt (HC1.out.step hg1)
  have Hwf1 : Hid (Wf A1) := hg1.en.st.ar.wf
  have HK1 := hideIt hk1
  have HG0 := hideIt (GrX.after HB1.out hg1)
  have hbM2 := hg1.block HC1.out.es HbM1.out HxM.out
  have hxM2 : ¬ X1 w.heap.size := fun x => HxM.out ((hg1.sub _ (heap_lt HbM1.out)).1 x)
  have HbM2 := hideIt hbM2
  have HxM2 := hideIt hxM2
  have z0 := box_cell hbM2 0
  have z3 := box_cell (hg1.block HC1.out.es HbB1.out HxB.out) 3
  simp only [List.getElem?_toArray, List.getElem?_cons_zero, List.getElem?_cons_succ] at z3 z0
  have lB1 : w.heap.size + 1 < W1.heap.size := Nat.lt_of_lt_of_le (heap_lt HbB1.out) hg1.ext.size
  have Hr1 := hideIt (hg1.le.valid Hr.out)
  have Hic1 := hideIt (Hic.out.le HC1.out.es.en.st.ar.wf hg1.le Hr.out)
  have l03 : w0.heap.size ≤ W1.heap.size := hg1.ext.size
  have lm3 : mb + 3 < w0.heap.size := by obtain ⟨_, _, m, _⟩ := HC1.out.ax.pn; exact m.lt
  obtain ⟨_, _, i1, _, _⟩ := HC2.out.mc.cells
  clear hg1 hk1 hbM2 hxM2
  rcases hf1 with ⟨rfl, hfull⟩ | ⟨rfl, hnd, hkr, hrc, hsh, hbg⟩
  · have Hfull := hideIt hfull
    clear hfull i1 z3 z0
    go_upto_region 2 with fail
    go_region
    go_wp2_with fail
    go_ret
    exact ⟨X1, nb1, A1, false, HG0.out.below (below_d _), rfl, fun _ => Hfull.out⟩
  · have hKf : K.length ≤ 65536 := by
      have h1 := few_of hnd (fun x hx => (hrc x hx).valid stpDs HC2.out.es.en.st.ar.wf Hr1.out)
      have h2 := HC2.out.es.en.st.ar.len
      omega
    have Hle : Hid (∀ n, Bp A1 r n → (K.length : Int) ≤ plusZ n 2) := fun n hb => hb.reached HC2.out.es.en.st.ar.wf Hr1.out hnd (fun z hz => (hrc z hz).rd Hic.out.alphD) (by omega)
    have Hag : Hid (∀ (A2 : List Nd) (L : List Int) (whL : Bool) (limit : Int), Wf A2 → Le A1 A2 → L.Nodup → r ∈ L → (∀ x ∈ L, Rc Ds A2 (P.map (minF tabC)) r x) → (whL = true → Pl.Shut Ds A2 (P.map (minF tabC)) L ∧ (L.length : Int) ≤ limit) → (whL = false → (L.length : Int) = max limit 0 + 1) → limit ≤ 120 → whL = (wh && decide ((K.length : Int) ≤ limit)) ∧ (whL = true → L.length = K.length) ∧ (wh = true → ∀ s ∈ L, s ∈ K)) := fun A2 L whL limit h2 h12 q1 q2 q3 q4 q5 q6 => agree_fact stpDs HC2.out.es.en.st.ar.wf h2 h12 Hr1.out hnd hkr hrc hsh hbg q1 q2 q3 q4 q5 q6
    have KP2 : Hid (∀ (w2 : World), Below W1.heap.size W1 w2 → w2.cell? ⟨w.heap.size, 0, none⟩ = some (.pointer (some ⟨kb, 0, none⟩)) ∧ w2.cell? ⟨kb, 1, none⟩ = some (.pointer (some ⟨eb, 0, none⟩)) ∧ (∀ ty : TypeId, (Builtin.len_ #[82] ty #[.map (some m)]).run Tryz.prog w2 = .ok (.int .i64 K.length) w2)) := fun w2 h => ⟨(h.cell (p := ⟨w.heap.size, 0, none⟩) (show w.heap.size < W1.heap.size by omega)).trans z0, (h.cell (p := ⟨kb, 1, none⟩) HC2.out.mc.lk).trans i1, (HK1.out.below h).len⟩
    have hlD : ∀ ty : TypeId, (Builtin.len_ #[82] ty #[.map (some m)]).run Tryz.prog W1.drew = .ok (.int .i64 K.length) W1.drew := (HK1.out.below (below_d W1)).len
    have hl0 : ∀ ty : TypeId, (Builtin.len_ #[82] ty #[.map (some m)]).run Tryz.prog W1 = .ok (.int .i64 K.length) W1 := HK1.out.len
    clear hnd hkr hrc hsh hbg
    go_upto_region 2 with fail
    go_cut [37] (fun v wx => v = .bool false ∧ Below W1.heap.size W1 wx)
    case first =>
      go_region_held3 (fun w' => w'.cell? ⟨w.heap.size, 0, none⟩ = some (.pointer (some ⟨kb, 0, none⟩)) ∧ w'.cell? ⟨kb, 1, none⟩ = some (.pointer (some ⟨eb, 0, none⟩)) ∧ (∀ ty : TypeId, (Builtin.len_ #[82] ty #[.map (some m)]).run Tryz.prog w' = .ok (.int .i64 K.length) w')) (first | (exact KP2.out _ hbR) | (exact KP2.out _ (below_d _)) | (exact KP2.out _ (Below.refl _ _)) | go_keep)
        (first | (go_at_call 45; have hbQ : Below W1.heap.size W1 W1.drew := below_d _; refine (StateBound_walk (HC2.out.below hbQ).es Hr1.out).mono ?_; rintro e w5 ⟨n, rfl, hbd, hb5⟩; have hbR : Below W1.heap.size W1 w5 := hbQ.trans (hb5.mono hbQ.size); have hl5 : ∀ ty : TypeId, (Builtin.len_ #[82] ty #[.map (some m)]).run Tryz.prog w5 = .ok (.int .i64 K.length) w5 := (HK1.out.below hbR).len; have hno : ¬ (plusZ n 2 < (K.length : Int)) := (by have := Hle.out n hbd; omega)))
      all_goals (try go_wp2_with fail)
      all_goals go_meet
      all_goals exact ⟨by rw [decide_eq_false (by omega)], hbR⟩
    case rest =>
      obtain ⟨e48, hbx⟩ := hcut
      subst e48
      have hf0 : 0 ≤ o3 % 8 := Int.emod_nonneg _ (by omega)
      have hf1 : o3 % 8 ≤ 7 := by have := Int.emod_lt_of_pos o3 (show (0 : Int) < 8 by omega); omega
      have HG3 := hideIt (HG0.out.below hbx)
      have HC3 := hideIt (HC2.out.below hbx)
      have HK3 := hideIt (HK1.out.below hbx)
      have z3' : wc.cell? ⟨w.heap.size + 1, 3, none⟩ = some (.int .i64 o3) := (hbx.cell (p := ⟨w.heap.size + 1, 3, none⟩) lB1).trans z3
      have Hfo := hideIt (fun W => fold_walk o3 8 (by decide) (by decide) W)
      generalize o3 % 8 = f at *
      have HbL : Hid ((wc.alloc (.cells #[.int .i64 120, .int .i64 (f - 1)] 3)).heap[wc.heap.size]? = some (.cells #[.int .i64 120, .int .i64 (f - 1)] 3)) := heap_new _ _
      have HaL : Hid (Below wc.heap.size wc (wc.alloc (.cells #[.int .i64 120, .int .i64 (f - 1)] 3))) := alloc_below _
      have HxL : Hid (¬ X1 wc.heap.size) := fun x => by have := HC3.out.mc.en.st.xlt _ x; omega
      have HbM3 := hideIt ((hbx.block _ (heap_lt HbM2.out)).trans HbM2.out)
      clear hbx hlD hl0 i1 z3 z0 HC2 HK1 HG0 KP2 Hle
      go_wp2_with (go_at_call 46; refine (Hfo.out _).mono ?_; rintro e w' ⟨rfl, hw'⟩; obtain rfl := hw'.symm)
      go_loopw [44] (fun i wr => ∃ (k : Nat) (X' : Nat → Prop) (nb' : Nat) (A' : List Nd), k ≤ 2 ∧ i = .int .i64 k ∧ GrX X w eb mb ab nb lim A X' wr nb' A' ∧ FC kb eb mb ab lim regs X' wr nb' A' ∧ Le A1 A' ∧ Kn w0.heap.size X' wr m K ∧ wr.heap[wc.heap.size]? = some (.cells #[.int .i64 120, .int .i64 (f - 1)] 3) ∧ ¬ X' wc.heap.size ∧ wr.heap[w.heap.size]? = some (.cells #[.pointer (some ⟨kb, 0, none⟩)] 27) ∧ ¬ X' w.heap.size) (fun i _ => 2 - (intOf i).toNat)
      case atStart => exact ⟨0, X1, nb1, A1, by omega, rfl, HG3.out.below HaL.out, HC3.out.below HaL.out, Le.refl _, HK3.out.below HaL.out, HbL.out, HxL.out, (HaL.out.block _ (heap_lt HbM3.out)).trans HbM3.out, HxM2.out⟩
      case round =>
        clear HG3 HC3 HK3 HbL HaL HxL z3'
        obtain ⟨k, X2, nb2, A2, hk, rfl, hG, hM, hL12, hK, hbl, hxl, hbm, hxm⟩ := hrel
        have HG := hideIt hG
        have HM := hideIt hM
        have HL12 := hideIt hL12
        have HK := hideIt hK
        have Hbl := hideIt hbl
        have Hxl := hideIt hxl
        have Hbm := hideIt hbm
        have Hxm := hideIt hxm
        have zm := box_cell hbm 0
        simp only [List.getElem?_toArray, List.getElem?_cons_zero] at zm
        obtain ⟨_, q0, q1, q2, _⟩ := hM.mc.cells
        by_cases hlt : k < 2
        · have hlt' : (k : Int) < 2 := by omega
          obtain ⟨lv, hlv0, hlv1, cl⟩ : ∃ lv : Int, -1 ≤ lv ∧ lv ≤ 120 ∧ wr.cell? ⟨wc.heap.size, k, none⟩ = some (.int .i64 lv) := by
            have : k = 0 ∨ k = 1 := by omega
            rcases this with rfl | rfl
            · exact ⟨120, by omega, by omega, box_cell hbl 0⟩
            · exact ⟨f - 1, by omega, by omega, box_cell hbl 1⟩
          have Hr2 := hideIt (hL12.valid Hr1.out)
          clear hG hM hL12 hK hbl hxl hbm hxm
          go_wp2_with fail
          go_at_call 47
          refine (States_walk hlim HM.out.es HM.out.gd HM.out.lt hlv0 hlv1 Hr2.out (Hic1.out.le Hwf1.out HL12.out Hr1.out)).mono ?_
          rintro e w5 ⟨X5, nb5, A5, v5, wh5, ev5, hg5, rfl, hh5⟩
          have HG5 := hideIt (HG.out.trans hg5)
          have HM5 := hideIt (HM.out.step hg5)
          have HK5 := hideIt (HK.out.growX lm3 HM.out.es hg5)
          have Hbl5 := hideIt (hg5.block HM.out.es Hbl.out Hxl.out)
          have HL5 := hideIt (HL12.out.trans hg5.le)
          have Hxl5 : Hid (¬ X5 wc.heap.size) := fun x => Hxl.out ((hg5.sub _ (heap_lt Hbl.out)).1 x)
          have Hbm5 := hideIt (hg5.block HM.out.es Hbm.out Hxm.out)
          have Hxm5 : Hid (¬ X5 w.heap.size) := fun x => Hxm.out ((hg5.sub _ (heap_lt Hbm.out)).1 x)
          clear hg5 q0 q1 q2 zm
          rcases hh5 with ⟨rfl, L, hL, hLn, hLr, hLc, hLw, hL2⟩ | ⟨⟨t5, u5, rfl⟩, hf5⟩
          · obtain ⟨a1, a2, a3⟩ := Hag.out A5 L wh5 lv HG5.out.en.st.ar.wf HL5.out hLn hLr hLc hLw hL2 hlv1
            have hval : ∀ s ∈ L, Valid A5 s := fun s hs => (hLc s hs).valid stpDs HG5.out.en.st.ar.wf (HL5.out.valid Hr1.out)
            have hA5 := HG5.out.en.st.ar.len
            have hLf : L.length ≤ 65536 := by have := few_of hLn hval; omega
            have HAg := hideIt (agrees_walk HK5.out hL hLn hLf hKf (fun s hs => ⟨(hval s hs).1, by have h1 := (hval s hs).2; have h2 := (hval s hs).1; omega⟩) hlv0 hlv1 a1 a2 hL2 a3)
            obtain ⟨la, lc, rfl, _, _, _⟩ := hL
            clear hLn hLr hLc hLw hL2 a1 a2 a3 hval
            go_wp2_with fail
            go_at_call 48
            refine HAg.out.mono ?_
            rintro e w6 ⟨rfl, hb6⟩
            have HG6 := hideIt (HG5.out.below hb6)
            have HM6 := hideIt (HM5.out.below hb6)
            have HK6 := hideIt (HK5.out.below hb6)
            have Hbl6 := hideIt ((hb6.block _ (heap_lt Hbl5.out)).trans Hbl5.out)
            have Hbm6 := hideIt ((hb6.block _ (heap_lt Hbm5.out)).trans Hbm5.out)
            clear hb6
            go_wp2_with fail
            go_roundw
            case rel => exact ⟨k + 1, X5, nb5, A5, by omega, by go_num, HG6.out, HM6.out, HL5.out, HK6.out, Hbl6.out, Hxl5.out, Hbm6.out, Hxm5.out⟩
            case measure => simp [intOf]; omega
          · have HP : Hid (SPost X w eb mb ab nb lim A (.returned (.bool false)) w5) := ⟨X5, nb5, A5, false, HG5.out, rfl, fun _ => hf5⟩
            clear hf5
            go_wp2_with fail
            go_ret
            exact HP.out
        · obtain rfl : k = 2 := by omega
          clear hG hM hL12 hK hbl hxl hbm hxm
          go_wp2_with fail
          go_ret
          exact ⟨X2, nb2, A2, true, HG.out, rfl, (fun e => by cases e)⟩
end Go.Proofs.Qxb6500848aGreatDoor
