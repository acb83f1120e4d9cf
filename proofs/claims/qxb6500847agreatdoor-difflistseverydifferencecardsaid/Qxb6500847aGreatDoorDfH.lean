/-
  DiffListsEveryDifference: the walk.
-/
import Derived.Test.Qxb6500847aGreatDoorDfGb
import Derived.Test.Qxb6500847aGreatDoorOxRl
namespace Go.Proofs.Qxb6500847aGreatDoor.Os
open Go.RowKit FloorA
set_option maxRecDepth 100000
/-- A row of one's own as a list in memory. -/
theorem Sq.of_row {w : World} {B T k n : Nat} {v : Value} {xs : List Value} (h : w.ownsRow B T k v n xs) : Sq B w v n xs := by
  obtain ⟨ad, c, e⟩ := own_formD h
  refine ⟨ad, c, e, fun q => ?_⟩
  rcases h.2 with ⟨_, e2⟩ | ⟨g, cc, cur, e2, e3, e4, _⟩
  · omega
  · rw [e] at e2
    injection e2 with e2 _ _
    refine ⟨g, 0, e2, e3, fun j u hu => ?_⟩
    have := World.ownsRow.cells h (g := g) (by rw [e, e2]; rfl) j u hu
    have ead : (⟨g, 0, none⟩ : Addr).add j = ⟨g, 0 + j, none⟩ := by unfold Addr.add; by_cases e : j = 0 <;> simp [e]
    rwa [ead] at this
theorem dfCs_take (l : List Df) (m : Nat) {j : Nat} {u : Value} (h : (dfCs (l.take m))[j]? = some u) : (dfCs l)[j]? = some u := by
  have e : dfCs l = dfCs (l.take m) ++ dfCs (l.drop m) := by
    unfold dfCs
    rw [← List.flatMap_append, List.take_append_drop]
  rw [e, List.getElem?_append_left (List.getElem?_eq_some_iff.1 h).1]
  exact h
/-- The first of them, read out of the same list. -/
theorem Sq.take {w : World} {B m : Nat} {ad : Option Addr} {l : List Df} {c : Nat} (h : Sq B w (.slice ad l.length c) l.length (dfCs l)) : Sq B w (.slice ad (l.take m).length c) (l.take m).length (dfCs (l.take m)) := by
  obtain ⟨ad', c', e, g⟩ := h
  injection e with e1 _ e3
  subst e1 e3
  refine ⟨_, _, rfl, fun q => ?_⟩
  obtain ⟨b, o, x1, x2, x3⟩ := g (by rw [List.length_take] at q; omega)
  exact ⟨b, o, x1, x2, fun j u hu => x3 j u (dfCs_take l m hu)⟩
theorem dfL_small {M N : Nat → En} (hM : Mk M) : (dfL M N 320).length ≤ 37120 := dfL_le (N := N) 320 (fun i hi => hM.wlen i hi)
set_option maxHeartbeats 16000000 in
theorem dlaw_walk (w : World) (hg : Gl w) (a0 : Option Addr) (b off len cap : Nat) (f : Nat → OpV) (hml : len ≤ 1152921504606846976) (ha : 0 < len → a0 = some ⟨b, off, none⟩) (hn : a0 = none → len = 0 ∧ cap = 0) (hops : ∀ i, i < len → OpAt w b (off + i * 12) (f i)) :
    Calls Tryz.prog 8 #[.slice a0 len cap] w fun e w' => e = .returned (.bool true) ∧ Below w.heap.size w w' := by
  have HSM := hideIt (smallS_walk w a0 b off len cap f hml ha hops)
  have HSW := hideIt (fun hl => swap_walk w a0 b off len cap f hl ha hn hops)
  have HO := hideIt hops
  have HA : Hid (0 < len → a0 = some ⟨b, off, none⟩) := ha
  have HG := hideIt hg
  have HS7 := hideIt hg.sz
  obtain ⟨d37, hu37, hd37⟩ := un37
  have HS37 : Hid (∀ v : OpV, (Tryz.prog.info? 37).map (·.size) = some v.arr.toList.length) := fun v => by
    obtain ⟨i8, hi8, hz8, hs8, hb8⟩ := info_parts inf37
    rw [hi8, arr_len]; show some i8.size = _; rw [hs8]
  clear hg hops ha hn
  go_enter Tryz.func8, Tryz.ntmps8
  go_wp2_with fail
  go_at_call 10
  refine HSM.out.mono ?_
  rintro e w' ⟨hq, hw'⟩
  obtain rfl := hw'.symm
  clear hw' HSM
  rcases hq with rfl | ⟨rfl, hln⟩
  · go_wp2_with fail
    go_ret
    exact ⟨rfl, Below.refl _ _⟩
  go_wp2_with fail
  go_at_call 27
  refine (HSW.out hln).mono ?_
  rintro e w1 ⟨hb1, ad, c1, rfl, htw⟩
  have HB1 := hideIt hb1
  have HTW := hideIt htw
  have HG1 := hideIt (HG.out.below hb1)
  clear hb1 htw HSW HG
  go_wp2_with fail
  go_at_call 11
  refine (New_walk w1).mono ?_
  rintro e w2 ⟨A, rb, sb, s, rfl, hb2, hz2, hF2, hM2⟩
  have HB2 := hideIt hb2
  have HZ2 := hideIt hz2
  have HF2 := hideIt hF2
  have HM2 := hideIt hM2
  clear hb2 hz2 hF2 hM2
  go_wp2_with fail
  go_at_call 11
  refine (New_walk w2).mono ?_
  rintro e w3 ⟨A2, rb2, sb2, s2, rfl, hb3, hz3, hF3, hM3⟩
  have HB3 := hideIt hb3
  have HZ3 := hideIt hz3
  have HF3 := hideIt hF3
  have HM3 := hideIt hM3
  clear hb3 hz3 hF3 hM3
  go_wp2_with fail
  go_at_call 12
  refine (new_m _).mono ?_
  rintro e w5 ⟨rfl, hb5, _, hm5⟩
  have HB5 := hideIt hb5
  have HM5 := hideIt (hm5 M00 (fun _ => 0) (fun i hi => if_pos hi))
  clear hb5 hm5
  go_wp2_with fail
  go_at_call 12
  refine (new_m w5).mono ?_
  rintro e w6 ⟨rfl, hb6, _, hm6⟩
  have HD6 := hideIt (D4.init (f := f) (f2 := fun p => f (swp len p)) HG1.out HB2.out HZ2.out HF2.out HM2.out HB3.out HZ3.out HF3.out HM3.out HB5.out HM5.out hb6 (hm6 M00 (fun _ => 0) (fun i hi => if_pos hi)))
  have H41 : Hid (4 ≤ w1.heap.size) := HG1.out.sz
  clear hb6 hm6 HB2 HZ2 HF2 HM2 HB3 HZ3 HF3 HM3 HB5 HM5 HG1
  rw [show ((w3.alloc (.cells #[.pointer (some ⟨A, 0, none⟩)] 24)).alloc (.cells #[.pointer (some ⟨A2, 0, none⟩)] 24)).heap.size = w3.heap.size + 1 + 1 from by simp] at HD6
  generalize w3.heap.size + 1 + 1 = B at *
  generalize w5.heap.size = C at *
  generalize w3.heap.size + 1 = P2 at *
  generalize w3.heap.size = P at *
  go_wp2_with fail
  go_loopw [22] (fun v22 wr => ∃ k : Nat, k ≤ len ∧ v22 = .int .i64 (k : Int) ∧ D4 w1 f (fun p => f (swp len p)) P P2 B C k k k k wr) (fun i _ => len - (intOf i).toNat)
  case atStart => exact ⟨0, Nat.zero_le _, rfl, HD6.out⟩
  case round =>
    clear HD6
    obtain ⟨k, hk, rfl, hD⟩ := hrel
    have HD := hideIt hD
    clear hD
    by_cases hlt : k < len
    · have hlt' : (k : Int) < (len : Int) := by omega
      obtain rfl := HA.out (by omega)
      obtain ⟨g, rfl, _, hgl, htw⟩ := HTW.out (by omega)
      have HF1 : Hid (∀ W, Below w1.heap.size w1 W → OpAt W b (off + k * 12) (f k)) := fun W hW => (HO.out k hlt).below (HB1.out.trans (hW.mono HB1.out.size))
      have HF2 : Hid (∀ W, Below w1.heap.size w1 W → OpAt W g (k * 12) (f (swp len k))) := fun W hW => (htw k hlt).below hW
      have HR1 : Hid (∀ W, Below w1.heap.size w1 W → W.rangeAt b (off + k * 12) (f k).arr.toList) := fun W hW => (HF1.out W hW).rng
      have HR2 : Hid (∀ W, Below w1.heap.size w1 W → W.rangeAt g (k * 12) (f (swp len k)).arr.toList) := fun W hW => (HF2.out W hW).rng
      have HP1 : Hid (∀ W, D4 w1 f (fun p => f (swp len p)) P P2 B C k k k k W → Calls Tryz.prog 17 #[.pointer (some ⟨P, 0, none⟩), .agg (f k).arr.toList.toArray] W (RtP w1 f (fun p => f (swp len p)) P P2 B C (k + 1) k k k)) := fun W h => by rw [Array.toArray_toList]; exact h.play1 H41.out (HF1.out W h.bel)
      have HP2 : Hid (∀ W, D4 w1 f (fun p => f (swp len p)) P P2 B C (k + 1) k k k W → Calls Tryz.prog 17 #[.pointer (some ⟨P2, 0, none⟩), .agg (f (swp len k)).arr.toList.toArray] W (RtP w1 f (fun p => f (swp len p)) P P2 B C (k + 1) (k + 1) k k)) := fun W h => by rw [Array.toArray_toList]; exact h.play2 H41.out (HF2.out W h.bel)
      have HP3 : Hid (∀ W, D4 w1 f (fun p => f (swp len p)) P P2 B C (k + 1) (k + 1) k k W → Calls Tryz.prog 19 #[.pointer (some ⟨B, 0, none⟩), .agg (f k).arr.toList.toArray] W (RtP w1 f (fun p => f (swp len p)) P P2 B C (k + 1) (k + 1) (k + 1) k)) := fun W h => by rw [Array.toArray_toList]; exact h.step1 H41.out (HF1.out W h.bel)
      have HP4 : Hid (∀ W, D4 w1 f (fun p => f (swp len p)) P P2 B C (k + 1) (k + 1) (k + 1) k W → Calls Tryz.prog 19 #[.pointer (some ⟨C, 0, none⟩), .agg (f (swp len k)).arr.toList.toArray] W (RtP w1 f (fun p => f (swp len p)) P P2 B C (k + 1) (k + 1) (k + 1) (k + 1))) := fun W h => by rw [Array.toArray_toList]; exact h.step2 H41.out (HF2.out W h.bel)
      have HI1 := hideIt (HS37.out (f k))
      have HI2 := hideIt (HS37.out (f (swp len k)))
      clear HF1 HF2 hgl htw
      generalize (f k).arr.toList = o1 at *
      generalize (f (swp len k)).arr.toList = o2 at *
      have HX1 := hideIt (HR1.out wr HD.out.bel)
      go_wp2_with (refine wpList_load_mid rfl 37 (.tmp 27) rfl b (off + k * 12) rfl o1 d37 HX1.out hu37 hd37 HI1.out ?_)
      go_at_call 17
      refine (HP1.out wr HD.out).mono ?_
      rintro e w7 ⟨⟨v7, rfl⟩, hd7⟩
      have HD7 := hideIt hd7
      have HX2 := hideIt (HR2.out w7 hd7.bel)
      clear hd7 HX1 HD
      go_wp2_with (refine wpList_load_mid rfl 37 (.tmp 32) rfl g (k * 12) rfl o2 d37 HX2.out hu37 hd37 HI2.out ?_)
      go_at_call 17
      refine (HP2.out w7 HD7.out).mono ?_
      rintro e w8 ⟨⟨v8, rfl⟩, hd8⟩
      have HD8 := hideIt hd8
      have HX3 := hideIt (HR1.out w8 hd8.bel)
      clear hd8 HX2 HD7
      go_wp2_with (refine wpList_load_mid rfl 37 (.tmp 38) rfl b (off + k * 12) rfl o1 d37 HX3.out hu37 hd37 HI1.out ?_)
      go_at_call 19
      refine (HP3.out w8 HD8.out).mono ?_
      rintro e w9 ⟨⟨v9, rfl⟩, hd9⟩
      have HD9 := hideIt hd9
      have HX4 := hideIt (HR2.out w9 hd9.bel)
      clear hd9 HX3 HD8
      go_wp2_with (refine wpList_load_mid rfl 37 (.tmp 44) rfl g (k * 12) rfl o2 d37 HX4.out hu37 hd37 HI2.out ?_)
      go_at_call 19
      refine (HP4.out w9 HD9.out).mono ?_
      rintro e w10 ⟨⟨v10, rfl⟩, hd10⟩
      have HD10 := hideIt hd10
      have HMD := hideIt hd10.mdiff
      clear hd10 HX4 HD9 HP1 HP2 HP3 HP4 HR1 HR2 HI1 HI2
      go_wp2_with fail
      go_at_call 32
      refine HMD.out.mono ?_
      rintro e w11 ⟨vw, rfl, hw11, hb11⟩
      obtain ⟨aw, cw, hvw⟩ := own_formD hw11
      subst hvw
      have hD11 := HD10.out.below hb11
      obtain ⟨A, A2, c1, c2, _, _, _, _⟩ := hD11.arenas
      have HCL := hideIt (fun W (hb : Below w11.heap.size w11 W) => hD11.cells c1 c2 hb)
      have HSM : Hid ((dfL (trM f M00 (k + 1)) (trM (fun p => f (swp len p)) M00 (k + 1)) 320).length ≤ 37120) := by
        obtain ⟨D, _, a1, _⟩ := hD11
        exact dfL_small a1.sd.num
      have HW11 := hideIt (Sq.of_row hw11)
      have HD11 := hideIt hD11
      have hcw : (dfL (trM f M00 (k + 1)) (trM (fun p => f (swp len p)) M00 (k + 1)) 320).length ≤ cw := by
        rcases hw11.2 with ⟨e1, e2⟩ | ⟨q, cc, cur, e1, _, _, e4, _⟩
        · rw [e2]; exact Nat.zero_le _
        · injection e1 with _ _ e3
          rw [e3]; exact e4
      have HDZ : Hid (∀ W, Below w11.heap.size w11 W → Calls Tryz.prog 34 #[.pointer (some ⟨A, 0, none⟩), .pointer (some ⟨A2, 0, none⟩), .int .i64 0] W fun e w' => ∃ v, e = .returned v ∧ w'.ownsRow (W.heap.size + 1) 88 5 v (dfL (trM f M00 (k + 1)) (trM (fun p => f (swp len p)) M00 (k + 1)) 320).length (dfCs (dfL (trM f M00 (k + 1)) (trM (fun p => f (swp len p)) M00 (k + 1)) 320)) ∧ Below W.heap.size W w') := fun W hW => (HCL.out W hW).2.1 0
      have HDL : Hid (∀ W, Below w11.heap.size w11 W → ∀ lim : Nat, Calls Tryz.prog 34 #[.pointer (some ⟨A, 0, none⟩), .pointer (some ⟨A2, 0, none⟩), .int .i64 (lim : Int)] W fun e w' => ∃ v, e = .returned v ∧ w'.ownsRow (W.heap.size + 1) 88 5 v (tk lim (dfL (trM f M00 (k + 1)) (trM (fun p => f (swp len p)) M00 (k + 1)) 320)).length (dfCs (tk lim (dfL (trM f M00 (k + 1)) (trM (fun p => f (swp len p)) M00 (k + 1)) 320))) ∧ Below W.heap.size W w') := fun W hW lim => (HCL.out W hW).2.1 lim
      have HEQ : Hid (∀ W, Below w11.heap.size w11 W → Calls Tryz.prog 31 #[.pointer (some ⟨A, 0, none⟩), .pointer (some ⟨A2, 0, none⟩)] W fun e w' => ∃ q, e = .returned (.bool q) ∧ (q = true ↔ dfL (trM f M00 (k + 1)) (trM (fun p => f (swp len p)) M00 (k + 1)) 320 = []) ∧ Below W.heap.size W w') := fun W hW => (HCL.out W hW).2.2
      have HCC : Hid (∀ W, Below w11.heap.size w11 W → W.cell? ⟨P, 0, none⟩ = some (.pointer (some ⟨A, 0, none⟩)) ∧ W.cell? ⟨P2, 0, none⟩ = some (.pointer (some ⟨A2, 0, none⟩))) := fun W hW => (HCL.out W hW).1
      clear hw11 hb11 hD11 HMD HD10 HCL
      go_wp2_with fail
      obtain ⟨lim, hlim, lm1, lm3⟩ : ∃ lim : Nat, 1 + (k : Int) % 3 = (lim : Int) ∧ 1 ≤ lim ∧ lim ≤ 3 := ⟨1 + k % 3, by omega, by omega, by omega⟩
      rw [hlim]
      have HDT := hideIt (fun W hW => HDL.out W hW lim)
      clear HDL hlim
      generalize dfL (trM f M00 (k + 1)) (trM (fun p => f (swp len p)) M00 (k + 1)) 320 = l at *
      have hTl : (tk lim l).length = min lim l.length := by unfold tk; rw [if_neg (by omega), List.length_take]
      have HT11 : Hid (Sq w10.heap.size w11 (.slice aw (tk lim l).length cw) (tk lim l).length (dfCs (tk lim l))) := by
        show Sq _ _ _ _ _
        unfold tk
        rw [if_neg (by omega)]
        exact Sq.take HW11.out
      generalize tk lim l = T at *
      have hmin : min (lim : Int) (l.length : Int) = (T.length : Int) := by rw [hTl]; omega
      have hTc : (T.length : Int) ≤ (cw : Int) := by omega
      have hT0 : (0 : Int) ≤ (T.length : Int) := by omega
      have HTs : Hid (T.length ≤ 40000) := by have := HSM.out; show _ ≤ _; omega
      have HLs : Hid (l.length ≤ 40000) := by have := HSM.out; show _ ≤ _; omega
      clear hTl hcw
      go_region_held3 (fun w' => w'.cell? ⟨P, 0, none⟩ = some (.pointer (some ⟨A, 0, none⟩)) ∧ w'.cell? ⟨P2, 0, none⟩ = some (.pointer (some ⟨A2, 0, none⟩))) (first | exact HCC.out _ (below_d _) | exact HCC.out _ HB15.out | exact HCC.out _ HB14.out | exact HCC.out _ HB13.out | exact HCC.out _ HB12.out | go_keep)
        (first
          | (go_at_call 34; first
            | (refine (HDT.out _ HB13.out).mono ?_; rintro e w14 ⟨v14, rfl, ho14, hb14⟩; have HB14 := hideIt (Below.thr HB13.out hb14); have HQ2 := hideIt (equal_df (Sq.of_row ho14) (Sq.below HT11.out HB14.out) HTs.out); obtain ⟨a14, c14, hf14⟩ := own_formD ho14; subst hf14; clear ho14 hb14)
            | (refine (HDZ.out _ (below_d _)).mono ?_; rintro e w12 ⟨v12, rfl, ho12, hb12⟩; have HB12 := hideIt (Below.thr (below_d _) hb12); have HQ1 := hideIt (equal_df (Sq.of_row ho12) (Sq.below HW11.out HB12.out) HLs.out); obtain ⟨a12, c12, hf12⟩ := own_formD ho12; subst hf12; clear ho12 hb12))
          | (go_at_call 33; first
            | (refine HQ2.out.mono ?_; rintro e w15 ⟨rfl, hb15⟩; have HB15 := hideIt (Below.thr HB14.out hb15); clear hb15)
            | (refine HQ1.out.mono ?_; rintro e w13 ⟨rfl, hb13⟩; have HB13 := hideIt (Below.thr HB12.out hb13); clear hb13)))
      all_goals
        obtain ⟨x1, x2⟩ := HCC.out w15 HB15.out
        have HEV := hideIt (HEQ.out w15 HB15.out)
        have HDD := hideIt (HD11.out.below HB15.out)
        clear HB12 HB13 HB14 HQ1 HQ2 HDT HDZ HEQ HT11 HW11 HTs HLs hmin hTc hT0
        by_cases hnil : l = []
        · subst hnil
          go_wp2_with fail
          go_at_call 31
          refine HEV.out.mono ?_
          rintro e w16 ⟨q, rfl, hq, hb16⟩
          obtain rfl : q = true := hq.2 (by trivial)
          have HDE := hideIt (HDD.out.below hb16)
          clear hq hb16 HDD HD11
          go_wp2_with fail
          go_roundw
          case rel => exact ⟨k + 1, by omega, by go_num, HDE.out⟩
          case measure => simp [intOf]; omega
        · have hl0 : ((l.length : Int) == 0) = false := by
            rw [beq_eq_false_iff_ne]
            intro z
            exact hnil (List.length_eq_zero_iff.1 (by omega))
          have HNL : Hid (¬ l = []) := hnil
          clear hnil
          go_wp2_with fail
          go_at_call 31
          refine HEV.out.mono ?_
          rintro e w16 ⟨q, rfl, hq, hb16⟩
          obtain rfl : q = false := by
            cases q
            · rfl
            · exact absurd (hq.1 rfl) HNL.out
          have HDE := hideIt (HDD.out.below hb16)
          clear hq hb16 HDD HD11
          go_wp2_with fail
          go_roundw
          case rel => exact ⟨k + 1, by omega, by go_num, HDE.out⟩
          case measure => simp [intOf]; omega
    · obtain rfl : k = len := by omega
      have HF := hideIt (HB1.out.trans (HD.out.bel.mono HB1.out.size))
      go_wp2_with fail
      go_ret
      exact ⟨rfl, HF.out⟩
end Go.Proofs.Qxb6500847aGreatDoor.Os
