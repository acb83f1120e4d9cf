/-
  Encode: the body, the walk.
-/
import Derived.Test.Qxb6500847aGreatDoorOsGc
namespace Go.Proofs.Qxb6500847aGreatDoor.Os
open Go.RowKit FloorA
set_option maxRecDepth 100000
section
variable {A : Nat} {rb sb : Nat → Nat} {s : Av} {tl : Nat → List Int} {ws : Nat → Nat → Nat → Int} {w : World} {L : Nat → List Nat} {n : Nat}
set_option maxHeartbeats 16000000 in
theorem appendBody_walk {base : Nat} {b : Value} {bs : List Int} (h : Ms w A rb sb s tl ws) (hI : IV s tl L n) (hW : Wr ws) (hT : ∀ b, Tz A rb sb b → b < base) (hg : Gd tabC w) (gl : 3 < base) (hK : Kd w) (kl : 1 < base) (ho : Own base w b bs) (hl : bs.length ≤ 1000) (hb : base ≤ w.heap.size) :
    Calls Tryz.prog 122 #[.pointer (some ⟨A, 0, none⟩), b] w (ApPost base b bs (eN (bodN s ws)) w) := by
  have la : A < base := hT A (Or.inl rfl)
  obtain ⟨fx, hfx, efx⟩ := flG_mem s 320 (Nat.le_refl _)
  have hfl := fun x (hx : x < 320) => flG_le s 320 x hx
  obtain ⟨fg, efg, fg1, fg2, _⟩ := hI.ge.gen fx hfx
  have hF : flG s 320 = (fg : Int) := by rw [efx, efg]
  have HBN : Hid (bodN s ws = [1, fg, lsC s (fg : Int) 320] ++ lsN s ws (fg : Int) 320) := by
    show _ = _
    unfold bodN
    rw [hF]
    rfl
  have HFL : Hid (∀ x, x < 320 → (fg : Int) ≤ (s.hd x).gen) := fun x hx => by rw [← hF]; exact hfl x hx
  have HFW := hideIt (floorGen_walk h.am)
  rw [hF] at HFW
  have HSm : Hid (∀ k, k ≤ 320 → (∀ x ∈ lsN s ws (fg : Int) k, x < 18446744073709551616) ∧ (lsN s ws (fg : Int) k).length ≤ 310 * k) := fun k hk => lsN_small hI hW HFL.out (by omega) k hk
  have HM := hideIt h
  have HI := hideIt hI
  have HW : Hid (Wr ws) := hW
  have HTz : Hid (∀ b, Tz A rb sb b → b < base) := hT
  have HG : Hid (Gd tabC w) := hg
  have HK : Hid (Kd w) := hK
  have HO := hideIt ho
  obtain ⟨adb, cpb, rfl⟩ := OwnK.shape ho
  -- one number more
  have HU : Hid (∀ (w1 : World) (b1 : Value) (more : List Nat) (v : Nat) (x : Int), x = (v : Int) → v < 18446744073709551616 → (∀ y ∈ more, y < 18446744073709551616) → more.length ≤ 200000 → Own base w1 b1 (bs ++ eN more) → Gr w w1 (Value.slice adb bs.length cpb).ownBlock b1.ownBlock → Calls Tryz.prog 120 #[b1, .int .u64 x] w1 (fun e w2 => ∃ b2, e = .returned b2 ∧ Own base w2 b2 (bs ++ eN (more ++ [v])) ∧ Gr w w2 (Value.slice adb bs.length cpb).ownBlock b2.ownBlock)) := fun w1 b1 more v x hx hv hm1 hm2 ho1 hg1 => by
    subst hx
    have := eN_len hm1
    refine (uvar_walk base b1 (bs ++ eN more) v w1 hv ho1 (by unfold big; rw [List.length_append]; omega) (Nat.le_trans hb hg1.grown.size)).mono ?_
    rintro e w2 ⟨b2, rfl, h1, h2⟩
    refine ⟨b2, rfl, ?_, hg1.trans h2⟩
    rw [eN_append, eN_one, ← List.append_assoc]
    exact h1
  clear h hI hW hT hg hK ho hF efx efg hfl
  generalize hbl : bs.length = bl at *
  have HBL := hideIt hbl
  clear hbl
  go_enter Tryz.func122, Tryz.ntmps122
  go_wp2_with fail
  go_at_call 232
  refine HFW.out.mono ?_
  rintro e w' ⟨rfl, hw'⟩
  obtain rfl := hw'.symm
  clear hw' HFW
  go_wp2_with fail
  go_loopw [6, 13] (fun v6 v13 wr => ∃ k : Nat, k ≤ 320 ∧ v13 = .int .i64 (k : Int) ∧ v6 = .int .i64 (lsC s (fg : Int) k : Int) ∧ wr = w) (fun _ v13 _ => 320 - (intOf v13).toNat)
  case atStart => exact ⟨0, by omega, rfl, rfl, rfl⟩
  case round =>
    obtain ⟨k, hk, rfl, rfl, rfl⟩ := hrel
    have hle := lsC_le s (fg : Int) k
    by_cases hlt : k < 320
    · have hlt' : (k : Int) < 320 := by omega
      have e0 := HM.out.am.gen hlt
      have e1 := HM.out.am.typ hlt
      have HN : Hid (lsC s (fg : Int) (k + 1) = lsC s (fg : Int) k + (if lis s (fg : Int) k then 1 else 0)) := rfl
      generalize lsC s (fg : Int) k = z at *
      by_cases ht : (s.hd k).typ = 0
      · rw [ht] at e1
        by_cases hge : (s.hd k).gen = (fg : Int)
        · have kg : ((s.hd k).gen != (fg : Int)) = false := by rw [hge]; simp
          have hli : lis s (fg : Int) k = false := by unfold lis; simp [ht, hge]
          rw [if_neg (by rw [hli]; decide)] at HN
          clear ht hge hli
          generalize (s.hd k).gen = gk at *
          go_wp2_with fail
          exact ⟨⟨k + 1, by omega, by go_num, by rw [HN.out]; rfl, trivial⟩, by simp [intOf]; omega⟩
        · have kg : ((s.hd k).gen != (fg : Int)) = true := by rw [bne_iff_ne]; exact hge
          have hli : lis s (fg : Int) k = true := by unfold lis; simp [hge]
          rw [if_pos hli] at HN
          clear ht hge hli
          generalize (s.hd k).gen = gk at *
          go_wp2_with fail
          exact ⟨⟨k + 1, by omega, by go_num, by rw [HN.out]; go_num, trivial⟩, by simp [intOf]; omega⟩
      · have kt : ((s.hd k).typ != 0) = true := by rw [bne_iff_ne]; exact ht
        have hli : lis s (fg : Int) k = true := by unfold lis; simp [ht]
        rw [if_pos hli] at HN
        clear ht hli
        generalize (s.hd k).typ = tk at *
        go_wp2_with fail
        exact ⟨⟨k + 1, by omega, by go_num, by rw [HN.out]; go_num, trivial⟩, by simp [intOf]; omega⟩
    · obtain rfl : k = 320 := by omega
      generalize hC : lsC s (fg : Int) 320 = C at *
      have HC := hideIt hC
      clear hC
      go_wp2_with fail
      go_at_call 120
      refine (HU.out wr _ [] 1 _ rfl (by omega) (fun y hy => absurd hy (by simp)) (by simp) (by rw [show eN [] = [] from rfl, List.append_nil]; exact HO.out) (Gr.refl _ _)).mono ?_
      rintro e w1 ⟨b1, rfl, o1, g1⟩
      have O1 := hideIt o1
      have G1 := hideIt g1
      obtain ⟨ad1, cp1, rfl⟩ := OwnK.shape o1
      clear o1 g1
      generalize (bs ++ eN ([] ++ [1])).length = l1 at *
      go_wp2_with fail
      go_at_call 120
      refine (HU.out w1 _ ([] ++ [1]) fg _ rfl (by omega) (fun y hy => by simp at hy; omega) (by simp) O1.out G1.out).mono ?_
      rintro e w2 ⟨b2, rfl, o2, g2⟩
      have O2 := hideIt o2
      have G2 := hideIt g2
      obtain ⟨ad2, cp2, rfl⟩ := OwnK.shape o2
      clear o2 g2
      generalize (bs ++ eN ([] ++ [1] ++ [fg])).length = l2 at *
      go_wp2_with fail
      go_at_call 120
      refine (HU.out w2 _ ([] ++ [1] ++ [fg]) C _ rfl (by omega) (fun y hy => by simp at hy; omega) (by simp) O2.out G2.out).mono ?_
      rintro e w3 ⟨b3, rfl, o3, g3⟩
      have O3 : Hid (Own base w3 b3 (bs ++ eN ([1, fg, C] ++ lsN s ws (fg : Int) 0))) := o3
      have G3 := hideIt g3
      obtain ⟨ad3, cp3, rfl⟩ := OwnK.shape o3
      clear o3 g3
      generalize (bs ++ eN ([] ++ [1] ++ [fg] ++ [C])).length = l3 at *
      go_wp2_with fail
      generalize wr = w00 at *
      go_loopw [1, 8, 48] (fun v1 v8 v48 wz => ∃ k : Nat, k ≤ 320 ∧ v48 = .int .i64 (k : Int) ∧ v8 = .int .i64 (lsA s (fg : Int) k : Int) ∧ Own base wz v1 (bs ++ eN ([1, fg, C] ++ lsN s ws (fg : Int) k)) ∧ Gr w00 wz (Value.slice adb bl cpb).ownBlock v1.ownBlock) (fun _ _ v48 _ => 320 - (intOf v48).toNat)
      case atStart => exact ⟨0, by omega, rfl, rfl, O3.out, G3.out⟩
      case round =>
        clear O3 G3 O2 G2 O1 G1
        obtain ⟨k, hk, rfl, rfl, hown, hgr⟩ := hrel
        have HOk := hideIt hown
        have HGk := hideIt hgr
        have hbw := Gr.belowO hgr HO.out hb
        have HBk := hideIt hbw
        obtain ⟨adk, cpk, rfl⟩ := OwnK.shape hown
        have hAl := lsA_le s (fg : Int) k
        obtain ⟨sm1, sm2⟩ := HSm.out k hk
        have HS1 : Hid (∀ y ∈ [1, fg, C] ++ lsN s ws (fg : Int) k, y < 18446744073709551616) := fun y hy => by
          rcases List.mem_append.1 hy with q | q
          · simp at q; omega
          · exact sm1 y q
        have HS2 : Hid (([1, fg, C] ++ lsN s ws (fg : Int) k).length ≤ 100000) := by
          show _ ≤ _
          rw [List.length_append]
          show 3 + _ ≤ _
          omega
        clear sm1 sm2
        by_cases hlt : k < 320
        · have hlt' : (k : Int) < 320 := by omega
          have HMk := hideIt (HM.out.belowB hbw HTz.out)
          have e0 := HMk.out.am.gen hlt
          have e1 := HMk.out.am.typ hlt
          obtain ⟨gk, egk, gk1, gk2, _⟩ := HI.out.ge.gen k hlt
          obtain ⟨tk, etk, tk7, _⟩ := HI.out.ge.typ k hlt
          have hfk := HFL.out k hlt
          rw [egk] at e0 hfk
          rw [etk] at e1
          have HA1 : Hid (lsA s (fg : Int) (k + 1) = if lis s (fg : Int) k then k + 1 else lsA s (fg : Int) k) := rfl
          have HN1 : Hid (lsN s ws (fg : Int) (k + 1) = if lis s (fg : Int) k then lsN s ws (fg : Int) k ++ ([k - lsA s (fg : Int) k, gk - fg, tk] ++ entN s ws k) else lsN s ws (fg : Int) k) := by
            show _ = _
            have a1 : ((s.hd k).gen - (fg : Int)).toNat = gk - fg := by rw [egk]; omega
            have a2 : (s.hd k).typ.toNat = tk := by rw [etk]; rfl
            rw [← a1, ← a2]
            rfl
          clear hown hgr hbw
          by_cases hno : tk = 0 ∧ gk = fg
          · have hli : lis s (fg : Int) k = false := by unfold lis; rw [etk, egk, hno.1, hno.2]; simp
            rw [if_neg (by rw [hli]; decide)] at HA1 HN1
            obtain ⟨rfl, rfl⟩ := hno
            clear hli
            generalize (bs ++ eN ([1, gk, C] ++ lsN s ws (gk : Int) k)).length = lk at *
            generalize hla : lsA s (gk : Int) k = la' at *
            clear hla
            go_wp2_with fail
            exact ⟨⟨k + 1, by omega, by go_num, by rw [HA1.out], by rw [HN1.out]; exact HOk.out, HGk.out⟩, by simp [intOf]; omega⟩
          · have hli : lis s (fg : Int) k = true := by
              have : ¬ ((tk : Int) = 0 ∧ (gk : Int) = (fg : Int)) := fun e => hno ⟨by omega, by omega⟩
              unfold lis
              rw [etk, egk, Bool.not_eq_true', Bool.and_eq_false_iff, decide_eq_false_iff_not, decide_eq_false_iff_not]
              omega
            rw [if_pos hli] at HA1 HN1
            clear hli
            generalize hla : lsA s (fg : Int) k = la' at *
            clear hla
            have i2 : IntKind.u32.wrap ((gk : Int) - (fg : Int)) = (gk : Int) - (fg : Int) := by unfold IntKind.wrap; simp [IntKind.bits, IntKind.signed]; omega
            have i3 : (gk : Int) - (fg : Int) = ((gk - fg : Nat) : Int) := by omega
            have i4 : (k : Int) - (la' : Int) = ((k - la' : Nat) : Int) := by omega
            generalize hlk : (bs ++ eN ([1, fg, C] ++ lsN s ws (fg : Int) k)).length = lk at *
            clear hlk
            have HP : Hid (tk ≠ 0 → (s.hd k).par = 65535 ∨ ∃ p : Nat, 256 ≤ p ∧ p < 320 ∧ (s.hd k).par = (p : Int)) := fun t0 => by
              obtain ⟨_, q⟩ := HI.out.tr.all k hlt (by show (s.hd k).typ ≠ 0; rw [etk]; omega)
              rcases q with q | ⟨p, q1, q2, _⟩
              · exact Or.inl q
              · exact Or.inr ⟨p, q1.1, q1.2.1, q2⟩
            have HZ := hideIt (HI.out.ge.bas k hlt)
            have HR : Hid (2 ≤ tk → ∃ r : Nat, (s.hd k).row = (r : Int) ∧ r < nR (tk - 2)) := fun t2 => by
              obtain ⟨r, a, b, _⟩ := HI.out.tb.row k tk hlt t2 tk7 etk
              exact ⟨r, a, b⟩
            have HT := hideIt etk
            have HES := hideIt (entN_small HI.out HW.out hlt)
            have HEG := hideIt egk
            clear etk egk hfk
            have hgd : fg ≤ gk := by omega
            by_cases h0 : tk = 0
            · obtain rfl := h0
              have kg : decide (gk = fg) = false := decide_eq_false (fun e => hno ⟨rfl, e⟩)
              have kg2 : ((gk : Int) == (fg : Int)) = false := by rw [beq_eq_false_iff_ne]; intro e; exact hno ⟨rfl, by omega⟩
              have kg3 : ¬ gk = fg := fun e => hno ⟨rfl, e⟩
              clear hno
              go_wp2_with fail
              go_at_call 120
              refine (HU.out wr _ ([1, fg, C] ++ lsN s ws (fg : Int) k) (k - la') _ (by first | rfl | omega) (by omega) HS1.out (by have := HS2.out; omega) HOk.out HGk.out).mono ?_
              rintro e w4 ⟨b4, rfl, o4, g4⟩
              have O4 := hideIt o4
              have G4 := hideIt g4
              have hb4 := Gr.belowO g4 HO.out hb
              have e04 := (HM.out.belowB hb4 HTz.out).am.gen hlt
              rw [HEG.out] at e04
              obtain ⟨ad4, cp4, rfl⟩ := OwnK.shape o4
              clear o4 g4 hb4 e0 e1
              generalize (bs ++ eN ([1, fg, C] ++ lsN s ws (fg : Int) k ++ [k - la'])).length = l4 at *
              go_wp2_with fail
              go_at_call 120
              refine (HU.out w4 _ ([1, fg, C] ++ lsN s ws (fg : Int) k ++ [k - la']) (gk - fg) _ (by first | rfl | omega) (by omega) (fun y hy => by
                rcases List.mem_append.1 hy with q | q
                · exact HS1.out y q
                · simp at q; omega) (by have := HS2.out; rw [List.length_append]; show _ + 1 ≤ _; omega) O4.out G4.out).mono ?_
              rintro e w5 ⟨b5, rfl, o5, g5⟩
              have O5 := hideIt o5
              have G5 := hideIt g5
              have hb5 := Gr.belowO g5 HO.out hb
              have e15 := (HM.out.belowB hb5 HTz.out).am.typ hlt
              rw [HT.out] at e15
              obtain ⟨ad5, cp5, rfl⟩ := OwnK.shape o5
              clear o5 g5 hb5 e04
              generalize (bs ++ eN ([1, fg, C] ++ lsN s ws (fg : Int) k ++ [k - la'] ++ [gk - fg])).length = l5 at *
              go_wp2_with fail
              go_at_call 120
              refine (HU.out w5 _ ([1, fg, C] ++ lsN s ws (fg : Int) k ++ [k - la'] ++ [gk - fg]) 0 _ (by first | rfl | omega) (by omega) (fun y hy => by
                rcases List.mem_append.1 hy with q | q
                · rcases List.mem_append.1 q with q | q
                  · exact HS1.out y q
                  · simp at q; omega
                · simp at q; omega) (by have := HS2.out; rw [List.length_append, List.length_append]; show _ + 1 + 1 ≤ _; omega) O5.out G5.out).mono ?_
              rintro e w6 ⟨b6, rfl, o6, g6⟩
              have O6 := hideIt o6
              have G6 := hideIt g6
              have hb6 := Gr.belowO g6 HO.out hb
              have HB6 := hideIt hb6
              have e16 := (HM.out.belowB hb6 HTz.out).am.typ hlt
              rw [HT.out] at e16
              obtain ⟨ad6, cp6, rfl⟩ := OwnK.shape o6
              clear o6 g6 hb6 e15
              generalize hl6 : (bs ++ eN ([1, fg, C] ++ lsN s ws (fg : Int) k ++ [k - la'] ++ [gk - fg] ++ [0])).length = l6 at *
              have HL6 := hideIt hl6
              clear hl6
              have HEN : Hid (entN s ws k = []) := by
                show _ = _
                unfold entN
                rw [if_pos (by rw [HT.out]; rfl)]
              go_wp2_with fail
              refine ⟨⟨k + 1, by omega, by go_num, by rw [HA1.out]; go_num, ?_, G6.out⟩, by simp [intOf]; omega⟩
              rw [HN1.out, HEN.out]
              simpa using O6.out
            · have kt : decide (tk = 0) = false := decide_eq_false h0
              have kt2 : ((tk : Int) == 0) = false := by rw [beq_eq_false_iff_ne]; omega
              clear hno
              go_wp2_with fail
              go_at_call 120
              refine (HU.out wr _ ([1, fg, C] ++ lsN s ws (fg : Int) k) (k - la') _ (by first | rfl | omega) (by omega) HS1.out (by have := HS2.out; omega) HOk.out HGk.out).mono ?_
              rintro e w4 ⟨b4, rfl, o4, g4⟩
              have O4 := hideIt o4
              have G4 := hideIt g4
              have hb4 := Gr.belowO g4 HO.out hb
              have e04 := (HM.out.belowB hb4 HTz.out).am.gen hlt
              rw [HEG.out] at e04
              obtain ⟨ad4, cp4, rfl⟩ := OwnK.shape o4
              clear o4 g4 hb4 e0 e1
              generalize (bs ++ eN ([1, fg, C] ++ lsN s ws (fg : Int) k ++ [k - la'])).length = l4 at *
              go_wp2_with fail
              go_at_call 120
              refine (HU.out w4 _ ([1, fg, C] ++ lsN s ws (fg : Int) k ++ [k - la']) (gk - fg) _ (by first | rfl | omega) (by omega) (fun y hy => by
                rcases List.mem_append.1 hy with q | q
                · exact HS1.out y q
                · simp at q; omega) (by have := HS2.out; rw [List.length_append]; show _ + 1 ≤ _; omega) O4.out G4.out).mono ?_
              rintro e w5 ⟨b5, rfl, o5, g5⟩
              have O5 := hideIt o5
              have G5 := hideIt g5
              have hb5 := Gr.belowO g5 HO.out hb
              have e15 := (HM.out.belowB hb5 HTz.out).am.typ hlt
              rw [HT.out] at e15
              obtain ⟨ad5, cp5, rfl⟩ := OwnK.shape o5
              clear o5 g5 hb5 e04
              generalize (bs ++ eN ([1, fg, C] ++ lsN s ws (fg : Int) k ++ [k - la'] ++ [gk - fg])).length = l5 at *
              go_wp2_with fail
              go_at_call 120
              refine (HU.out w5 _ ([1, fg, C] ++ lsN s ws (fg : Int) k ++ [k - la'] ++ [gk - fg]) tk _ (by first | rfl | omega) (by omega) (fun y hy => by
                rcases List.mem_append.1 hy with q | q
                · rcases List.mem_append.1 q with q | q
                  · exact HS1.out y q
                  · simp at q; omega
                · simp at q; omega) (by have := HS2.out; rw [List.length_append, List.length_append]; show _ + 1 + 1 ≤ _; omega) O5.out G5.out).mono ?_
              rintro e w6 ⟨b6, rfl, o6, g6⟩
              have O6 := hideIt o6
              have G6 := hideIt g6
              have hb6 := Gr.belowO g6 HO.out hb
              have HB6 := hideIt hb6
              have e16 := (HM.out.belowB hb6 HTz.out).am.typ hlt
              rw [HT.out] at e16
              obtain ⟨ad6, cp6, rfl⟩ := OwnK.shape o6
              clear o6 g6 hb6 e15
              generalize hl6 : (bs ++ eN ([1, fg, C] ++ lsN s ws (fg : Int) k ++ [k - la'] ++ [gk - fg] ++ [tk])).length = l6 at *
              have HL6 := hideIt hl6
              clear hl6
              have HLS : Hid (∀ more : List Nat, (∀ y ∈ more, y < 18446744073709551616) → more.length ≤ 1000 → (bs ++ eN ([1, fg, C] ++ lsN s ws (fg : Int) k ++ [k - la'] ++ [gk - fg] ++ [tk] ++ more)).length ≤ 3000000) := fun more hm1 hm2 => by
                have h1 := HS1.out
                have h2 := HS2.out
                have := eN_len (l := [1, fg, C] ++ lsN s ws (fg : Int) k ++ [k - la'] ++ [gk - fg] ++ [tk] ++ more) (fun y hy => by
                  rcases List.mem_append.1 hy with q | q
                  · rcases List.mem_append.1 q with q | q
                    · rcases List.mem_append.1 q with q | q
                      · rcases List.mem_append.1 q with q | q
                        · exact h1 y q
                        · simp at q; omega
                      · simp at q; omega
                    · simp at q; omega
                  · exact hm1 y q)
                rw [List.length_append]
                have e : ([1, fg, C] ++ lsN s ws (fg : Int) k ++ [k - la'] ++ [gk - fg] ++ [tk] ++ more).length = ([1, fg, C] ++ lsN s ws (fg : Int) k).length + 3 + more.length := by
                  rw [List.length_append, List.length_append, List.length_append, List.length_append]; rfl
                have := HBL.out
                omega
              go_wp2_with fail
              go_at_call 233
              refine (appendWhere_walk (HM.out.belowB HB6.out HTz.out).am hlt (HP.out h0) HZ.out (HG.out.below HB6.out gl) gl la O6.out (by have := HLS.out [] (fun y hy => absurd hy (by simp)) (by simp); rw [List.append_nil] at this; omega) (Nat.le_trans hb G6.out.grown.size)).mono ?_
              rintro e w7 ⟨b7, rfl, o7, g7⟩
              have G7 := hideIt (G6.out.trans g7)
              have O7 : Hid (Own base w7 b7 (bs ++ eN ([1, fg, C] ++ lsN s ws (fg : Int) k ++ [k - la'] ++ [gk - fg] ++ [tk] ++ whN (s.hd k)))) := by
                show Own _ _ _ _
                rw [eN_append _ (whN _), ← List.append_assoc]
                exact o7
              have o7' := O7.out
              have hb7 := Gr.belowO G7.out HO.out hb
              have HB7 := hideIt hb7
              have e17 := (HM.out.belowB hb7 HTz.out).am.typ hlt
              rw [HT.out] at e17
              obtain ⟨ad7, cp7, rfl⟩ := OwnK.shape o7'
              clear o7 g7 hb7 e16 o7'
              generalize hl7 : (bs ++ eN ([1, fg, C] ++ lsN s ws (fg : Int) k ++ [k - la'] ++ [gk - fg] ++ [tk] ++ whN (s.hd k))).length = l7 at *
              have HL7 := hideIt hl7
              clear hl7
              by_cases h1 : tk = 1
              · rw [h1, show ((1 : Nat) : Int) = 1 from rfl] at e17
                have HEN : Hid (entN s ws k = whN (s.hd k)) := by
                  show _ = _
                  have e1 : (s.hd k).typ = 1 := by rw [HT.out, h1]; rfl
                  unfold entN
                  rw [if_neg (by rw [e1]; decide), if_pos e1, List.append_nil]
                clear h1 kt kt2
                go_wp2_with fail
                refine ⟨⟨k + 1, by omega, by go_num, by rw [HA1.out]; go_num, ?_, G7.out⟩, by simp [intOf]; omega⟩
                rw [HN1.out, HEN.out]
                simpa using O7.out
              · have kt1 : decide (tk = 1) = false := decide_eq_false h1
                obtain ⟨r, er, r1⟩ := HR.out (by omega)
                have HER := hideIt er
                clear er
                have HEN : Hid (entN s ws k = whN (s.hd k) ++ payN (ws (tk - 2) r) (nF (tk - 2))) := by
                  show _ = _
                  have e1 : (s.hd k).typ = (tk : Int) := HT.out
                  have e2 : (s.hd k).row.toNat = r := by rw [HER.out]; rfl
                  unfold entN
                  rw [if_neg (by rw [e1]; omega), if_neg (by rw [e1]; omega), e1, e2, Int.toNat_natCast]
                go_wp2_with fail
                go_at_call 234
                refine (appendPayload_walk (t := tk - 2) (r := r) (HM.out.belowB HB7.out HTz.out) HW.out HTz.out (HK.out.below HB7.out kl) kl hlt (by omega) (by rw [HT.out]; omega) HER.out r1 O7.out (by
                  have := HLS.out (whN (s.hd k)) (fun y hy => HES.out.1 y (by rw [HEN.out]; exact List.mem_append_left _ hy)) (by have := whN_len (s.hd k); omega)
                  omega) (Nat.le_trans hb G7.out.grown.size)).mono ?_
                rintro e w8 ⟨b8, rfl, o8, g8⟩
                have G8 := hideIt (G7.out.trans g8)
                have O8 : Hid (Own base w8 b8 (bs ++ eN ([1, fg, C] ++ lsN s ws (fg : Int) k ++ [k - la'] ++ [gk - fg] ++ [tk] ++ whN (s.hd k) ++ payN (ws (tk - 2) r) (nF (tk - 2))))) := by
                  show Own _ _ _ _
                  rw [eN_append _ (payN _ _), ← List.append_assoc]
                  exact o8
                have o8' := O8.out
                obtain ⟨ad8, cp8, rfl⟩ := OwnK.shape o8'
                clear o8 g8 e17 o8'
                generalize (bs ++ eN ([1, fg, C] ++ lsN s ws (fg : Int) k ++ [k - la'] ++ [gk - fg] ++ [tk] ++ whN (s.hd k) ++ payN (ws (tk - 2) r) (nF (tk - 2)))).length = l8 at *
                go_wp2_with fail
                refine ⟨⟨k + 1, by omega, by go_num, by rw [HA1.out]; go_num, ?_, G8.out⟩, by simp [intOf]; omega⟩
                rw [HN1.out, HEN.out]
                simpa using O8.out
        · obtain rfl : k = 320 := by omega
          have HE : Hid (ApPost base (.slice adb bl cpb) bs (eN (bodN s ws)) w00 (.returned (.slice adk (bs ++ eN ([1, fg, C] ++ lsN s ws (fg : Int) 320)).length cpk)) wr) := ⟨_, rfl, by rw [HBN.out]; exact HOk.out, HGk.out⟩
          clear hown hgr hbw
          generalize (bs ++ eN ([1, fg, C] ++ lsN s ws (fg : Int) 320)).length = lk at *
          generalize lsA s (fg : Int) 320 = la' at *
          go_wp2_with fail
          exact bodyPost_ret (by simp [results, Tryz.results122]) rfl HE.out
end
end Go.Proofs.Qxb6500847aGreatDoor.Os
