/-
  Arena.Diff: the differences, up to a limit.
-/
import Derived.Test.Qxb6500847aGreatDoorDfE
import Derived.Test.Qxb6500847aGreatDoorMdH
import Derived.Test.Qxb6500847aGreatDoorOsPh
import Derived.Deep.RegionHeld3
namespace Go.Proofs.Qxb6500847aGreatDoor.Os
open Go.RowKit FloorA
set_option maxRecDepth 100000
section
variable {A A2 : Nat} {rb sb rb2 sb2 : Nat → Nat} {s s2 : Av} {tl tl2 : Nat → List Int} {ws ws2 : Nat → Nat → Nat → Int} {w : World} {L L2 : Nat → List Nat} {n n2 : Nat}
theorem Dfm.start (w : World) (lim : Nat) : Dfm (w.alloc (.cells #[.slice none 0 0, .int .i64 (lim : Int)] 250)) w.heap.size [] lim := ⟨_, heap_new _ _, rfl, Or.inl ⟨rfl, rfl⟩⟩
/-- What Diff leaves. -/
def DiP (M N : Nat → En) (lim : Nat) (w : World) (e : Ending) (w' : World) : Prop := ∃ v, e = .returned v ∧ w'.ownsRow (w.heap.size + 1) 88 5 v (tk lim (dfL M N 320)).length (dfCs (tk lim (dfL M N 320))) ∧ Below w.heap.size w w'
theorem DiP.fin {M N : Nat → En} {lim : Nat} {w w2 : World} {l : List Df} {v : Value} (hv : w2.ownsRow (w.heap.size + 1) 88 5 v l.length (dfCs l)) (b : Below w.heap.size w w2) (e : tk lim (dfL M N 320) = l) : DiP M N lim w (.returned v) w2 := ⟨v, rfl, by rw [e]; exact hv, b⟩
set_option maxHeartbeats 16000000 in
theorem arenaDiff_x (h : Ms w A rb sb s tl ws) (h2 : Ms w A2 rb2 sb2 s2 tl2 ws2) (hS : Sd s tl ws L n) (hS2 : Sd s2 tl2 ws2 L2 n2) (hK : Kd w) (kl : 1 < w.heap.size) (lim : Nat) :
    Calls Tryz.prog 34 #[.pointer (some ⟨A, 0, none⟩), .pointer (some ⟨A2, 0, none⟩), .int .i64 (lim : Int)] w (DiP (ob s ws) (ob s2 ws2) lim w) := by
  have HM := hideIt h
  have HM2 := hideIt h2
  have HS := hideIt hS
  have HS2 := hideIt hS2
  have HK := hideIt hK
  have HMk := hideIt hS.num
  have HNk := hideIt hS2.num
  have HST := hideIt (Dfm.start w lim)
  have HSB := hideIt (alloc_below (w := w) (.cells #[.slice none 0 0, .int .i64 (lim : Int)] 250))
  obtain ⟨M, hMe⟩ : ∃ M, M = ob s ws := ⟨_, rfl⟩
  obtain ⟨N, hNe⟩ : ∃ N, N = ob s2 ws2 := ⟨_, rfl⟩
  have HAc : Hid (∀ k, k < 320 → ∀ W, Below w.heap.size w W → Ac A A2 M N k W) := fun k hk W hb => by rw [hMe, hNe]; exact Ac.of (HM.out.below hb) (HM2.out.below hb) hk
  rw [← hMe] at HMk
  rw [← hNe] at HNk
  rw [← hMe, ← hNe]
  have HMe : Hid (M = ob s ws) := hMe
  have HNe : Hid (N = ob s2 ws2) := hNe
  clear h h2 hS hS2 hK hMe hNe
  go_enter Tryz.func34, Tryz.ntmps34
  go_wp2_with fail
  go_loopw [17] (fun v17 wr => ∃ k : Nat, k ≤ 320 ∧ v17 = .int .i64 (k : Int) ∧ Dfm wr w.heap.size (tk lim (dfL M N k)) lim ∧ Below w.heap.size w wr) (fun j _ => 320 - (intOf j).toNat)
  case atStart => exact ⟨0, by omega, rfl, (show tk lim (dfL M N 0) = [] from by unfold tk dfL; split <;> simp) ▸ HST.out, HSB.out⟩
  case round =>
    clear HST HSB
    obtain ⟨k, hk, rfl, hD, hbr⟩ := hrel
    have HD := hideIt hD
    have HBR := hideIt hbr
    by_cases hlt : k < 320
    · have hlt' : (k : Int) < 320 := by omega
      have HF := hideIt (full_m hD)
      by_cases hfl : 0 < lim ∧ lim ≤ (tk lim (dfL M N k)).length
      · have hd : decide (0 < lim ∧ lim ≤ (tk lim (dfL M N k)).length) = true := decide_eq_true hfl
        rw [hd] at HF
        have HQ := hideIt (tk_stop hfl (by omega))
        clear hfl hd hD hbr
        go_wp2_with (go_at_call 116; refine HF.out.mono ?_; rintro e w2 ⟨rfl, m2, hw2⟩; have HB2 := hideIt (show Below wr.heap.size wr w2 from by rw [hw2]; exact belowN _ _); obtain ⟨v, hv1, hv2⟩ := HD.out.below HB2.out; have c0 := box_cell hv1 0; have HV2 := hideIt hv2; simp only [List.getElem?_toArray, List.getElem?_cons_zero] at c0; obtain ⟨av, cv, hfv⟩ := own_formD hv2; subst hfv; clear hw2 hv1 hv2)
        go_ret
        exact DiP.fin HV2.out (Below.thr HBR.out HB2.out) HQ.out
      · have hd : decide (0 < lim ∧ lim ≤ (tk lim (dfL M N k)).length) = false := decide_eq_false hfl
        rw [hd] at HF
        clear hfl hd hD hbr
        obtain ⟨L1, L2, L3, L4, L5, hR⟩ := DfR.mk' M N k
        obtain ⟨l0, l1, l2, l3, l4, l5⟩ := hR.len HMk.out hlt
        obtain ⟨gx', egx, gx1, gx2⟩ := HMk.out.gen k hlt
        obtain ⟨gy', egy, gy1, gy2⟩ := HNk.out.gen k hlt
        obtain ⟨tx, etx, tx7, _⟩ := HMk.out.typ k hlt
        obtain ⟨ty, ety, ty7, _⟩ := HNk.out.typ k hlt
        have wgx : IntKind.u64.wrap (M k).gen = (M k).gen := u64_same (by omega) (by omega)
        have wgy : IntKind.u64.wrap (N k).gen = (N k).gen := u64_same (by omega) (by omega)
        have wtx : IntKind.u64.wrap (tx : Int) = (tx : Int) := u64_same (by omega) (by omega)
        have wty : IntKind.u64.wrap (ty : Int) = (ty : Int) := u64_same (by omega) (by omega)
        have HKS := hideIt (HAc.out k hlt)
        have HT1 := hideIt etx
        have HT2 := hideIt ety
        have HO1 := hideIt (fun W => owner_m (HMk.out.par k hlt) W)
        have HO2 := hideIt (fun W => owner_m (HNk.out.par k hlt) W)
        have HN1 : Hid (∀ W, Dfm W w.heap.size (tk lim (dfL M N k)) lim → Calls Tryz.prog 117 #[.pointer (some ⟨w.heap.size, 0, none⟩), .int .i64 (k : Int), .int .u8 0, .int .i64 0, .int .u64 (M k).gen, .int .u64 (N k).gen] W fun e w' => e = .returned (.tuple #[]) ∧ Dfm w' w.heap.size (tk lim L1) lim ∧ Below w.heap.size W w') := fun W hW => by rw [hR.e1]; exact note_t hW (by omega) (p := 0) (f := 0) rfl rfl (by omega) (by omega) _ _
        have HN2 : Hid (∀ W, Dfm W w.heap.size (tk lim L1) lim → Calls Tryz.prog 117 #[.pointer (some ⟨w.heap.size, 0, none⟩), .int .i64 (k : Int), .int .u8 1, .int .i64 0, .int .u64 (tx : Int), .int .u64 (ty : Int)] W fun e w' => e = .returned (.tuple #[]) ∧ Dfm w' w.heap.size (tk lim L2) lim ∧ Below w.heap.size W w') := fun W hW => by rw [hR.e2, etx, ety]; exact note_t hW (by omega) (p := 1) (f := 0) rfl rfl (by omega) (by omega) _ _
        have HN3 : Hid (∀ W, Dfm W w.heap.size (tk lim L2) lim → Calls Tryz.prog 117 #[.pointer (some ⟨w.heap.size, 0, none⟩), .int .i64 (k : Int), .int .u8 2, .int .i64 0, .int .u64 (M k).bas, .int .u64 (N k).bas] W fun e w' => e = .returned (.tuple #[]) ∧ Dfm w' w.heap.size (tk lim L3) lim ∧ Below w.heap.size W w') := fun W hW => by rw [hR.e3]; exact note_t hW (by omega) (p := 2) (f := 0) rfl rfl (by omega) (by omega) _ _
        have HN4 : Hid (∀ W, Dfm W w.heap.size (tk lim L3) lim → Calls Tryz.prog 117 #[.pointer (some ⟨w.heap.size, 0, none⟩), .int .i64 (k : Int), .int .u8 3, .int .i64 0, .int .u64 (M k).siz, .int .u64 (N k).siz] W fun e w' => e = .returned (.tuple #[]) ∧ Dfm w' w.heap.size (tk lim L4) lim ∧ Below w.heap.size W w') := fun W hW => by rw [hR.e4]; exact note_t hW (by omega) (p := 3) (f := 0) rfl rfl (by omega) (by omega) _ _
        have HN5 : Hid (∀ W, Dfm W w.heap.size (tk lim L4) lim → Calls Tryz.prog 117 #[.pointer (some ⟨w.heap.size, 0, none⟩), .int .i64 (k : Int), .int .u8 4, .int .i64 0, .int .u64 (pz (M k).par + 1), .int .u64 (pz (N k).par + 1)] W fun e w' => e = .returned (.tuple #[]) ∧ Dfm w' w.heap.size (tk lim L5) lim ∧ Below w.heap.size W w') := fun W hW => by rw [hR.e5]; exact note_t hW (by omega) (p := 4) (f := 0) rfl rfl (by omega) (by omega) _ _
        have HE1 : Hid (tx ≠ ty → dfL M N (k + 1) = L2) := fun q => hR.dif (by rw [etx, ety]; omega)
        have HE2 : Hid (tx = ty → tx = 0 → dfL M N (k + 1) = L2) := fun q q0 => hR.non HMk.out HNk.out hlt (by rw [etx, ety, q]) (by rw [etx, q0]; rfl)
        have HE3 : Hid (tx = ty → tx = 1 → dfL M N (k + 1) = L5) := fun q q0 => hR.reg HMk.out hlt (by rw [etx, ety, q]) (by rw [etx, q0]; rfl)
        have HE4 : Hid (tx = ty → dfL M N (k + 1) = L5 ++ dfW M N k (M k).wds.length) := fun q => hR.sam (by rw [etx, ety, q])
        have HL5 := hideIt l5
        have HKC : Hid (∀ W, Below w.heap.size w W → (W.cell? ⟨A, k * 8, none⟩ = some (.int .u32 (M k).gen) ∧ W.cell? ⟨A2, k * 8, none⟩ = some (.int .u32 (N k).gen)) ∧ (W.cell? ⟨A, k * 8 + 1, none⟩ = some (.int .u8 (tx : Int)) ∧ W.cell? ⟨A2, k * 8 + 1, none⟩ = some (.int .u8 (ty : Int))) ∧ (W.cell? ⟨A, k * 8 + 6, none⟩ = some (.int .u64 (M k).bas) ∧ W.cell? ⟨A2, k * 8 + 6, none⟩ = some (.int .u64 (N k).bas)) ∧ (W.cell? ⟨A, k * 8 + 7, none⟩ = some (.int .u64 (M k).siz) ∧ W.cell? ⟨A2, k * 8 + 7, none⟩ = some (.int .u64 (N k).siz)) ∧ (W.cell? ⟨A, k * 8 + 3, none⟩ = some (.int .u16 (M k).par) ∧ W.cell? ⟨A2, k * 8 + 3, none⟩ = some (.int .u16 (N k).par))) := fun W hb => by
          have c := HAc.out k hlt W hb
          have c1 := c.t1
          have c2 := c.t2
          rw [etx] at c1
          rw [ety] at c2
          exact ⟨⟨c.g1, c.g2⟩, ⟨c1, c2⟩, ⟨c.b1, c.b2⟩, ⟨c.s1, c.s2⟩, ⟨c.p1, c.p2⟩⟩
        clear hR l0 l1 l2 l3 l4 l5 egx egy gx1 gx2 gy1 gy2 etx ety HKS
        generalize (M k).gen = gx at *
        generalize (N k).gen = gy at *
        generalize (M k).bas = bx at *
        generalize (N k).bas = by9 at *
        generalize (M k).siz = sx at *
        generalize (N k).siz = sy at *
        generalize (M k).par = px at *
        generalize (N k).par = py at *
        go_wp2_with (go_at_call 116; refine HF.out.mono ?_; rintro e w2 ⟨rfl, m2, hw2⟩; have HB2 := hideIt (show Below wr.heap.size wr w2 from by rw [hw2]; exact belowN _ _); clear hw2)
        go_quiet (fail)
        have HB3 := hideIt (Below.thr (Below.thr HBR.out HB2.out) (below_dn' w2 nq))
        have HD3 := hideIt ((HD.out.below HB2.out).below (below_dn' w2 nq))
        clear HB2 HD HF
        generalize w2.drewN nq = w3 at *
        obtain ⟨c1, c2⟩ := (HKC.out w3 HB3.out).1
        go_wp2_with fail
        go_region_held3 (fun w' => w'.cell? ⟨A, k * 8, none⟩ = some (.int .u32 gx) ∧ w'.cell? ⟨A2, k * 8, none⟩ = some (.int .u32 gy)) (go_keep)
          (first | (go_at_call 117; refine (HN1.out _ (HD3.out.below (below_d _))).mono ?_; rintro e w4 ⟨rfl, hd4, hb4⟩; have HB4 := hideIt ((Below.thr HB3.out (below_d _)).trans hb4); have HD4 := hideIt hd4; obtain ⟨c3, c4⟩ := (HKC.out w4 HB4.out).1))
        clear c1 c2 c3 c4 hd4 hb4 HB3 HD3 HN1
        obtain ⟨c1, c2⟩ := (HKC.out w4 HB4.out).2.1
        go_wp2_with fail
        go_region_held3 (fun w' => w'.cell? ⟨A, k * 8 + 1, none⟩ = some (.int .u8 (tx : Int)) ∧ w'.cell? ⟨A2, k * 8 + 1, none⟩ = some (.int .u8 (ty : Int))) (go_keep)
          (first | (go_at_call 117; refine (HN2.out _ (HD4.out.below (below_d _))).mono ?_; rintro e w5 ⟨rfl, hd5, hb5⟩; have HB5 := hideIt ((Below.thr HB4.out (below_d _)).trans hb5); have HD5 := hideIt hd5; obtain ⟨c3, c4⟩ := (HKC.out w5 HB5.out).2.1))
        clear c1 c2 c3 c4 hd5 hb5 HB4 HD4 HN2
        obtain ⟨c1, c2⟩ := (HKC.out w5 HB5.out).2.1
        by_cases htt : tx = ty
        case neg =>
          have HE := hideIt (HE1.out htt)
          have kne : ((tx : Int) != (ty : Int)) = true := by rw [bne_iff_ne]; omega
          clear HE1 HE2 HE3 HE4 htt
          go_wp2_with fail
          go_quiet (fail)
          have HBX := hideIt (Below.thr HB5.out (below_dn' w5 nq))
          have HDX := hideIt (HD5.out.below (below_dn' w5 nq))
          go_wp2_with fail
          go_roundw
          case rel => exact ⟨k + 1, by omega, by go_num, by rw [HE.out]; exact HDX.out, HBX.out⟩
          case measure => simp [intOf]; omega
        subst htt
        by_cases h0 : tx = 0
        case pos =>
          have HE := hideIt (HE2.out rfl h0)
          subst h0
          clear HE1 HE2 HE3 HE4
          go_wp2_with fail
          go_quiet (fail)
          have HBX := hideIt (Below.thr HB5.out (below_dn' w5 nq))
          have HDX := hideIt (HD5.out.below (below_dn' w5 nq))
          go_wp2_with fail
          go_roundw
          case rel => exact ⟨k + 1, by omega, by go_num, by rw [HE.out]; exact HDX.out, HBX.out⟩
          case measure => simp [intOf]; omega
        have k0 : ((tx : Int) == 0) = false := by rw [beq_eq_false_iff_ne]; omega
        clear HE1 HE2
        go_wp2_with fail
        go_quiet (fail)
        have HB6 := hideIt (Below.thr HB5.out (below_dn' w5 nq))
        have HD6 := hideIt (HD5.out.below (below_dn' w5 nq))
        clear HB5 HD5 c1 c2
        generalize w5.drewN nq = w6 at *
        obtain ⟨c1, c2⟩ := (HKC.out w6 HB6.out).2.2.1
        go_wp2_with fail
        go_region_held3 (fun w' => w'.cell? ⟨A, k * 8 + 6, none⟩ = some (.int .u64 bx) ∧ w'.cell? ⟨A2, k * 8 + 6, none⟩ = some (.int .u64 by9)) (go_keep)
          (first | (go_at_call 117; refine (HN3.out _ (HD6.out.below (below_d _))).mono ?_; rintro e w7 ⟨rfl, hd7, hb7⟩; have HB7 := hideIt ((Below.thr HB6.out (below_d _)).trans hb7); have HD7 := hideIt hd7; obtain ⟨c3, c4⟩ := (HKC.out w7 HB7.out).2.2.1))
        clear c1 c2 c3 c4 hd7 hb7 HB6 HD6 HN3
        obtain ⟨c1, c2⟩ := (HKC.out w7 HB7.out).2.2.2.1
        go_wp2_with fail
        go_region_held3 (fun w' => w'.cell? ⟨A, k * 8 + 7, none⟩ = some (.int .u64 sx) ∧ w'.cell? ⟨A2, k * 8 + 7, none⟩ = some (.int .u64 sy)) (go_keep)
          (first | (go_at_call 117; refine (HN4.out _ (HD7.out.below (below_d _))).mono ?_; rintro e w8 ⟨rfl, hd8, hb8⟩; have HB8 := hideIt ((Below.thr HB7.out (below_d _)).trans hb8); have HD8 := hideIt hd8; obtain ⟨c3, c4⟩ := (HKC.out w8 HB8.out).2.2.2.1))
        clear c1 c2 c3 c4 hd8 hb8 HB7 HD7 HN4
        obtain ⟨c1, c2⟩ := (HKC.out w8 HB8.out).2.2.2.2
        go_wp2_with fail
        go_region_held3 (fun w' => w'.cell? ⟨A, k * 8 + 3, none⟩ = some (.int .u16 px) ∧ w'.cell? ⟨A2, k * 8 + 3, none⟩ = some (.int .u16 py)) (go_keep)
          (first | (go_at_call 118; first | (refine (HO1.out _).mono ?_; rintro e w' ⟨rfl, hw'⟩; obtain rfl := hw'.symm) | (refine (HO2.out _).mono ?_; rintro e w' ⟨rfl, hw'⟩; obtain rfl := hw'.symm)) | (go_at_call 117; refine (HN5.out _ (HD8.out.below (below_d _))).mono ?_; rintro e w9 ⟨rfl, hd9, hb9⟩; have HB9 := hideIt ((Below.thr HB8.out (below_d _)).trans hb9); have HD9 := hideIt hd9; obtain ⟨c3, c4⟩ := (HKC.out w9 HB9.out).2.2.2.2))
        all_goals
          clear c1 c2 c3 c4 hd9 hb9 HB8 HD8
          obtain ⟨c1, c2⟩ := (HKC.out w9 HB9.out).2.1
          by_cases h1 : tx = 1
          case pos =>
            have HE := hideIt (HE3.out (by trivial) h1)
            subst h1
            clear HE3 HE4
            go_wp2_with fail
            go_roundw
            case rel => exact ⟨k + 1, by omega, by go_num, by rw [HE.out]; exact HD9.out, HB9.out⟩
            case measure => simp [intOf]; omega
          have k1 : ((tx : Int) == 1) = false := by rw [beq_eq_false_iff_ne]; omega
          obtain ⟨t, rfl⟩ : ∃ t, tx = t + 2 := ⟨tx - 2, by omega⟩
          have t6 : t < 6 := by omega
          have et : (s.hd k).typ = ((t + 2 : Nat) : Int) := by have := HT1.out; rw [HMe.out, ob_at _ _ hlt] at this; exact this
          have et2 : (s2.hd k).typ = ((t + 2 : Nat) : Int) := by have := HT2.out; rw [HNe.out, ob_at _ _ hlt] at this; exact this
          obtain ⟨r, er, r1, _⟩ := HS.out.iv.tb.row k (t + 2) hlt (by omega) (by omega) et
          obtain ⟨r2, er2, r12, _⟩ := HS2.out.iv.tb.row k (t + 2) hlt (by omega) (by omega) et2
          have HP1 := hideIt (payloadOf_walk (HM.out.below HB9.out) hlt t6 et er r1)
          have HP2 := hideIt (fun W (hb : Below w9.heap.size w9 W) => payloadOf_walk ((HM2.out.below HB9.out).below hb) hlt t6 et2 er2 r12)
          have HLD : Hid (∀ f, f < nF t → ∀ W, Below w.heap.size w W → Calls Tryz.prog (ldF t) #[.pointer (some ⟨rb t, r * nC t, none⟩), .int .i64 (f : Int)] W (LdPost ((M k).wds.getD f 0) W) ∧ Calls Tryz.prog (ldF t) #[.pointer (some ⟨rb2 t, r2 * nC t, none⟩), .int .i64 (f : Int)] W (LdPost ((N k).wds.getD f 0) W)) := fun f hf W hb => by
            have x1 : (M k).wds.getD f 0 = ws t r f := by rw [HMe.out, wds_obj hlt et er, List.getD_eq_getElem?_getD, wlist_at _ _ hf]; rfl
            have x2 : (N k).wds.getD f 0 = ws2 t r2 f := by rw [HNe.out, wds_obj hlt et2 er2, List.getD_eq_getElem?_getD, wlist_at _ _ hf]; rfl
            rw [x1, x2]
            exact ⟨load_any t6 ((HM.out.below hb).row t t6 r r1) (HS.out.wr t r t6 r1) hf, load_any t6 ((HM2.out.below hb).row t t6 r2 r12) (HS2.out.wr t r2 t6 r12) hf⟩
          have HWL : Hid ((M k).wds.length = nF t) := by show _ = _; rw [HMe.out, wds_obj hlt et er, wlist_len]
          have HE := hideIt (HE4.out (by trivial))
          rw [HWL.out] at HE
          have HNF : Hid (nF t ≤ 112) := by have := HMk.out.wlen k hlt; rw [HWL.out] at this; exact this
          have HKF : Hid (∀ W, Below w.heap.size w W → W.cell? ⟨1, (t + 2) * 4 + 3, none⟩ = some (.int .i64 (nF t : Int))) := fun W hb => by rw [← nF_k t6]; exact ((HK.out.below hb kl) (t + 2) (by omega)).2.2
          have mS := @meth_load t t6
          have eS := @ent_load t t6
          have t8 : ((t + 2 : Nat) : Int) < 8 := by omega
          clear et et2 er er2 r1 r12 HE3 HE4 h1 h0 k0
          go_wp2_with fail
          go_at_call 119
          refine HP1.out.mono ?_
          rintro e w10 ⟨rfl, hb10⟩
          have HP2' := hideIt (HP2.out w10 hb10)
          have HB10 := hideIt (Below.thr HB9.out hb10)
          have HD10 := hideIt (HD9.out.below hb10)
          clear hb10 c1 c2 HB9 HD9 HP1 HP2
          go_wp2_with fail
          go_at_call 119
          refine HP2'.out.mono ?_
          rintro e w11 ⟨rfl, hb11⟩
          have HB11 := hideIt (Below.thr HB10.out hb11)
          have HD11 := hideIt (HD10.out.below hb11)
          clear hb11 HB10 HD10 HP2'
          go_wp2_with fail
          go_loopw [13] (fun v13 wr => ∃ f : Nat, f ≤ nF t ∧ v13 = .int .i64 (f : Int) ∧ Dfm wr w.heap.size (tk lim (L5 ++ dfW M N k f)) lim ∧ Below w.heap.size w wr) (fun j _ => nF t - (intOf j).toNat)
          case atStart => exact ⟨0, Nat.zero_le _, rfl, by rw [show dfW M N k 0 = [] from rfl, List.append_nil]; exact HD11.out, HB11.out⟩
          case round =>
            clear HD11 HB11
            obtain ⟨f, hf, rfl, hdf, hbf⟩ := hrel
            have HDF := hideIt hdf
            have HBF := hideIt hbf
            have c1 := (HKC.out wr hbf).2.1.1
            have c2 := HKF.out wr hbf
            clear hdf hbf
            by_cases hlf : f < nF t
            · have hlf' : (f : Int) < (nF t : Int) := by omega
              have hf9 : f < 112 := by have := HNF.out; omega
              have HL := hideIt (HLD.out f hlf)
              have HNT : Hid (∀ W, Dfm W w.heap.size (tk lim (L5 ++ dfW M N k f)) lim → Calls Tryz.prog 117 #[.pointer (some ⟨w.heap.size, 0, none⟩), .int .i64 (k : Int), .int .u8 5, .int .i64 (f : Int), .int .u64 ((M k).wds.getD f 0), .int .u64 ((N k).wds.getD f 0)] W fun e w' => e = .returned (.tuple #[]) ∧ Dfm w' w.heap.size (tk lim (L5 ++ dfW M N k (f + 1))) lim ∧ Below w.heap.size W w') := fun W hW => by
                rw [dfW_succ, ← List.append_assoc]
                exact note_t hW (by rw [List.length_append]; have := dfW_le M N k f; have := HL5.out; have := HNF.out; omega) (p := 5) (f := f) rfl rfl (by omega) (by have := HNF.out; omega) _ _
              generalize (M k).wds.getD f 0 = xf at *
              generalize (N k).wds.getD f 0 = yf at *
              generalize hnf : nF t = nf at *
              go_wp2_with fail
              refine (HL.out wr HBF.out).1.mono ?_
              rintro e w12 ⟨rfl, hb12⟩
              have HB12 := hideIt (Below.thr HBF.out hb12)
              have HD12 := hideIt (HDF.out.below hb12)
              clear hb12 HBF HDF
              go_wp2_with fail
              refine (HL.out w12 HB12.out).2.mono ?_
              rintro e w13 ⟨rfl, hb13⟩
              have HB13 := hideIt (Below.thr HB12.out hb13)
              have HD13 := hideIt (HD12.out.below hb13)
              clear hb13 HB12 HD12
              go_wp2_with fail
              go_at_call 117
              refine (HNT.out w13 HD13.out).mono ?_
              rintro e w14 ⟨rfl, hd14, hb14⟩
              have HB14 := hideIt (HB13.out.trans hb14)
              have HD14 := hideIt hd14
              clear hd14 hb14 HB13 HD13
              go_wp2_with fail
              go_roundw
              case rel => exact ⟨f + 1, by omega, by go_num, HD14.out, HB14.out⟩
              case measure => simp [intOf]; omega
            · obtain rfl : f = nF t := by omega
              generalize hnf : nF t = nf at *
              go_wp2_with fail
              go_roundw
              case rel => exact ⟨k + 1, by omega, by go_num, by rw [HE.out]; exact HDF.out, HBF.out⟩
              case measure => simp [intOf]; omega
    · obtain rfl : k = 320 := by omega
      obtain ⟨v, hv1, hv2⟩ := hD
      have c0 := box_cell hv1 0
      have HV2 := hideIt hv2
      simp only [List.getElem?_toArray, List.getElem?_cons_zero] at c0
      obtain ⟨av, cv, hfv⟩ := own_formD hv2
      subst hfv
      clear hv1 hv2 hbr
      go_wp2_with fail
      go_ret
      exact DiP.fin HV2.out HBR.out rfl
end
end Go.Proofs.Qxb6500847aGreatDoor.Os
