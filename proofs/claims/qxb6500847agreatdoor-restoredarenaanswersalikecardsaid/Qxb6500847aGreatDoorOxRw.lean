/-
  The walk of RestoredArenaAnswersAlike.
-/
import Derived.Test.Qxb6500847aGreatDoorOxRm
import Derived.Test.Qxb6500847aGreatDoorOxEm
import Derived.Test.Qxb6500847aGreatDoorOxSm
import Derived.Test.Qxb6500847aGreatDoorOxLz
import Derived.Test.Qxb6500847aGreatDoorOxDo
import Derived.Test.Qxb6500847aGreatDoorOsNc
import Derived.Test.Qxb6500847aGreatDoorOxDf
namespace Go.Proofs.Qxb6500847aGreatDoor.Os
open Go.RowKit FloorA
set_option maxRecDepth 100000
theorem inf38 : (Tryz.prog.info? 38).map (fun i => (i.zero, i.size, i.bytes)) = some (some (.slice none 0 0), 1, 24) := by kernel_rfl
theorem inf57 : (Tryz.prog.info? 57).map (fun i => (i.zero, i.size, i.bytes)) = some (some (.agg #[.int .u8 0, .slice none 0 0, .slice none 0 0]), 3, 56) := by kernel_rfl
theorem new_three (w : World) (n : Nat) (h : w.heap.size = n) (u v x : Value) (t : TypeId) : ∀ j y, [u, v, x][j]? = some y → (w.alloc (.cells #[u, v, x] t)).cell? ((⟨n, 0, none⟩ : Addr).add j) = some y := by
  subst h
  intro j y hj
  have ad0 : (⟨w.heap.size, 0, none⟩ : Addr).add j = ⟨w.heap.size, j, none⟩ := by unfold Addr.add; by_cases e : j = 0 <;> simp [e]
  rw [ad0, box_cell (heap_new w _) j]
  simpa using hj
theorem ones3 (a : Int) (x y : Option Addr) (b c d e : Nat) : ∀ u ∈ [Value.int .u8 a, Value.slice x b c, Value.slice y d e], u.oneCell' = true := by
  intro u hu
  simp at hu
  rcases hu with rfl | rfl | rfl <;> rfl
theorem ones1 (x : Option Addr) (b c : Nat) : ∀ u ∈ [Value.slice x b c], u.oneCell' = true := by
  intro u hu
  simp at hu
  subst hu
  rfl
theorem frz_new1 (w : World) (v : Value) (T : TypeId) : (w.alloc (.cells #[v] T)).frozen? ⟨w.heap.size, 0, none⟩ = false := frz_new w _ T 0
set_option maxHeartbeats 16000000 in
theorem rlaw_walk (w : World) (hg : Gl w) (a0 : Option Addr) (b off len cap : Nat) (f : Nat → OpV) (hml : len ≤ 1152921504606846976) (ha : 0 < len → a0 = some ⟨b, off, none⟩) (hops : ∀ i, i < len → OpAt w b (off + i * 12) (f i)) :
    Calls Tryz.prog 6 #[.slice a0 len cap] w fun e w' => e = .returned (.bool true) ∧ Below w.heap.size w w' := by
  obtain ⟨i8, hi8, hz8, hs8, hb8⟩ := info_parts inf38
  obtain ⟨i7, hi7, hz7, hs7, hb7⟩ := info_parts inf57
  have HSM := hideIt (smallS_walk w a0 b off len cap f hml ha hops)
  have HO := hideIt hops
  have HA : Hid (0 < len → a0 = some ⟨b, off, none⟩) := ha
  have HG := hideIt hg
  have HS7 := hideIt hg.sz
  clear hg hops ha
  go_enter Tryz.func6, Tryz.ntmps6
  go_wp2_with fail
  go_at_call 10
  refine HSM.out.mono ?_
  rintro e w' ⟨hq, hw'⟩
  obtain rfl := hw'.symm
  clear hw' HSM
  rcases hq with rfl | ⟨rfl, hln⟩
  · go_wp2_with fail
    go_ret
    exact ⟨rfl, Below.refl _ _⟩
  go_wp2_with fail
  go_at_call 11
  refine (New_walk w).mono ?_
  rintro e w1 ⟨A, rb, sb, s, rfl, hb1, hz, hF, hM⟩
  have bB := alloc_below (w := w1) (.cells #[.pointer (some ⟨A, 0, none⟩)] 24)
  have hP := cell_of_one (heap_alloc_new w1 (.cells #[.pointer (some ⟨A, 0, none⟩)] 24))
  have HHx : Hid (Hx w1.heap.size A rb sb s tl0 (fun _ _ _ => 0) (fun _ => []) 0 (w1.alloc (.cells #[.pointer (some ⟨A, 0, none⟩)] 24))) :=
    ⟨⟨hM.below bB, hF.iv, wr0, (HG.out.below hb1).below bB, hP, frz_new1 _ _ _, hM.ntz, Nat.le_trans HS7.out hb1.size, fun b hb => Nat.le_trans HS7.out (hz b hb)⟩, hF.ix⟩
  have HB1 := hideIt (Below.thr hb1 bB)
  have HZ := hideIt hz
  have HSz := hideIt hb1.size
  have HEN := hideIt (encode_walk HHx.out.ms HHx.out.iv HHx.out.wr HHx.out.gl.gd HHx.out.gl.gl HHx.out.gl.kd HHx.out.gl.kl)
  clear hb1 hz hF hM bB
  go_wp2_with fail
  go_at_call 13
  refine HEN.out.mono ?_
  rintro e w2 ⟨bv, rfl, hown, hb2⟩
  obtain ⟨q, cp, rfl, hcl, hcm, hq1, hq2, hby⟩ := Own.bytes hown (imgB_range _ _) (imgB_ne _ _)
  have HLr : Hid (Lr w.heap.size w1.heap.size w A rb sb s tl0 (fun _ _ _ => 0) (fun _ => []) 0 f (ob s (fun _ _ _ => 0)) 0 (.slice (some ⟨w2.heap.size, 0, none⟩) 1 1) (.slice none 0 0) [(q, cp, imgB s (fun _ _ _ => 0))] [] (w2.alloc (.cells #[.slice (some ⟨q, 0, none⟩) (imgB s (fun _ _ _ => 0)).length cp] 38))) := by
    have b3 := alloc_below (w := w2) (.cells #[.slice (some ⟨q, 0, none⟩) (imgB s (fun _ _ _ => 0)).length cp] 38)
    have b23 := Below.thr hb2 b3
    have nq := HHx.out.toHs.nR hq1
    have n2 := HHx.out.toHs.nR (b := w2.heap.size) hb2.size
    have sz1 : w.heap.size ≤ (w1.alloc (.cells #[.pointer (some ⟨A, 0, none⟩)] 24)).heap.size := HB1.out.size
    have sz2 : (w1.alloc (.cells #[.pointer (some ⟨A, 0, none⟩)] 24)).heap.size ≤ w2.heap.size := hb2.size
    exact ⟨HHx.out.below b23, rfl, Ps.start (g := w2.heap.size) (Nat.le_trans sz1 sz2) (heap_new _ _) n2.1 n2.2.2 ⟨Nat.le_trans sz1 hq1, Nat.lt_of_lt_of_le hq2 b3.size, nq.1, nq.2.2, by omega⟩ (fun i hi => ⟨(b3.cell (p := ⟨q, 0 + i, none⟩) hq2).trans (hby i hi).1, (hby i hi).2⟩) hcl hcm ⟨s, tl0, _, _, 0, HHx.out.iv, HHx.out.ix, HHx.out.wr, rfl, rfl⟩, HB1.out.trans (b23.mono sz1), HZ.out⟩
  have HMM : ∃ M, M = ob s (fun _ _ _ => 0) := ⟨_, rfl⟩
  obtain ⟨M0, hM0⟩ := HMM
  rw [← hM0] at HLr
  generalize w1.heap.size = P at *
  clear hown hb2 hq1 hq2 hby hP HEN HHx HB1 HZ hcl hcm hM0
  generalize imgB s (fun _ _ _ => 0) = im0 at *
  go_wp2_with fail
  go_loopw [4, 5, 21] (fun v4 v5 v21 wr => ∃ (k A : Nat) (rb sb : Nat → Nat) (s : Av) (tl : Nat → List Int) (ws : Nat → Nat → Nat → Int) (L : Nat → List Nat) (n : Nat) (I : List (Nat × Nat × List Int)) (Z : List (Int × Value × Value)), k ≤ len ∧ v21 = .int .i64 (k : Int) ∧ I.length = k + 1 ∧ Z.length = k ∧ Lr w.heap.size P w A rb sb s tl ws L n f M0 k v4 v5 I Z wr) (fun _ _ i _ => len - (intOf i).toNat)
  case atStart => exact ⟨0, A, rb, sb, s, tl0, _, _, 0, _, [], Nat.zero_le _, rfl, rfl, rfl, HLr.out⟩
  case round =>
    clear HLr
    obtain ⟨k, A, rb, sb, s, tl, ws, L, n, I, Z, hk, rfl, hIl, hZl, hL⟩ := hrel
    have HIl := hideIt hIl
    have HZl := hideIt hZl
    clear hIl hZl
    by_cases hlt : k < len
    · have hlt' : (k : Int) < (len : Int) := by omega
      obtain rfl := HA.out (by omega)
      have hop := (HO.out k hlt).below hL.bw
      have HFk : ∃ v, v = f k := ⟨_, rfl⟩
      obtain ⟨v, hfk⟩ := HFk
      rw [← hfk] at hop
      have HFK := hideIt hfk
      clear hfk
      obtain ⟨kk, i, g, jj, gg, t, bt, ct, fd, a, bb, wv, wm, wX⟩ := v
      have HL0 := hideIt hL
      have HB0 := hideIt (show w.heap.size ≤ wr.heap.size from hL.bw.size)
      have HOp := hideIt hop
      have z0 : wr.cell? ⟨b, off + k * 12, none⟩ = some (.int .u8 (kk : Int)) := hop.rng 0 _ rfl
      have z1 : wr.cell? ⟨b, off + k * 12 + 1, none⟩ = some (.int .u16 (i : Int)) := hop.rng 1 _ rfl
      have z2 : wr.cell? ⟨b, off + k * 12 + 2, none⟩ = some (.int .u32 (g : Int)) := hop.rng 2 _ rfl
      have z3 : wr.cell? ⟨b, off + k * 12 + 3, none⟩ = some (.int .u16 (jj : Int)) := hop.rng 3 _ rfl
      have z4 : wr.cell? ⟨b, off + k * 12 + 4, none⟩ = some (.int .u32 (gg : Int)) := hop.rng 4 _ rfl
      have z5 : wr.cell? ⟨b, off + k * 12 + 5, none⟩ = some (.int .u8 (t : Int)) := hop.rng 5 _ rfl
      have z6 : wr.cell? ⟨b, off + k * 12 + 6, none⟩ = some (.int .u8 (bt : Int)) := hop.rng 6 _ rfl
      have z7 : wr.cell? ⟨b, off + k * 12 + 7, none⟩ = some (.int .u16 (ct : Int)) := hop.rng 7 _ rfl
      have z8 : wr.cell? ⟨b, off + k * 12 + 8, none⟩ = some (.int .u16 (fd : Int)) := hop.rng 8 _ rfl
      have z9 : wr.cell? ⟨b, off + k * 12 + 9, none⟩ = some (.int .u64 (a : Int)) := hop.rng 9 _ rfl
      have z10 : wr.cell? ⟨b, off + k * 12 + 10, none⟩ = some (.int .u64 (bb : Int)) := hop.rng 10 _ rfl
      have z11 : wr.cell? ⟨b, off + k * 12 + 11, none⟩ = some (wv) := hop.rng 11 _ rfl
      obtain ⟨wa, wn, wc, rfl⟩ : ∃ wa wn wc, wv = .slice wa wn wc := by
        rcases hop.ws with ⟨_, ad, c, e⟩ | ⟨b, o, c, e, _⟩
        · exact ⟨_, _, _, e⟩
        · exact ⟨_, _, _, e⟩
      clear hop hL
      go_wp2_with fail
      have bA := alloc_below (w := wr) (.cells #[.int .u8 (kk : Int), .int .u16 (i : Int), .int .u32 (g : Int), .int .u16 (jj : Int), .int .u32 (gg : Int), .int .u8 (t : Int), .int .u8 (bt : Int), .int .u16 (ct : Int), .int .u16 (fd : Int), .int .u64 (a : Int), .int .u64 (bb : Int), .slice wa wn wc] 37)
      have hL1 := HL0.out.below HB0.out bA
      have hO1 := HOp.out.below bA
      have HPL := hideIt (play_x hL1.hx ⟨kk, i, g, jj, gg, t, bt, ct, fd, a, bb, .slice wa wn wc, wm, wX⟩ hO1)
      have HL1 := hideIt hL1
      have HB1 := hideIt (Nat.le_trans HB0.out bA.size)
      clear bA hL1 hO1 z0 z1 z2 z3 z4 z5 z6 z7 z8 z9 z10 z11 HL0 HB0 HOp
      go_at_call 17
      generalize wr.alloc (.cells #[.int .u8 (kk : Int), .int .u16 (i : Int), .int .u32 (g : Int), .int .u16 (jj : Int), .int .u32 (gg : Int), .int .u8 (t : Int), .int .u8 (bt : Int), .int .u16 (ct : Int), .int .u16 (fd : Int), .int .u64 (a : Int), .int .u64 (bb : Int), .slice wa wn wc] 37) = wr1 at *
      refine HPL.out.mono ?_
      rintro e w3 ⟨refs, vals, A', rb', sb', s', tl', ws', L', n', rfl, hR, hV, hx3, hob3, he3, ha3, _⟩
      rw [show (⟨kk, i, g, jj, gg, t, bt, ct, fd, a, bb, .slice wa wn wc, wm, wX⟩ : OpV) = f k from HFK.out] at hR hV hob3 ha3
      rw [show (⟨kk, i, g, jj, gg, t, bt, ct, fd, a, bb, .slice wa wn wc, wm, wX⟩ : OpV) = f k from HFK.out]
      obtain ⟨hL3, hr3, hv3⟩ := HL1.out.play HB1.out HSz.out hR hV hx3 hob3 he3 ha3
      rw [show ob s ws = trM f M0 k from HL1.out.obs] at hR hV
      obtain ⟨r1, r3, rfl, _⟩ := hR
      obtain ⟨v1, v3, rfl, _⟩ := hV
      have HC : ∃ c, c = (stepX (ob s ws) (f k)).1.code := ⟨_, rfl⟩
      obtain ⟨code, hcode⟩ := HC
      rw [← hcode]
      rw [show ob s ws = trM f M0 k from HL1.out.obs] at hcode
      have HB3 := hideIt (Nat.le_trans HB1.out he3.size)
      have HRES := hideIt (fun (vR' : Value) (w5 : World) (o : Obj) hoq hgq hlq => hL3.res (vR' := vR') (w3 := w5) (x := (code, .slice r1 _ r3, .slice v1 _ v3)) (o := o) HS7.out HB3.out hoq hgq hlq (by rw [HZl.out]; exact hcode) (by rw [HZl.out]; exact hr3) (by rw [HZl.out]; exact hv3))
      have HOR := hideIt hL3.ps.oR
      clear hcode hx3 hob3 he3 ha3 hL3 hr3 hv3 HL1 HPL HB1
      generalize (stepX (trM f M0 k) (f k)).1.refs.length = rn at *
      generalize (stepX (trM f M0 k) (f k)).1.vals.length = vn at *
      go_wp2_with ((at_builtin; refine wpList_append_own_at _ rfl (.tmp 25) (.tmp 28) 80 rfl w.heap.size 57 i7 (.agg #[.int .u8 0, .slice none 0 0, .slice none 0 0]) 3 56 Tryz.underlying80 hi7 hz7 hs7 hb7 rfl (by decide) _ _ _ rfl (HOR.out.alloc _) ⟨w3.heap.size, 0, none⟩ 1 1 [.int .u8 code, .slice r1 rn r3, .slice v1 vn v3] rfl rfl (new_three w3 _ rfl _ _ _ _) (ones3 _ _ _ _ _ _ _) (by have := HZl.out; unfold maxLen; omega) (by have := HZl.out; omega) (by have := HB3.out; simp; omega) ?_; intro vR' w5 hown5 hgrow5 _ hwh5; go_loud (have hL5 := HRES.out vR' w5 _ hown5 hgrow5 hwh5); have pc5 := hL5.hx.pc; have HL5 := hideIt hL5; clear hown5 hgrow5 hwh5 hL5))
      have HB5 : Hid (w.heap.size ≤ w5.heap.size) := HL5.out.bw.size
      have HEN := hideIt (encode_walk HL5.out.hx.ms HL5.out.hx.iv HL5.out.hx.wr HL5.out.hx.gl.gd HL5.out.hx.gl.gl HL5.out.hx.gl.kd HL5.out.hx.gl.kl)
      clear HRES HOR HB3 pc5
      go_at_call 13
      refine HEN.out.mono ?_
      rintro e w6 ⟨bv, rfl, hown, hb6⟩
      obtain ⟨q', cp', rfl, hcl, hcm, hq1, hq2, hby⟩ := Own.bytes hown (imgB_range _ _) (imgB_ne _ _)
      have hL6 := HL5.out.below HB5.out hb6
      have hK6 : Kp w.heap.size P A' rb' sb' u4 vR' w6 q' := HL5.out.new HB5.out hq1 hq2
      have HB6 := hideIt (Nat.le_trans HB5.out hb6.size)
      have HIMG := hideIt (fun (vI' : Value) (w8 : World) (o : Obj) hoq hgq hlq => hL6.img (vI' := vI') (w3 := w8) (o := o) HS7.out HB6.out HIl.out hoq hgq hlq hK6 hby hcl hcm)
      have HOI := hideIt hL6.ps.oI
      clear hown hb6 hcl hcm hq1 hq2 hby hL6 hK6 HEN HL5 HB5
      generalize imgB s' ws' = im at *
      go_wp2_with ((at_builtin; refine wpList_append_own_at _ rfl (.tmp 30) (.tmp 33) 79 rfl w.heap.size 38 i8 (.slice none 0 0) 1 24 Tryz.underlying79 hi8 hz8 hs8 hb8 rfl (by decide) _ _ _ rfl (HOI.out.alloc _) ⟨w6.heap.size, 0, none⟩ 1 1 [.slice (some ⟨q', 0, none⟩) im.length cp'] rfl rfl (cell_one_new w6 _ _) (ones1 _ _ _) (by have := HIl.out; unfold maxLen; omega) (by have := HIl.out; omega) (by have := HB6.out; simp; omega) ?_; intro vI' w8 hown8 hgrow8 _ hwh8; have hL8 := HIMG.out vI' w8 _ hown8 hgrow8 hwh8; have HL8 := hideIt hL8; clear hown8 hgrow8 hwh8 hL8))
      go_roundw
      case rel => exact ⟨k + 1, A', rb', sb', s', tl', ws', L', n', _, _, by omega, by go_num, by rw [List.length_append, HIl.out]; rfl, by rw [List.length_append, HZl.out]; rfl, HL8.out⟩
      case measure => simp [intOf]; omega
    · have hkl : len = k := by omega
      subst hkl
      obtain ⟨wq, hwq⟩ : ∃ wq, wq = wr := ⟨_, rfl⟩
      subst hwq
      have HL0 := hideIt hL
      have HBw : Hid (w.heap.size ≤ wq.heap.size) := hL.bw.size
      obtain ⟨gI, cI, rfl, hcI⟩ := hL.ps.atI (by rw [HIl.out]; omega)
      have HCI := hideIt hcI
      obtain ⟨aR, cR, hsR⟩ := hL.ps.shR
      have HRR := hideIt hL.ps.atR
      rw [HIl.out]
      rw [HZl.out] at hsR
      subst hsR
      clear hL hcI
      go_wp2_with fail
      go_loopw [38] (fun v38 wr2 => ∃ c : Nat, c ≤ len + 1 ∧ v38 = .int .i64 (c : Int) ∧ Below wq.heap.size wq wr2) (fun i _ => len + 1 - (intOf i).toNat)
      case atStart => exact ⟨0, Nat.zero_le _, rfl, Below.refl _ _⟩
      case round =>
        obtain ⟨c, hc, rfl, hb2⟩ := hrel
        by_cases hlt2 : c < len + 1
        · have hlt2' : (c : Int) < ((len + 1 : Nat) : Int) := by omega
          obtain ⟨⟨q2, cp2, im2⟩, hx⟩ : ∃ x, I[c]? = some x := ⟨_, List.getElem?_eq_getElem (by rw [HIl.out]; exact hlt2)⟩
          have zi := (hb2.cell (p := ⟨gI, c, none⟩) (cell_lt (HCI.out c _ hx))).trans (HCI.out c _ hx)
          obtain ⟨hKq, hby, hcl, hcm, s1, tl1, ws1, L1, n1, hI1, hX1, hW1, ho1, him⟩ := HL0.out.ps.im c _ hx
          obtain rfl : im2 = imgB s1 ws1 := him
          have hby2 : BytesAt wr q2 0 (imgB s1 ws1) := fun i hi => ⟨(hb2.cell (p := ⟨q2, 0 + i, none⟩) hKq.2.1).trans (hby i hi).1, (hby i hi).2⟩
          have HG2 := hideIt (HL0.out.hx.gl.below hb2)
          have HDC := hideIt (Decode_x (w := wr) hI1 hX1 hW1 hby2 hcl hcm (Nat.lt_of_lt_of_le hKq.2.1 hb2.size) HG2.out.kd HG2.out.kl)
          have HO1 : Hid (ob s1 ws1 = trM f M0 c) := ho1
          have HB2 := hideIt hb2
          unfold hdrV at zi
          clear hKq hby hcl hcm hI1 hX1 hW1 ho1 hby2 hb2 hx
          go_wp2_with fail
          go_at_call 29
          refine HDC.out.mono ?_
          rintro e w2 ⟨hbd, A2, rb2, sb2, s2, tl2, ws2, L2, n2, rfl, hM2, hI2, hX2, hW2, hS2, _, hz2⟩
          have bB := alloc_below (w := w2) (.cells #[.pointer (some ⟨A2, 0, none⟩)] 24)
          have h4 : 4 ≤ wq.heap.size := Nat.le_trans HS7.out HBw.out
          have HHb : Hid (Hx w2.heap.size A2 rb2 sb2 s2 tl2 ws2 L2 n2 (w2.alloc (.cells #[.pointer (some ⟨A2, 0, none⟩)] 24))) :=
            ⟨⟨hM2.below bB, hI2, hW2, (HG2.out.below hbd).below bB, cell_of_one (heap_alloc_new w2 (.cells #[.pointer (some ⟨A2, 0, none⟩)] 24)), frz_new1 _ _ _, hM2.ntz, Nat.le_trans h4 (Nat.le_trans HB2.out.size hbd.size), fun b hb => Nat.le_trans h4 (Nat.le_trans HB2.out.size (hz2 b hb))⟩, hX2⟩
          have HOb : Hid (ob s2 ws2 = trM f M0 c) := hS2.trans HO1.out
          have HBb := hideIt (Below.thr HB2.out (Below.thr hbd bB))
          have HZb : Hid (∀ b, Tz A2 rb2 sb2 b → wq.heap.size ≤ b) := fun b hb => Nat.le_trans HB2.out.size (hz2 b hb)
          have HPb : Hid (wq.heap.size ≤ w2.heap.size) := Nat.le_trans HB2.out.size hbd.size
          clear hbd hM2 hI2 hX2 hW2 hS2 hz2 bB h4 HDC HO1 HG2 HB2 zi
          go_wp2_with fail
          go_loopw [11] (fun v11 wr3 => ∃ (i A : Nat) (rb sb : Nat → Nat) (s : Av) (tl : Nat → List Int) (ws : Nat → Nat → Nat → Int) (L : Nat → List Nat) (n : Nat), c ≤ i ∧ i ≤ len ∧ v11 = .int .i64 (i : Int) ∧ Hx w2.heap.size A rb sb s tl ws L n wr3 ∧ ob s ws = trM f M0 i ∧ Below wq.heap.size wq wr3 ∧ ∀ b, Tz A rb sb b → wq.heap.size ≤ b) (fun i _ => len - (intOf i).toNat)
          case atStart => exact ⟨c, A2, rb2, sb2, s2, tl2, ws2, L2, n2, Nat.le_refl _, by omega, rfl, HHb.out, HOb.out, HBb.out, HZb.out⟩
          case round =>
            clear HHb HOb HBb HZb
            obtain ⟨p, A3, rb3, sb3, s3, tl3, ws3, L3, n3, hcp, hp, rfl, hx3, ho3, hb3, hz3⟩ := hrel
            by_cases hlp : p < len
            · have hlp' : (p : Int) < (len : Int) := by omega
              obtain rfl := HA.out (by omega)
              have hop := (HO.out p hlp).below (HL0.out.bw.trans (hb3.mono HBw.out))
              obtain ⟨v, hfk⟩ : ∃ v, v = f p := ⟨_, rfl⟩
              rw [← hfk] at hop
              have HFK := hideIt hfk
              clear hfk
              obtain ⟨kk, i, g, jj, gg, t, bt, ct, fd, a, bb, wv, wm, wX⟩ := v
              have hPX := play_x (hx3.below (below_d wr)) ⟨kk, i, g, jj, gg, t, bt, ct, fd, a, bb, wv, wm, wX⟩ (hop.below (below_d wr))
              obtain ⟨X, hX⟩ : ∃ X, X = stepX (ob s3 ws3) ⟨kk, i, g, jj, gg, t, bt, ct, fd, a, bb, wv, wm, wX⟩ := ⟨_, rfl⟩
              rw [← hX] at hPX
              rw [ho3, show (⟨kk, i, g, jj, gg, t, bt, ct, fd, a, bb, wv, wm, wX⟩ : OpV) = f p from HFK.out] at hX
              have hsh := stp_len s3 ws3 (f p)
              rw [ho3] at hsh
              obtain ⟨⟨cz, rz, uz⟩, hz⟩ : ∃ x, Z[p]? = some x := ⟨_, List.getElem?_eq_getElem (by rw [HZl.out]; exact hlp)⟩
              obtain ⟨gR, cR', eR, hcR⟩ := HRR.out (by rw [HZl.out]; omega)
              obtain ⟨y0, y1, y2⟩ := hcR p _ hz
              obtain ⟨hcz, hrz, huz⟩ := HL0.out.ps.rz p _ hz
              obtain ⟨eR1, eR2⟩ : aR = some ⟨gR, 0, none⟩ ∧ cR = cR' := by
                injection eR with a1 a2 a3
                exact ⟨a1, a3⟩
              subst eR1 eR2
              have htr : trM f M0 (p + 1) = (stepX (trM f M0 p) (f p)).2 := rfl
              rw [← hX] at hsh htr
              simp only at y0 y1 y2 hcz hrz huz
              rw [← hX] at hcz hrz huz
              obtain ⟨⟨code, rl, vl⟩, M1⟩ := X
              simp only at hcz hrz huz
              subst hcz
              have hrs := hrz.sq (B := 0) (fun _ _ => Nat.zero_le _)
              have hus := huz.sq (B := 0) (fun _ _ => Nat.zero_le _)
              obtain ⟨ra, rc, rfl, hra⟩ := hrz
              obtain ⟨ua, uc, rfl, hua⟩ := huz
              have HC0 := hideIt (fun (w5 : World) (hb5 : Below wq.heap.size wq w5) => (⟨(hb5.cell (p := ⟨gR, p * 3, none⟩) (cell_lt y0)).trans y0, (hb5.cell (p := ⟨gR, p * 3 + 1, none⟩) (cell_lt y1)).trans y1, (hb5.cell (p := ⟨gR, p * 3 + 2, none⟩) (cell_lt y2)).trans y2⟩ : w5.cell? ⟨gR, p * 3, none⟩ = some (.int .u8 cz) ∧ w5.cell? ⟨gR, p * 3 + 1, none⟩ = some (.slice ra rl.length rc) ∧ w5.cell? ⟨gR, p * 3 + 2, none⟩ = some (.slice ua vl.length uc)))
              have HSA := hideIt (fun (w5 : World) (refs vals : Value) (hb5 : Below wq.heap.size wq w5) (hr : IsR (wr.drew.heap.size + 2) w5 refs rl) (hv : IsU (wr.drew.heap.size + 2) w5 vals vl) => same_walk (code := cz) hr hv (Sq.below hrs hb5 : IsR 0 w5 _ rl) (Sq.below hus hb5 : IsU 0 w5 _ vl) hsh.1 hsh.2)
              have HST := hideIt (fun (A' : Nat) (rb' sb' : Nat → Nat) (w5 : World) (he : Ext wr.drew.heap.size (fun b => Tz A3 rb3 sb3 b ∨ b = w2.heap.size) wr.drew w5) (ha : (A' = A3 ∧ rb' = rb3 ∧ sb' = sb3) ∨ ((∀ b, Tz A' rb' sb' b → wr.drew.heap.size ≤ b) ∧ rl = [] ∧ vl = [])) => (show Below wq.heap.size wq w5 ∧ ∀ b, Tz A' rb' sb' b → wq.heap.size ≤ b from ⟨(Below.thr hb3 (below_d wr)).trans (he.below' hb3.size (fun b hb hx => hx.elim (fun hx => absurd (hz3 b hx) (by omega)) (fun hx => by have := HPb.out; omega))), fun b hb => ha.elim (fun q => hz3 b (by rw [q.1, q.2.1, q.2.2] at hb; exact hb)) (fun q => Nat.le_trans hb3.size (q.1 b hb))⟩))
              have HTR : Hid (trM f M0 (p + 1) = M1) := htr
              have HPL := hideIt hPX
              obtain ⟨x0, x1, x2⟩ := HC0.out wr hb3
              have z0 : wr.cell? ⟨b, off + p * 12, none⟩ = some (.int .u8 (kk : Int)) := hop.rng 0 _ rfl
              have z1 : wr.cell? ⟨b, off + p * 12 + 1, none⟩ = some (.int .u16 (i : Int)) := hop.rng 1 _ rfl
              have z2 : wr.cell? ⟨b, off + p * 12 + 2, none⟩ = some (.int .u32 (g : Int)) := hop.rng 2 _ rfl
              have z3 : wr.cell? ⟨b, off + p * 12 + 3, none⟩ = some (.int .u16 (jj : Int)) := hop.rng 3 _ rfl
              have z4 : wr.cell? ⟨b, off + p * 12 + 4, none⟩ = some (.int .u32 (gg : Int)) := hop.rng 4 _ rfl
              have z5 : wr.cell? ⟨b, off + p * 12 + 5, none⟩ = some (.int .u8 (t : Int)) := hop.rng 5 _ rfl
              have z6 : wr.cell? ⟨b, off + p * 12 + 6, none⟩ = some (.int .u8 (bt : Int)) := hop.rng 6 _ rfl
              have z7 : wr.cell? ⟨b, off + p * 12 + 7, none⟩ = some (.int .u16 (ct : Int)) := hop.rng 7 _ rfl
              have z8 : wr.cell? ⟨b, off + p * 12 + 8, none⟩ = some (.int .u16 (fd : Int)) := hop.rng 8 _ rfl
              have z9 : wr.cell? ⟨b, off + p * 12 + 9, none⟩ = some (.int .u64 (a : Int)) := hop.rng 9 _ rfl
              have z10 : wr.cell? ⟨b, off + p * 12 + 10, none⟩ = some (.int .u64 (bb : Int)) := hop.rng 10 _ rfl
              have z11 : wr.cell? ⟨b, off + p * 12 + 11, none⟩ = some (wv) := hop.rng 11 _ rfl
              obtain ⟨wa, wn, wc, rfl⟩ : ∃ wa wn wc, wv = .slice wa wn wc := by
                rcases hop.ws with ⟨_, ad, c, e⟩ | ⟨b, o, c, e, _⟩
                · exact ⟨_, _, _, e⟩
                · exact ⟨_, _, _, e⟩
              clear hop hPX hsh hz hcR y0 y1 y2 hrs hus hra hua htr hX eR hx3 ho3 hb3 hz3
              go_wp2_with fail
              go_region_with (first | (go_at_call 17; refine HPL.out.mono ?_; rintro e w5 ⟨refs, vals, A5, rb5, sb5, s5, tl5, ws5, L5, n5, rfl, hR, hV, hx5, hob5, he5, ha5, _⟩; obtain ⟨hb5, hz5⟩ := HST.out A5 rb5 sb5 w5 he5 ha5; obtain ⟨d0, d1, d2⟩ := HC0.out w5 hb5; have HSM := hideIt (HSA.out w5 refs vals hb5 hR hV); obtain ⟨r1, r3, rfl, _⟩ := hR; obtain ⟨u1, u3, rfl, _⟩ := hV; have HX5 := hideIt hx5; have HOB : Hid (ob s5 ws5 = M1) := hob5; have HBX := hideIt hb5; have HZX := hideIt hz5; clear hx5 hob5 he5 ha5 hb5 hz5) | (go_at_call 18; refine HSM.out.mono ?_; rintro e w6 ⟨rfl, hb6⟩))
              all_goals
                go_wp2_with fail
                go_roundw
                case rel => exact ⟨p + 1, A5, rb5, sb5, s5, tl5, ws5, L5, n5, by omega, by omega, by go_num, HX5.out.below hb6, HOB.out.trans HTR.out.symm, Below.thr HBX.out hb6, HZX.out⟩
                case measure => simp [intOf]; omega
            · have hpl : p = len := by omega
              subst hpl
              obtain ⟨⟨q9, cp9, im9⟩, hx9⟩ : ∃ x, I[p]? = some x := ⟨_, List.getElem?_eq_getElem (by rw [HIl.out]; exact Nat.lt_succ_self _)⟩
              obtain ⟨hK9, hby9, _, _, hS9⟩ := HL0.out.ps.im p _ hx9
              have c9 := HCI.out p _ hx9
              obtain rfl : im9 = imgB s3 ws3 := (hS9.img ho3).symm
              have HCC := hideIt (fun (w6 : World) (hb6 : Below wr.heap.size wr w6) => (⟨(hx3.below hb6).pc, ((HL0.out.hx.below hb3).below hb6).pc, ((Below.thr hb3 hb6).cell (p := ⟨gI, p, none⟩) (cell_lt c9)).trans c9, fun i hi => ⟨((Below.thr hb3 hb6).cell (p := ⟨q9, 0 + i, none⟩) hK9.2.1).trans (hby9 i hi).1, (hby9 i hi).2⟩, Equal_x (hx3.below hb6).ms ((HL0.out.hx.below hb3).below hb6).ms hx3.iv HL0.out.hx.iv (HL0.out.obs.trans ho3.symm)⟩ : w6.cell? ⟨w2.heap.size, 0, none⟩ = some (.pointer (some ⟨A3, 0, none⟩)) ∧ w6.cell? ⟨P, 0, none⟩ = some (.pointer (some ⟨A, 0, none⟩)) ∧ w6.cell? ⟨gI, p, none⟩ = some (.slice (some ⟨q9, 0, none⟩) (imgB s3 ws3).length cp9) ∧ BytesAt w6 q9 0 (imgB s3 ws3) ∧ Calls Tryz.prog 31 #[.pointer (some ⟨A3, 0, none⟩), .pointer (some ⟨A, 0, none⟩)] w6 fun e w' => e = .returned (.bool true) ∧ Below w6.heap.size w6 w'))
              obtain ⟨g0, g1, g2, _, _⟩ := HCC.out wr (Below.refl _ _)
              have hxd := hx3.below (below_d wr)
              have HEN := hideIt (encode_walk hxd.ms hxd.iv hxd.wr hxd.gl.gd hxd.gl.gl hxd.gl.kd hxd.gl.kl)
              have HRG := hideIt (imgB_range s3 ws3)
              have HNE := hideIt (imgB_ne s3 ws3)
              have HB3 := hideIt hb3
              clear hK9 hby9 hS9 c9 hx9 hxd hx3 ho3 hb3 hz3
              generalize imgB s3 ws3 = im at *
              go_wp2_with fail
              go_region_with (first | (go_at_call 13; refine HEN.out.mono ?_; rintro e w6 ⟨bv, rfl, hown, hb6⟩; obtain ⟨q6, cp6, rfl, _, _, _, _, hby6⟩ := Own.bytes hown HRG.out HNE.out; obtain ⟨d0, d1, d2, d3, d4⟩ := HCC.out w6 (Below.thr (below_d _) hb6); have HEQ := hideIt (Equal_walk w6 im q6 cp6 q9 cp9 hby6 d3); have HEX := hideIt d4; have HB6 := hideIt (Below.thr HB3.out (Below.thr (below_d _) hb6)); clear hown hb6 hby6 d3 d4) | (go_at_call 20; refine HEQ.out.mono ?_; rintro e w' ⟨rfl, hw'⟩; obtain rfl := hw'.symm) | (go_at_call 31; refine HEX.out.mono ?_; rintro e w7 ⟨rfl, hb7⟩))
              all_goals
                go_wp2_with fail
                go_roundw
                case rel => exact ⟨c + 1, by omega, by go_num, Below.thr HB6.out hb7⟩
                case measure => simp [intOf]; omega
        · obtain rfl : c = len + 1 := by omega
          have HF := hideIt (HL0.out.bw.trans (hb2.mono HBw.out))
          clear hb2
          go_wp2_with fail
          go_ret
          exact ⟨rfl, HF.out⟩
end Go.Proofs.Qxb6500847aGreatDoor.Os
