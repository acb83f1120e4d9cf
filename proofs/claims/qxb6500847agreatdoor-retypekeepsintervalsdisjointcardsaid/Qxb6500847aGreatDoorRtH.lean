/-
  RetypeKeepsIntervalsDisjoint: the walk.
-/
import Derived.Test.Qxb6500847aGreatDoorRtG
import Derived.Test.Qxb6500847aGreatDoorRtGc
import Derived.Test.Qxb6500847aGreatDoorRtGd
import Derived.Deep.RegionHeld3
import Derived.Test.Qxb6500847aGreatDoorOxLz
import Derived.Test.Qxb6500847aGreatDoorOxSm
import Derived.BigQuiet
namespace Go.Proofs.Qxb6500847aGreatDoor.Os
open Go.RowKit FloorA
set_option maxRecDepth 100000
set_option maxHeartbeats 16000000 in
theorem tlaw_walk (w : World) (hg : Gl w) (a0 : Option Addr) (b off len cap : Nat) (f : Nat → OpV) (hml : len ≤ 1152921504606846976) (ha : 0 < len → a0 = some ⟨b, off, none⟩) (hops : ∀ i, i < len → OpAt w b (off + i * 12) (f i)) :
    Calls Tryz.prog 3 #[.slice a0 len cap] w fun e w' => e = .returned (.bool true) ∧ Below w.heap.size w w' := by
  have HSM := hideIt (smallS_walk w a0 b off len cap f hml ha hops)
  have HO := hideIt hops
  have HA : Hid (0 < len → a0 = some ⟨b, off, none⟩) := ha
  have HG := hideIt hg
  have H4w := hideIt hg.sz
  obtain ⟨d37, hu37, hd37⟩ := un37
  have HS37 : Hid (∀ v : OpV, (Tryz.prog.info? 37).map (·.size) = some v.arr.toList.length) := fun v => by
    obtain ⟨i8, hi8, hz8, hs8, hb8⟩ := info_parts inf37
    rw [hi8, arr_len]; show some i8.size = _; rw [hs8]
  clear hg hops ha
  go_enter Tryz.func3, Tryz.ntmps3
  go_wp2_with fail
  go_at_call 10
  refine HSM.out.mono ?_
  rintro e w' ⟨hq, hw'⟩
  obtain rfl := hw'.symm
  clear hw' HSM
  rcases hq with rfl | ⟨rfl, hln⟩
  · go_wp2_with fail
    go_ret
    exact ⟨rfl, Below.refl _ _⟩
  go_wp2_with fail
  go_at_call 11
  refine (New_walk w).mono ?_
  rintro e w2 ⟨A0, rb, sb, s, rfl, hb2, hz2, hF2, hM2⟩
  have HB2 := hideIt hb2
  have HZ2 := hideIt hz2
  have HF2 := hideIt hF2
  have HM2 := hideIt hM2
  clear hb2 hz2 hF2 hM2
  go_wp2_with fail
  go_at_call 12
  refine (new_m _).mono ?_
  rintro e w3 ⟨rfl, hb3, _, hm3⟩
  have HR0 := hideIt (R2.init HG.out HF2.out HB2.out HZ2.out HM2.out hb3 rfl (hm3 M00 (fun _ => 0) (fun i hi => if_pos hi)) rfl)
  clear hb3 hm3 HB2 HZ2 HF2 HM2 HG
  generalize w2.heap.size = B at *
  go_upto_region 4 with fail
  generalize w3.alloc (.cells #[.pointer (some ⟨A0, 0, none⟩)] 24) = w4 at *
  generalize w3.heap.size = P at *
  clear w2 w3
  go_wp2_with fail
  go_loopw [24] (fun v24 wr => ∃ k : Nat, k ≤ len ∧ v24 = .int .i64 (k : Int) ∧ ∃ D, R2 w D (fun _ => False) P B (trM f M00 k) (trM f M00 k) wr) (fun i _ => len - (intOf i).toNat)
  case atStart => exact ⟨0, Nat.zero_le _, rfl, HR0.out⟩
  case round =>
    clear HR0
    obtain ⟨k, hk, rfl, D, hR⟩ := hrel
    by_cases hlt : k < len
    · have hlt' : (k : Int) < (len : Int) := by omega
      obtain rfl := HA.out (by omega)
      have HF1 : Hid (∀ W, Below w.heap.size w W → OpAt W b (off + k * 12) (f k)) := fun W hW => (HO.out k hlt).below hW
      have HTM : Hid (trM f M00 (k + 1) = (stepX (trM f M00 k) (f k)).2) := rfl
      generalize f k = v at *
      have HV := HS37.out v
      obtain ⟨vk, vi, vg, vj, vgg, vt, vbt, vct, vfd, va, vb, vwv, vm, vX⟩ := v
      obtain ⟨wa, wn, wq, hwv⟩ : ∃ wa wn wq, vwv = .slice wa wn wq := by
        rcases (HF1.out wr hR.bel).ws with ⟨_, ad, c, e⟩ | ⟨b', o', c, e, _⟩
        · exact ⟨_, _, _, e⟩
        · exact ⟨_, _, _, e⟩
      subst hwv
      have HX1 : Hid (wr.rangeAt b (off + k * 12) [.int .u8 (vk : Int), .int .u16 (vi : Int), .int .u32 (vg : Int), .int .u16 (vj : Int), .int .u32 (vgg : Int), .int .u8 (vt : Int), .int .u8 (vbt : Int), .int .u16 (vct : Int), .int .u16 (vfd : Int), .int .u64 (va : Int), .int .u64 (vb : Int), .slice wa wn wq]) := (HF1.out wr hR.bel).rng
      have HI1 : Hid ((Tryz.prog.info? 37).map (·.size) = some ([.int .u8 (vk : Int), .int .u16 (vi : Int), .int .u32 (vg : Int), .int .u16 (vj : Int), .int .u32 (vgg : Int), .int .u8 (vt : Int), .int .u8 (vbt : Int), .int .u16 (vct : Int), .int .u16 (vfd : Int), .int .u64 (va : Int), .int .u64 (vb : Int), .slice wa wn wq] : List Value).length) := HV
      clear HV
      generalize trM f M00 k = M at *
      have HR := hideIt hR
      obtain ⟨A, hA⟩ := hR.asks
      obtain ⟨im, him⟩ := hR.sm.snd
      have HAS := hideIt hA
      have HIM := hideIt him
      clear hR hA him
      go_upto_region 7 with (refine wpList_load_mid rfl 37 (.tmp 26) rfl b (off + k * 12) rfl [.int .u8 (vk : Int), .int .u16 (vi : Int), .int .u32 (vg : Int), .int .u16 (vj : Int), .int .u32 (vgg : Int), .int .u8 (vt : Int), .int .u8 (vbt : Int), .int .u16 (vct : Int), .int .u16 (vfd : Int), .int .u64 (va : Int), .int .u64 (vb : Int), .slice wa wn wq] d37 HX1.out hu37 hd37 HI1.out ?_)
      have zb := heap_new wr (.cells #[.int .u8 (vk : Int), .int .u16 (vi : Int), .int .u32 (vg : Int), .int .u16 (vj : Int), .int .u32 (vgg : Int), .int .u8 (vt : Int), .int .u8 (vbt : Int), .int .u16 (vct : Int), .int .u16 (vfd : Int), .int .u64 (va : Int), .int .u64 (vb : Int), .slice wa wn wq] 37)
      have HBA := hideIt (alloc_below (w := wr) (.cells #[.int .u8 (vk : Int), .int .u16 (vi : Int), .int .u32 (vg : Int), .int .u16 (vj : Int), .int .u32 (vgg : Int), .int .u8 (vt : Int), .int .u8 (vbt : Int), .int .u16 (vct : Int), .int .u16 (vfd : Int), .int .u64 (va : Int), .int .u64 (vb : Int), .slice wa wn wq] 37))
      generalize wr.alloc (.cells #[.int .u8 (vk : Int), .int .u16 (vi : Int), .int .u32 (vg : Int), .int .u16 (vj : Int), .int .u32 (vgg : Int), .int .u8 (vt : Int), .int .u8 (vbt : Int), .int .u16 (vct : Int), .int .u16 (vfd : Int), .int .u64 (va : Int), .int .u64 (vb : Int), .slice wa wn wq] 37) = wA at *
      have pcA := (HAS.out wA HBA.out).pc
      have ZB := hideIt zb
      have HZA : Hid (∀ W, Below wA.heap.size wA W → W.heap[wr.heap.size]? = some (.cells #[.int .u8 (vk : Int), .int .u16 (vi : Int), .int .u32 (vg : Int), .int .u16 (vj : Int), .int .u32 (vgg : Int), .int .u8 (vt : Int), .int .u8 (vbt : Int), .int .u16 (vct : Int), .int .u16 (vfd : Int), .int .u64 (va : Int), .int .u64 (vb : Int), .slice wa wn wq] 37 (0, 0))) := fun W hW => (hW.block _ (heap_lt ZB.out)).trans ZB.out
      clear zb HX1
      go_wp2_with fail
      go_at_call 13
      refine ((HAS.out wA HBA.out).enc im HIM.out).mono ?_
      rintro e wB ⟨vim, rfl, hoB, hbB⟩
      obtain ⟨g7, cp7, rfl, hg71, hg72, hgz, hgl, hby7⟩ := Own.bytes hoB HIM.out.bytes.1 HIM.out.bytes.2
      have HG7 : Hid (wA.heap.size ≤ g7 ∧ g7 < wB.heap.size) := ⟨by omega, by omega⟩
      have HYB : Hid (∀ W, Below wB.heap.size wB W → BytesAt W g7 0 im) := fun W hW => bytes_block hby7 (hW.block g7 (by omega))
      clear hg71 hg72 hgz hgl hby7
      have HBB := hideIt (Below.thr HBA.out hbB)
      have HAB := hideIt hbB
      have zb := (hbB.block _ (heap_lt ZB.out)).trans ZB.out
      have ZB2 := hideIt zb
      have pcB := (HAS.out wB HBB.out).pc
      have z1 : wB.cell? ⟨wr.heap.size, 1, none⟩ = some (.int .u16 (vi : Int)) := box_cell zb 1
      have z2 : wB.cell? ⟨wr.heap.size, 2, none⟩ = some (.int .u32 (vg : Int)) := box_cell zb 2
      clear hoB hbB zb pcA
      go_wp2_with fail
      go_at_call 14
      refine ((HAS.out wB HBB.out).reg vi vg).mono ?_
      rintro e wC (⟨v, c, hX, rfl, hrf⟩ | ⟨⟨x1, y1, t1, b1, s1, p1, q1, a1, f1, d1, hX, hd1, hd2, rfl⟩, hbC⟩)
      · obtain ⟨⟨be, rfl, _⟩, _, hbC⟩ := hrf
        have HBC := hideIt (Below.thr HBB.out hbC)
        have HQ : Hid ((stepX M ⟨vk, vi, vg, vj, vgg, vt, vbt, vct, vfd, va, vb, .slice wa wn wq, vm, vX⟩).1.code = 0 → false = false) := fun _ => rfl
        simp only [reg10, inf7, List.cons_append, List.nil_append]
        have HAC := hideIt (Below.thr HAB.out hbC)
        have HQC := hideIt hbC
        clear hbC z1 z2 pcB hX
        go_upto_region 16 with fail
        have HQB := hideIt (Below.thr HQC.out (alloc_below (w := wC) (.cells #[.int .u16 0, .int .u32 0, .int .u8 0, .int .u64 0, .int .u64 0, .int .u16 0, .int .u32 0, .int .u64 0, .int .u64 0, .int .i64 0] 43)))
        generalize wC.alloc (.cells #[.int .u16 0, .int .u32 0, .int .u8 0, .int .u64 0, .int .u64 0, .int .u16 0, .int .u32 0, .int .u64 0, .int .u64 0, .int .i64 0] 43) = wx at *
        clear HBC HAC HQC
        have HBX := hideIt (Below.thr HBB.out HQB.out)
        have HZX := hideIt (HZA.out wx (Below.thr HAB.out HQB.out))
        have HYX := hideIt (HYB.out wx HQB.out)
        have HG8 : Hid (wr.heap.size ≤ g7 ∧ g7 < wx.heap.size ∧ wr.heap.size < wx.heap.size) := by
          have e1 := HG7.out
          have e2 := HBA.out.size
          have e3 := HQB.out.size
          have e4 := heap_lt HZX.out
          exact ⟨by omega, by omega, e4⟩
        have HR6 := hideIt (HR.out.below HBX.out)
        have zb6 : wx.heap[wr.heap.size]? = some (.cells #[.int .u8 (vk : Int), .int .u16 (vi : Int), .int .u32 (vg : Int), .int .u16 (vj : Int), .int .u32 (vgg : Int), .int .u8 (vt : Int), .int .u8 (vbt : Int), .int .u16 (vct : Int), .int .u16 (vfd : Int), .int .u64 (va : Int), .int .u64 (vb : Int), .slice wa wn wq] 37 (0, 0)) := HZX.out
        have HX6 : Hid (wx.rangeAt wr.heap.size 0 [.int .u8 (vk : Int), .int .u16 (vi : Int), .int .u32 (vg : Int), .int .u16 (vj : Int), .int .u32 (vgg : Int), .int .u8 (vt : Int), .int .u8 (vbt : Int), .int .u16 (vct : Int), .int .u16 (vfd : Int), .int .u64 (va : Int), .int .u64 (vb : Int), .slice wa wn wq]) := fun j u hu => by rw [Nat.zero_add]; exact (box_cell zb6 j).trans (by simpa using hu)
        have HP : Hid (Calls Tryz.prog 17 #[.pointer (some ⟨P, 0, none⟩), .agg #[.int .u8 (vk : Int), .int .u16 (vi : Int), .int .u32 (vg : Int), .int .u16 (vj : Int), .int .u32 (vgg : Int), .int .u8 (vt : Int), .int .u8 (vbt : Int), .int .u16 (vct : Int), .int .u16 (vfd : Int), .int .u64 (va : Int), .int .u64 (vb : Int), .slice wa wn wq]] wx fun e w' => ∃ refs vals, e = .returned (.agg #[.int .u8 (stepX M ⟨vk, vi, vg, vj, vgg, vt, vbt, vct, vfd, va, vb, .slice wa wn wq, vm, vX⟩).1.code, refs, vals]) ∧ IsR (wx.heap.size + 2) w' refs (stepX M ⟨vk, vi, vg, vj, vgg, vt, vbt, vct, vfd, va, vb, .slice wa wn wq, vm, vX⟩).1.refs ∧ IsU (wx.heap.size + 2) w' vals (stepX M ⟨vk, vi, vg, vj, vgg, vt, vbt, vct, vfd, va, vb, .slice wa wn wq, vm, vX⟩).1.vals ∧ R2 w (grD D 0 wx w') (fun b => False ∨ (wr.heap.size ≤ b ∧ b < wx.heap.size)) P B (stepX M ⟨vk, vi, vg, vj, vgg, vt, vbt, vct, vfd, va, vb, .slice wa wn wq, vm, vX⟩).2 M w' ∧ Ext wx.heap.size (D 0) wx w') := HR6.out.play ⟨vk, vi, vg, vj, vgg, vt, vbt, vct, vfd, va, vb, .slice wa wn wq, vm, vX⟩ (HF1.out wx HR6.out.bel)
        clear zb6
        go_wp2_with (refine wpList_load_mid rfl 37 (.tmp 6) rfl wr.heap.size 0 rfl [.int .u8 (vk : Int), .int .u16 (vi : Int), .int .u32 (vg : Int), .int .u16 (vj : Int), .int .u32 (vgg : Int), .int .u8 (vt : Int), .int .u8 (vbt : Int), .int .u16 (vct : Int), .int .u16 (vfd : Int), .int .u64 (va : Int), .int .u64 (vb : Int), .slice wa wn wq] d37 HX6.out hu37 hd37 HI1.out ?_)
        go_at_call 17
        refine HP.out.mono ?_
        rintro e wD ⟨refs, vals, rfl, hRf, hVl, hRD, heD⟩
        have HYD : Hid (BytesAt wD g7 0 im) := bytes_block HYX.out (HR6.out.zkeep heD (Or.inr ⟨HG8.out.1, HG8.out.2.1⟩))
        have HZD : Hid (wD.heap[wr.heap.size]? = some (.cells #[.int .u8 (vk : Int), .int .u16 (vi : Int), .int .u32 (vg : Int), .int .u16 (vj : Int), .int .u32 (vgg : Int), .int .u8 (vt : Int), .int .u8 (vbt : Int), .int .u16 (vct : Int), .int .u16 (vfd : Int), .int .u64 (va : Int), .int .u64 (vb : Int), .slice wa wn wq] 37 (0, 0))) := (HR6.out.zkeep heD (Or.inr ⟨Nat.le_refl _, HG8.out.2.2⟩)).trans HZX.out
        have HWD := hideIt heD.size
        have hq1 : ∀ b, grD D 0 wx wD 1 b → b < wx.heap.size + 2 := fun b hb => Nat.lt_of_lt_of_le (HR6.out.q1 hb) (Nat.le_add_right _ _)
        have HBD : Hid ((stepX M ⟨vk, vi, vg, vj, vgg, vt, vbt, vct, vfd, va, vb, .slice wa wn wq, vm, vX⟩).1.code ≠ 0 → (stepX M ⟨vk, vi, vg, vj, vgg, vt, vbt, vct, vfd, va, vb, .slice wa wn wq, vm, vX⟩).2 = M) := stepX_bad
        have HSH := hideIt (HR.out.sm.short ⟨vk, vi, vg, vj, vgg, vt, vbt, vct, vfd, va, vb, .slice wa wn wq, vm, vX⟩)
        have HST0 : Hid (∀ W, R2 w (grD D 0 wx wD) (fun b => (False ∨ (wr.heap.size ≤ b ∧ b < wx.heap.size)) ∨ (wD.heap.size ≤ b ∧ b < W.heap.size)) P B (stepX M ⟨vk, vi, vg, vj, vgg, vt, vbt, vct, vfd, va, vb, .slice wa wn wq, vm, vX⟩).2 M W → Below wD.heap.size wD W → ∀ W2, Below W.heap.size W W2 → Calls Tryz.prog 19 #[.pointer (some ⟨B, 0, none⟩), .agg #[.int .u8 (vk : Int), .int .u16 (vi : Int), .int .u32 (vg : Int), .int .u16 (vj : Int), .int .u32 (vgg : Int), .int .u8 (vt : Int), .int .u8 (vbt : Int), .int .u16 (vct : Int), .int .u16 (vfd : Int), .int .u64 (va : Int), .int .u64 (vb : Int), .slice wa wn wq]] W2 (StB w (fun b => (False ∨ (wr.heap.size ≤ b ∧ b < wx.heap.size)) ∨ (wD.heap.size ≤ b ∧ b < W.heap.size)) P B (stepX M ⟨vk, vi, vg, vj, vgg, vt, vbt, vct, vfd, va, vb, .slice wa wn wq, vm, vX⟩).2 (stepX M ⟨vk, vi, vg, vj, vgg, vt, vbt, vct, vfd, va, vb, .slice wa wn wq, vm, vX⟩).1 refs vals W)) := fun W hw hW W2 hW2 => hw.stepB H4w.out ⟨vk, vi, vg, vj, vgg, vt, vbt, vct, vfd, va, vb, .slice wa wn wq, vm, vX⟩ HF1.out rfl (Sq.below hRf hW) (Sq.below hVl hW) hq1 W2 hW2
        obtain ⟨ra, rc, hrf, _⟩ := id hRf
        obtain ⟨ua, uc, huf, _⟩ := id hVl
        have HRD := hideIt hRD
        subst hrf huf
        clear hRf hVl hRD heD hq1 HP HX6 HR6
        obtain ⟨X, hX⟩ : ∃ X, X = stepX M ⟨vk, vi, vg, vj, vgg, vt, vbt, vct, vfd, va, vb, .slice wa wn wq, vm, vX⟩ := ⟨_, rfl⟩
        rw [← hX] at HST0 HSH HBD HRD HQ HTM ⊢
        clear hX
        obtain ⟨⟨C, rR, rV⟩, M2⟩ := X
        dsimp only at HST0 HSH HBD HRD HQ HTM ⊢
        have HST1 : Hid (∀ nr nu, nr = rR.length → nu = rV.length → ∀ W, R2 w (grD D 0 wx wD) (fun b => (False ∨ (wr.heap.size ≤ b ∧ b < wx.heap.size)) ∨ (wD.heap.size ≤ b ∧ b < W.heap.size)) P B M2 M W → Below wD.heap.size wD W → ∀ W2, Below W.heap.size W W2 → Calls Tryz.prog 19 #[.pointer (some ⟨B, 0, none⟩), .agg #[.int .u8 (vk : Int), .int .u16 (vi : Int), .int .u32 (vg : Int), .int .u16 (vj : Int), .int .u32 (vgg : Int), .int .u8 (vt : Int), .int .u8 (vbt : Int), .int .u16 (vct : Int), .int .u16 (vfd : Int), .int .u64 (va : Int), .int .u64 (vb : Int), .slice wa wn wq]] W2 (StB w (fun b => (False ∨ (wr.heap.size ≤ b ∧ b < wx.heap.size)) ∨ (wD.heap.size ≤ b ∧ b < W.heap.size)) P B M2 ⟨C, rR, rV⟩ (.slice ra nr rc) (.slice ua nu uc) W)) := fun nr nu e1 e2 => by subst e1 e2; exact HST0.out
        obtain ⟨nr, hnr⟩ : ∃ nr, nr = rR.length := ⟨_, rfl⟩
        obtain ⟨nu, hnu⟩ : ∃ nu, nu = rV.length := ⟨_, rfl⟩
        have HST2 := hideIt (HST1.out nr nu hnr hnu)
        rw [← hnr, ← hnu]
        clear hnr hnu HST1 HST0
        go_upto_region 17 with fail
        have zx := heap_new wD (.cells #[.int .u8 C, .slice ra nr rc, .slice ua nu uc] 57)
        have HBF := hideIt (alloc_below (w := wD) (.cells #[.int .u8 C, .slice ra nr rc, .slice ua nu uc] 57))
        have HRF := hideIt (HRD.out.below HBF.out)
        generalize wD.alloc (.cells #[.int .u8 C, .slice ra nr rc, .slice ua nu uc] 57) = wF at *
        have HLx := hideIt (heap_lt zx)
        generalize hbx9 : wD.heap.size = bx at *
        have HST := hideIt (HST2.out wF HRF.out HBF.out)
        have HYF : Hid (BytesAt wF g7 0 im ∧ wF.heap[wr.heap.size]? = some (.cells #[.int .u8 (vk : Int), .int .u16 (vi : Int), .int .u32 (vg : Int), .int .u16 (vj : Int), .int .u32 (vgg : Int), .int .u8 (vt : Int), .int .u8 (vbt : Int), .int .u16 (vct : Int), .int .u16 (vfd : Int), .int .u64 (va : Int), .int .u64 (vb : Int), .slice wa wn wq] 37 (0, 0)) ∧ wF.heap[bx]? = some (.cells #[.int .u8 C, .slice ra nr rc, .slice ua nu uc] 57 (0, 0))) := ⟨bytes_block HYD.out (HBF.out.block g7 (by have := HG8.out; have := HWD.out; omega)), (HBF.out.block _ (by have := HG8.out; have := HWD.out; omega)).trans HZD.out, zx⟩
        clear zx HYD HZD HST2 HBF HRD
        have HBXS : Hid (∀ w' : World, w'.heap[wr.heap.size]? = some (.cells #[.int .u8 (vk : Int), .int .u16 (vi : Int), .int .u32 (vg : Int), .int .u16 (vj : Int), .int .u32 (vgg : Int), .int .u8 (vt : Int), .int .u8 (vbt : Int), .int .u16 (vct : Int), .int .u16 (vfd : Int), .int .u64 (va : Int), .int .u64 (vb : Int), .slice wa wn wq] 37 (0, 0)) → w'.heap[bx]? = some (.cells #[.int .u8 C, .slice ra nr rc, .slice ua nu uc] 57 (0, 0)) → w'.cell? ⟨wr.heap.size, 0, none⟩ = some (.int .u8 (vk : Int)) ∧ w'.cell? ⟨wr.heap.size, 1, none⟩ = some (.int .u16 (vi : Int)) ∧ w'.cell? ⟨wr.heap.size, 2, none⟩ = some (.int .u32 (vg : Int)) ∧ w'.cell? ⟨wr.heap.size, 3, none⟩ = some (.int .u16 (vj : Int)) ∧ w'.cell? ⟨wr.heap.size, 4, none⟩ = some (.int .u32 (vgg : Int)) ∧ w'.cell? ⟨wr.heap.size, 5, none⟩ = some (.int .u8 (vt : Int)) ∧ w'.cell? ⟨wr.heap.size, 6, none⟩ = some (.int .u8 (vbt : Int)) ∧ w'.cell? ⟨wr.heap.size, 7, none⟩ = some (.int .u16 (vct : Int)) ∧ w'.cell? ⟨wr.heap.size, 8, none⟩ = some (.int .u16 (vfd : Int)) ∧ w'.cell? ⟨wr.heap.size, 9, none⟩ = some (.int .u64 (va : Int)) ∧ w'.cell? ⟨wr.heap.size, 10, none⟩ = some (.int .u64 (vb : Int)) ∧ w'.cell? ⟨wr.heap.size, 11, none⟩ = some (.slice wa wn wq) ∧ w'.cell? ⟨bx, 0, none⟩ = some (.int .u8 C) ∧ w'.cell? ⟨bx, 1, none⟩ = some (.slice ra nr rc) ∧ w'.cell? ⟨bx, 2, none⟩ = some (.slice ua nu uc)) := fun w' k1 k2 => ⟨box_cell k1 0, box_cell k1 1, box_cell k1 2, box_cell k1 3, box_cell k1 4, box_cell k1 5, box_cell k1 6, box_cell k1 7, box_cell k1 8, box_cell k1 9, box_cell k1 10, box_cell k1 11, box_cell k2 0, box_cell k2 1, box_cell k2 2⟩
        have HZ7 : Hid (((False ∨ (wr.heap.size ≤ g7 ∧ g7 < wx.heap.size)) ∨ (bx ≤ g7 ∧ g7 < wF.heap.size)) ∧ ((False ∨ (wr.heap.size ≤ wr.heap.size ∧ wr.heap.size < wx.heap.size)) ∨ (bx ≤ wr.heap.size ∧ wr.heap.size < wF.heap.size)) ∧ ((False ∨ (wr.heap.size ≤ bx ∧ bx < wx.heap.size)) ∨ (bx ≤ bx ∧ bx < wF.heap.size))) := ⟨Or.inl (Or.inr ⟨HG8.out.1, HG8.out.2.1⟩), Or.inl (Or.inr ⟨Nat.le_refl _, HG8.out.2.2⟩), Or.inr ⟨Nat.le_refl _, HLx.out⟩⟩
        go_region_held3 (fun w' => w'.cell? ⟨wr.heap.size, 0, none⟩ = some (.int .u8 (vk : Int)) ∧ w'.cell? ⟨wr.heap.size, 1, none⟩ = some (.int .u16 (vi : Int)) ∧ w'.cell? ⟨wr.heap.size, 2, none⟩ = some (.int .u32 (vg : Int)) ∧ w'.cell? ⟨wr.heap.size, 3, none⟩ = some (.int .u16 (vj : Int)) ∧ w'.cell? ⟨wr.heap.size, 4, none⟩ = some (.int .u32 (vgg : Int)) ∧ w'.cell? ⟨wr.heap.size, 5, none⟩ = some (.int .u8 (vt : Int)) ∧ w'.cell? ⟨wr.heap.size, 6, none⟩ = some (.int .u8 (vbt : Int)) ∧ w'.cell? ⟨wr.heap.size, 7, none⟩ = some (.int .u16 (vct : Int)) ∧ w'.cell? ⟨wr.heap.size, 8, none⟩ = some (.int .u16 (vfd : Int)) ∧ w'.cell? ⟨wr.heap.size, 9, none⟩ = some (.int .u64 (va : Int)) ∧ w'.cell? ⟨wr.heap.size, 10, none⟩ = some (.int .u64 (vb : Int)) ∧ w'.cell? ⟨wr.heap.size, 11, none⟩ = some (.slice wa wn wq) ∧ w'.cell? ⟨bx, 0, none⟩ = some (.int .u8 C) ∧ w'.cell? ⟨bx, 1, none⟩ = some (.slice ra nr rc) ∧ w'.cell? ⟨bx, 2, none⟩ = some (.slice ua nu uc)) (first | exact HBXS.out _ HYF.out.2.1 HYF.out.2.2 | exact HBXS.out _ HK5.out.2.1 HK5.out.2.2 | exact HBXS.out _ HK6.out.2.1 HK6.out.2.2 | go_keep)
          (first
            | (go_at_call 19; refine (HST.out _ (below_d _)).mono ?_; rintro e wG ⟨refs2, vals2, rfl, hr2, hv2, hr1, hv1, hRG, hkp⟩; have HK5 : Hid (BytesAt wG g7 0 im ∧ wG.heap[wr.heap.size]? = some (.cells #[.int .u8 (vk : Int), .int .u16 (vi : Int), .int .u32 (vg : Int), .int .u16 (vj : Int), .int .u32 (vgg : Int), .int .u8 (vt : Int), .int .u8 (vbt : Int), .int .u16 (vct : Int), .int .u16 (vfd : Int), .int .u64 (va : Int), .int .u64 (vb : Int), .slice wa wn wq] 37 (0, 0)) ∧ wG.heap[bx]? = some (.cells #[.int .u8 C, .slice ra nr rc, .slice ua nu uc] 57 (0, 0))) := ⟨bytes_block HYF.out.1 (hkp g7 HZ7.out.1), (hkp _ HZ7.out.2.1).trans HYF.out.2.1, (hkp _ HZ7.out.2.2).trans HYF.out.2.2⟩; have HRG := hideIt hRG; have HSA := hideIt (same_walk (code := C) hr1 hv1 hr2 hv2 HSH.out.1 HSH.out.2); obtain ⟨a3, c3, hf3, _⟩ := hr2; obtain ⟨a4, c4, hf4, _⟩ := hv2; subst hf3 hf4; clear hr1 hv1 hRG hkp)
            | (go_at_call 18; refine HSA.out.mono ?_; rintro e wS ⟨rfl, hbS⟩; have HK6 : Hid (BytesAt wS g7 0 im ∧ wS.heap[wr.heap.size]? = some (.cells #[.int .u8 (vk : Int), .int .u16 (vi : Int), .int .u32 (vg : Int), .int .u16 (vj : Int), .int .u32 (vgg : Int), .int .u8 (vt : Int), .int .u8 (vbt : Int), .int .u16 (vct : Int), .int .u16 (vfd : Int), .int .u64 (va : Int), .int .u64 (vb : Int), .slice wa wn wq] 37 (0, 0)) ∧ wS.heap[bx]? = some (.cells #[.int .u8 C, .slice ra nr rc, .slice ua nu uc] 57 (0, 0))) := ⟨bytes_block HK5.out.1 (hbS.block _ (lt_of_bytes HK5.out.1 HIM.out.bytes.2)), (hbS.block _ (heap_lt HK5.out.2.1)).trans HK5.out.2.1, (hbS.block _ (heap_lt HK5.out.2.2)).trans HK5.out.2.2⟩; have HBS := hideIt hbS; clear hbS))
        obtain ⟨D9, hR9⟩ := HRG.out
        have HR9 := hideIt ((hR9.below HBS.out).weak (Z' := fun _ => False) (fun b hb => hb.elim))
        obtain ⟨A9, hA9⟩ := HR9.out.asks
        have HA9 := hideIt hA9
        have zc : wS.cell? ⟨bx, 0, none⟩ = some (.int .u8 C) := box_cell HK6.out.2.2 0
        have zk : wS.cell? ⟨wr.heap.size, 0, none⟩ = some (.int .u8 (vk : Int)) := box_cell HK6.out.2.1 0
        have pc9 := (HA9.out wS (Below.refl _ _)).pc
        clear hR9 hA9 HRG HBS HSA HK5 HYF HBXS HZ7 HST HRF HSH HF1
        by_cases hC : C = 0
        · subst hC
          by_cases hk : vk = 1 ∨ vk = 0
          · rcases hk with rfl | rfl
            · go_wp2_with fail
              go_at_call 21
              refine (HA9.out wS (Below.refl _ _)).obs.mono ?_
              rintro e wT ⟨B9, wb9, rfl, hmd, _, hbT⟩
              have HDJ := hideIt (disjoint_m hmd HR9.out.sm.num HR9.out.sm.geo)
              have HBT9 := hideIt hbT
              clear hmd hbT
              go_wp2_with fail
              go_at_call 22
              refine HDJ.out.mono ?_
              rintro e wU ⟨rfl, hbU⟩
              have HRU := hideIt (HR9.out.below (Below.thr HBT9.out hbU))
              clear hbU
              go_wp2_with fail
              go_roundw
              case rel => exact ⟨k + 1, by omega, by go_num, D9, by rw [HTM.out]; exact HRU.out.weak (fun b hb => hb.elim)⟩
              case measure => simp [intOf]; omega
            · go_wp2_with fail
              go_at_call 21
              refine (HA9.out wS (Below.refl _ _)).obs.mono ?_
              rintro e wT ⟨B9, wb9, rfl, hmd, _, hbT⟩
              have HDJ := hideIt (disjoint_m hmd HR9.out.sm.num HR9.out.sm.geo)
              have HBT9 := hideIt hbT
              clear hmd hbT
              go_wp2_with fail
              go_at_call 22
              refine HDJ.out.mono ?_
              rintro e wU ⟨rfl, hbU⟩
              have HRU := hideIt (HR9.out.below (Below.thr HBT9.out hbU))
              clear hbU
              go_wp2_with fail
              go_roundw
              case rel => exact ⟨k + 1, by omega, by go_num, D9, by rw [HTM.out]; exact HRU.out.weak (fun b hb => hb.elim)⟩
              case measure => simp [intOf]; omega
          · have hk1 : ((vk : Int) == 1) = false := by rw [beq_eq_false_iff_ne]; omega
            have hk0 : ((vk : Int) == 0) = false := by rw [beq_eq_false_iff_ne]; omega
            clear hk
            go_wp2_with fail
            go_roundw
            case rel => exact ⟨k + 1, by omega, by go_num, D9, by rw [HTM.out]; exact HR9.out⟩
            case measure => simp [intOf]; omega
        · have hCb : (C == 0) = false := by rw [beq_eq_false_iff_ne]; exact hC
          have e2 := HBD.out hC
          subst e2
          have HEN := hideIt ((HA9.out wS (Below.refl _ _)).enc im HIM.out)
          clear HQ HBD
          go_wp2_with fail
          go_at_call 13
          refine HEN.out.mono ?_
          rintro e wT ⟨v9, rfl, hoT, hbT⟩
          obtain ⟨g9, cp9, rfl, _, _, _, _, hby9⟩ := Own.bytes hoT HIM.out.bytes.1 HIM.out.bytes.2
          have HEQ := hideIt (Equal_walk wT im g7 cp7 g9 cp9 (bytes_block HK6.out.1 (hbT.block _ (lt_of_bytes HK6.out.1 HIM.out.bytes.2))) hby9)
          have HRU := hideIt (HR9.out.below hbT)
          have zcT : wT.cell? ⟨bx, 0, none⟩ = some (.int .u8 C) := box_cell ((hbT.block _ (heap_lt HK6.out.2.2)).trans HK6.out.2.2) 0
          clear hoT hby9 hbT
          go_wp2_with fail
          go_at_call 20
          refine HEQ.out.mono ?_
          rintro e wU ⟨rfl, hwU⟩
          obtain rfl := hwU.symm
          clear hwU
          go_wp2_with fail
          go_roundw
          case rel => exact ⟨k + 1, by omega, by go_num, D9, by rw [HTM.out]; exact HRU.out.weak (fun b hb => hb.elim)⟩
          case measure => simp [intOf]; omega
      · have HBC := hideIt (Below.thr HBB.out hbC)
        have HAC := hideIt (Below.thr HAB.out hbC)
        have HXR := hideIt hX
        have HQC := hideIt hbC
        simp only [reg10, inf7, List.cons_append, List.nil_append]
        clear hbC z1 z2 pcB hX
        go_upto_region 10 with fail
        have HBE := hideIt (Below.thr HBC.out (alloc_below (w := wC) (.cells #[.int .u16 x1, .int .u32 y1, .int .u8 t1, .int .u64 b1, .int .u64 s1, .int .u16 (p1 : Int), .int .u32 q1, .int .u64 a1, .int .u64 f1, .int .i64 d1] 43)))
        have HQE := hideIt (Below.thr HQC.out (alloc_below (w := wC) (.cells #[.int .u16 x1, .int .u32 y1, .int .u8 t1, .int .u64 b1, .int .u64 s1, .int .u16 (p1 : Int), .int .u32 q1, .int .u64 a1, .int .u64 f1, .int .i64 d1] 43)))
        have HAE := hideIt (Below.thr HAC.out (alloc_below (w := wC) (.cells #[.int .u16 x1, .int .u32 y1, .int .u8 t1, .int .u64 b1, .int .u64 s1, .int .u16 (p1 : Int), .int .u32 q1, .int .u64 a1, .int .u64 f1, .int .i64 d1] 43)))
        have zr := heap_new wC (.cells #[.int .u16 x1, .int .u32 y1, .int .u8 t1, .int .u64 b1, .int .u64 s1, .int .u16 (p1 : Int), .int .u32 q1, .int .u64 a1, .int .u64 f1, .int .i64 d1] 43)
        generalize wC.alloc (.cells #[.int .u16 x1, .int .u32 y1, .int .u8 t1, .int .u64 b1, .int .u64 s1, .int .u16 (p1 : Int), .int .u32 q1, .int .u64 a1, .int .u64 f1, .int .i64 d1] 43) = wE at *
        have zb := HZA.out wE HAE.out
        have z0 : wE.cell? ⟨wr.heap.size, 0, none⟩ = some (.int .u8 (vk : Int)) := box_cell zb 0
        have z5 : wE.cell? ⟨wr.heap.size, 5, none⟩ = some (.int .u8 (vt : Int)) := box_cell zb 5
        have z6 : wE.cell? ⟨wr.heap.size, 6, none⟩ = some (.int .u8 (vbt : Int)) := box_cell zb 6
        have ZR := hideIt zr
        have HBT : Hid (vt < 256 ∧ vbt < 256 ∧ vct < 65536) := ⟨(HF1.out wr HR.out.bel).t, (HF1.out wr HR.out.bel).bt, (HF1.out wr HR.out.bel).ct⟩
        clear zb zr HBC HAC HQC
        generalize wC.heap.size = c9 at *
        have pcE := (HAS.out wE HBE.out).pc
        go_upto_if 43 with fail
        go_cut [8, 24] from 24 to 129 (fun v8 v24 wx => v24 = .int .i64 (k : Int) ∧ ∃ q, v8 = .bool q ∧ ((stepX M ⟨vk, vi, vg, vj, vgg, vt, vbt, vct, vfd, va, vb, .slice wa wn wq, vm, vX⟩).1.code = 0 → q = false) ∧ Below wE.heap.size wE wx)
        case first =>
          by_cases hk1 : vk = 1
          · subst hk1
            go_wp2_with fail
            go_at_call 15
            refine (SizeOf_x (HAS.out wE HBE.out).gl.kd HBT.out.1 HBT.out.2.1).mono ?_
            rintro e w5 ⟨hw5, hz⟩
            obtain rfl := hw5.symm
            clear hw5
            rcases hz with ⟨hz0, rfl⟩ | ⟨hz0, ht1, ht7, hq47, hq4, rfl⟩
            · have hzb : (szC vt vbt == 0) = false := by rw [beq_eq_false_iff_ne]; exact hz0
              go_wp2_with fail
              go_at_call 16
              refine (HAS.out wE HBE.out).sts.mono ?_
              rintro e w6 ⟨o6, a6, b6, c6, d6, l6, p6, q6, rfl, hb6⟩
              simp only [st17]
              have HE6 := hideIt (hb6)
              have hf3w6 := fld53_3 w6 o6 a6 b6 ((spr M 0 256).length : Int) ((spr M 256 320).length : Int) c6 d6 p6 q6 l6
              have hf4w6 := fld53_4 w6 o6 a6 b6 ((spr M 0 256).length : Int) ((spr M 256 320).length : Int) c6 d6 p6 q6 l6
              have pcw6 := (HAS.out w6 (Below.thr HBE.out HE6.out)).pc
              have zzw6 := HZA.out w6 (Below.thr HAE.out HE6.out)
              clear hb6
              have z56 : w6.cell? ⟨wr.heap.size, 5, none⟩ = some (.int .u8 (vt : Int)) := box_cell zzw6 5
              by_cases htt : vt = 1
              · subst htt
                go_wp2_with fail
                go_at_call 16
                refine (HAS.out w6 (Below.thr HBE.out HE6.out)).sts.mono ?_
                rintro e w7 ⟨o6, a6, b6, c6, d6, l6, p6, q6, rfl, hb6⟩
                simp only [st17]
                have HE7 := hideIt (Below.thr HE6.out hb6)
                have hf3w7 := fld53_3 w7 o6 a6 b6 ((spr M 0 256).length : Int) ((spr M 256 320).length : Int) c6 d6 p6 q6 l6
                have hf4w7 := fld53_4 w7 o6 a6 b6 ((spr M 0 256).length : Int) ((spr M 256 320).length : Int) c6 d6 p6 q6 l6
                have pcw7 := (HAS.out w7 (Below.thr HBE.out HE7.out)).pc
                have zzw7 := HZA.out w7 (Below.thr HAE.out HE7.out)
                clear hb6
                go_upto_region 15 with fail
                have z7 : w7.cell? ⟨wr.heap.size, 7, none⟩ = some (.int .u16 (vct : Int)) := box_cell zzw7 7
                have zf : w7.cell? ⟨c9, 8, none⟩ = some (.int .u64 f1) := box_cell ((HE7.out.block _ (heap_lt ZR.out)).trans ZR.out) 8
                go_quiet (fail)
                go_wp2_with fail
                go_meet
                exact ⟨rfl, false, rfl, fun _ => rfl, Below.thr HE7.out (belowN _ _)⟩
              · have htb : ((vt : Int) == 1) = false := by rw [beq_eq_false_iff_ne]; omega
                go_upto_region 15 with fail
                have z7 : w6.cell? ⟨wr.heap.size, 7, none⟩ = some (.int .u16 (vct : Int)) := box_cell zzw6 7
                have zf : w6.cell? ⟨c9, 8, none⟩ = some (.int .u64 f1) := box_cell ((HE6.out.block _ (heap_lt ZR.out)).trans ZR.out) 8
                go_quiet (fail)
                go_wp2_with fail
                go_meet
                exact ⟨rfl, false, rfl, fun _ => rfl, Below.thr HE6.out (belowN _ _)⟩
            · clear hz0 hq4 hq47
              obtain ⟨F, rfl, hF, hFe⟩ := HR.out.sm.free HXR.out
              obtain ⟨Zn, hZn⟩ : ∃ Zn : Nat, Zn = 2 ^ szQ vt vbt := ⟨_, rfl⟩
              have hZ0 : 0 < Zn := by rw [hZn]; exact Nat.pos_of_ne_zero (by simp)
              rw [← hZn]
              have HZn := hideIt hZn
              clear hZn
              have hZ1 : (1 : Int) ≤ (Zn : Int) := by omega
              have hct6 : (vct : Int) < 65536 := by have := HBT.out.2.2; omega
              have hF0 : (0 : Int) ≤ (F : Int) := by omega
              have hF6 : (F : Int) ≤ 281474976710656 := by omega
              have hZi : ¬ ((Zn : Int) = 0) := by omega
              have hZb : ((Zn : Int) == 0) = false := by rw [beq_eq_false_iff_ne]; omega
              obtain ⟨Q, hQ, hqw1, hqw2, hqr1, hqr2⟩ := quo_run F Zn hF6 hZ1
              have HQd := hideIt hQ
              clear hQ
              go_wp2_with fail
              go_at_call 16
              refine (HAS.out wE HBE.out).sts.mono ?_
              rintro e w6 ⟨o6, a6, b6, c6, d6, l6, p6, q6, rfl, hb6⟩
              simp only [st17]
              have HE6 := hideIt (hb6)
              have hf3w6 := fld53_3 w6 o6 a6 b6 ((spr M 0 256).length : Int) ((spr M 256 320).length : Int) c6 d6 p6 q6 l6
              have hf4w6 := fld53_4 w6 o6 a6 b6 ((spr M 0 256).length : Int) ((spr M 256 320).length : Int) c6 d6 p6 q6 l6
              have pcw6 := (HAS.out w6 (Below.thr HBE.out HE6.out)).pc
              have zzw6 := HZA.out w6 (Below.thr HAE.out HE6.out)
              clear hb6
              have z56 : w6.cell? ⟨wr.heap.size, 5, none⟩ = some (.int .u8 (vt : Int)) := box_cell zzw6 5
              by_cases htt : vt = 1
              · subst htt
                go_wp2_with fail
                go_at_call 16
                refine (HAS.out w6 (Below.thr HBE.out HE6.out)).sts.mono ?_
                rintro e w7 ⟨o6, a6, b6, c6, d6, l6, p6, q6, rfl, hb6⟩
                simp only [st17]
                have HE7 := hideIt (Below.thr HE6.out hb6)
                have hf3w7 := fld53_3 w7 o6 a6 b6 ((spr M 0 256).length : Int) ((spr M 256 320).length : Int) c6 d6 p6 q6 l6
                have hf4w7 := fld53_4 w7 o6 a6 b6 ((spr M 0 256).length : Int) ((spr M 256 320).length : Int) c6 d6 p6 q6 l6
                have pcw7 := (HAS.out w7 (Below.thr HBE.out HE7.out)).pc
                have zzw7 := HZA.out w7 (Below.thr HAE.out HE7.out)
                clear hb6
                go_upto_region 15 with fail
                have z7 : w7.cell? ⟨wr.heap.size, 7, none⟩ = some (.int .u16 (vct : Int)) := box_cell zzw7 7
                have zf : w7.cell? ⟨c9, 8, none⟩ = some (.int .u64 (F : Int)) := box_cell ((HE7.out.block _ (heap_lt ZR.out)).trans ZR.out) 8
                have HNR : Hid ((Q : Int) < (vct : Int) ∨ ((spr M 256 320).length : Int) < (vct : Int) → (stepX M ⟨1, vi, vg, vj, vgg, 1, vbt, vct, vfd, va, vb, .slice wa wn wq, vm, vX⟩).1.code ≠ 0) := fun hb => HR.out.sm.noRoom (t := 1) hFe HZn.out HQd.out hb
                clear hFe hF
                by_cases c1 : (Q : Int) < (vct : Int)
                · have HNX := hideIt (HNR.out (Or.inl c1))
                  go_quiet (fail)
                  go_wp2_with fail
                  go_meet
                  exact ⟨rfl, true, rfl, fun h => absurd h HNX.out, Below.thr HE7.out (belowN _ _)⟩
                · have d1 : decide ((Q : Int) < (vct : Int)) = false := decide_eq_false c1
                  by_cases c2 : ((spr M 256 320).length : Int) < (vct : Int)
                  · have HNX := hideIt (HNR.out (Or.inr c2))
                    go_quiet (fail)
                    go_wp2_with fail
                    go_meet
                    exact ⟨rfl, true, rfl, fun h => absurd h HNX.out, Below.thr HE7.out (belowN _ _)⟩
                  · have d2 : decide (((spr M 256 320).length : Int) < (vct : Int)) = false := decide_eq_false c2
                    go_quiet (fail)
                    go_wp2_with fail
                    go_meet
                    exact ⟨rfl, false, rfl, fun _ => rfl, Below.thr HE7.out (belowN _ _)⟩
              · have htb : ((vt : Int) == 1) = false := by rw [beq_eq_false_iff_ne]; omega
                go_upto_region 15 with fail
                have z7 : w6.cell? ⟨wr.heap.size, 7, none⟩ = some (.int .u16 (vct : Int)) := box_cell zzw6 7
                have zf : w6.cell? ⟨c9, 8, none⟩ = some (.int .u64 (F : Int)) := box_cell ((HE6.out.block _ (heap_lt ZR.out)).trans ZR.out) 8
                have HNR : Hid ((Q : Int) < (vct : Int) ∨ ((spr M 0 256).length : Int) < (vct : Int) → (stepX M ⟨1, vi, vg, vj, vgg, vt, vbt, vct, vfd, va, vb, .slice wa wn wq, vm, vX⟩).1.code ≠ 0) := fun hb => HR.out.sm.noRoom (t := vt) hFe HZn.out HQd.out (by rw [(lo_obj htt).1, (lo_obj htt).2]; exact hb)
                clear hFe hF htt
                by_cases c1 : (Q : Int) < (vct : Int)
                · have HNX := hideIt (HNR.out (Or.inl c1))
                  go_quiet (fail)
                  go_wp2_with fail
                  go_meet
                  exact ⟨rfl, true, rfl, fun h => absurd h HNX.out, Below.thr HE6.out (belowN _ _)⟩
                · have d1 : decide ((Q : Int) < (vct : Int)) = false := decide_eq_false c1
                  by_cases c2 : ((spr M 0 256).length : Int) < (vct : Int)
                  · have HNX := hideIt (HNR.out (Or.inr c2))
                    go_quiet (fail)
                    go_wp2_with fail
                    go_meet
                    exact ⟨rfl, true, rfl, fun h => absurd h HNX.out, Below.thr HE6.out (belowN _ _)⟩
                  · have d2 : decide (((spr M 0 256).length : Int) < (vct : Int)) = false := decide_eq_false c2
                    go_quiet (fail)
                    go_wp2_with fail
                    go_meet
                    exact ⟨rfl, false, rfl, fun _ => rfl, Below.thr HE6.out (belowN _ _)⟩
          · have hkb : ((vk : Int) == 1) = false := by rw [beq_eq_false_iff_ne]; omega
            go_wp2_with fail
            go_meet
            exact ⟨rfl, false, rfl, fun _ => rfl, Below.refl _ _⟩
        case rest =>
          obtain ⟨rfl, q, rfl, hQ, hbx⟩ := hcut
          have HQ := hideIt hQ
          have HQB := hideIt (Below.thr HQE.out hbx)
          clear hQ hbx HBE HAE z0 z5 z6 ZR pcE HQE
          generalize wc = wx at *
          have HBX := hideIt (Below.thr HBB.out HQB.out)
          have HZX := hideIt (HZA.out wx (Below.thr HAB.out HQB.out))
          have HYX := hideIt (HYB.out wx HQB.out)
          have HG8 : Hid (wr.heap.size ≤ g7 ∧ g7 < wx.heap.size ∧ wr.heap.size < wx.heap.size) := by
            have e1 := HG7.out
            have e2 := HBA.out.size
            have e3 := HQB.out.size
            have e4 := heap_lt HZX.out
            exact ⟨by omega, by omega, e4⟩
          have HR6 := hideIt (HR.out.below HBX.out)
          have zb6 : wx.heap[wr.heap.size]? = some (.cells #[.int .u8 (vk : Int), .int .u16 (vi : Int), .int .u32 (vg : Int), .int .u16 (vj : Int), .int .u32 (vgg : Int), .int .u8 (vt : Int), .int .u8 (vbt : Int), .int .u16 (vct : Int), .int .u16 (vfd : Int), .int .u64 (va : Int), .int .u64 (vb : Int), .slice wa wn wq] 37 (0, 0)) := HZX.out
          have HX6 : Hid (wx.rangeAt wr.heap.size 0 [.int .u8 (vk : Int), .int .u16 (vi : Int), .int .u32 (vg : Int), .int .u16 (vj : Int), .int .u32 (vgg : Int), .int .u8 (vt : Int), .int .u8 (vbt : Int), .int .u16 (vct : Int), .int .u16 (vfd : Int), .int .u64 (va : Int), .int .u64 (vb : Int), .slice wa wn wq]) := fun j u hu => by rw [Nat.zero_add]; exact (box_cell zb6 j).trans (by simpa using hu)
          have HP : Hid (Calls Tryz.prog 17 #[.pointer (some ⟨P, 0, none⟩), .agg #[.int .u8 (vk : Int), .int .u16 (vi : Int), .int .u32 (vg : Int), .int .u16 (vj : Int), .int .u32 (vgg : Int), .int .u8 (vt : Int), .int .u8 (vbt : Int), .int .u16 (vct : Int), .int .u16 (vfd : Int), .int .u64 (va : Int), .int .u64 (vb : Int), .slice wa wn wq]] wx fun e w' => ∃ refs vals, e = .returned (.agg #[.int .u8 (stepX M ⟨vk, vi, vg, vj, vgg, vt, vbt, vct, vfd, va, vb, .slice wa wn wq, vm, vX⟩).1.code, refs, vals]) ∧ IsR (wx.heap.size + 2) w' refs (stepX M ⟨vk, vi, vg, vj, vgg, vt, vbt, vct, vfd, va, vb, .slice wa wn wq, vm, vX⟩).1.refs ∧ IsU (wx.heap.size + 2) w' vals (stepX M ⟨vk, vi, vg, vj, vgg, vt, vbt, vct, vfd, va, vb, .slice wa wn wq, vm, vX⟩).1.vals ∧ R2 w (grD D 0 wx w') (fun b => False ∨ (wr.heap.size ≤ b ∧ b < wx.heap.size)) P B (stepX M ⟨vk, vi, vg, vj, vgg, vt, vbt, vct, vfd, va, vb, .slice wa wn wq, vm, vX⟩).2 M w' ∧ Ext wx.heap.size (D 0) wx w') := HR6.out.play ⟨vk, vi, vg, vj, vgg, vt, vbt, vct, vfd, va, vb, .slice wa wn wq, vm, vX⟩ (HF1.out wx HR6.out.bel)
          clear zb6
          go_wp2_with (refine wpList_load_mid rfl 37 (.tmp 6) rfl wr.heap.size 0 rfl [.int .u8 (vk : Int), .int .u16 (vi : Int), .int .u32 (vg : Int), .int .u16 (vj : Int), .int .u32 (vgg : Int), .int .u8 (vt : Int), .int .u8 (vbt : Int), .int .u16 (vct : Int), .int .u16 (vfd : Int), .int .u64 (va : Int), .int .u64 (vb : Int), .slice wa wn wq] d37 HX6.out hu37 hd37 HI1.out ?_)
          go_at_call 17
          refine HP.out.mono ?_
          rintro e wD ⟨refs, vals, rfl, hRf, hVl, hRD, heD⟩
          have HYD : Hid (BytesAt wD g7 0 im) := bytes_block HYX.out (HR6.out.zkeep heD (Or.inr ⟨HG8.out.1, HG8.out.2.1⟩))
          have HZD : Hid (wD.heap[wr.heap.size]? = some (.cells #[.int .u8 (vk : Int), .int .u16 (vi : Int), .int .u32 (vg : Int), .int .u16 (vj : Int), .int .u32 (vgg : Int), .int .u8 (vt : Int), .int .u8 (vbt : Int), .int .u16 (vct : Int), .int .u16 (vfd : Int), .int .u64 (va : Int), .int .u64 (vb : Int), .slice wa wn wq] 37 (0, 0))) := (HR6.out.zkeep heD (Or.inr ⟨Nat.le_refl _, HG8.out.2.2⟩)).trans HZX.out
          have HWD := hideIt heD.size
          have hq1 : ∀ b, grD D 0 wx wD 1 b → b < wx.heap.size + 2 := fun b hb => Nat.lt_of_lt_of_le (HR6.out.q1 hb) (Nat.le_add_right _ _)
          have HBD : Hid ((stepX M ⟨vk, vi, vg, vj, vgg, vt, vbt, vct, vfd, va, vb, .slice wa wn wq, vm, vX⟩).1.code ≠ 0 → (stepX M ⟨vk, vi, vg, vj, vgg, vt, vbt, vct, vfd, va, vb, .slice wa wn wq, vm, vX⟩).2 = M) := stepX_bad
          have HSH := hideIt (HR.out.sm.short ⟨vk, vi, vg, vj, vgg, vt, vbt, vct, vfd, va, vb, .slice wa wn wq, vm, vX⟩)
          have HST0 : Hid (∀ W, R2 w (grD D 0 wx wD) (fun b => (False ∨ (wr.heap.size ≤ b ∧ b < wx.heap.size)) ∨ (wD.heap.size ≤ b ∧ b < W.heap.size)) P B (stepX M ⟨vk, vi, vg, vj, vgg, vt, vbt, vct, vfd, va, vb, .slice wa wn wq, vm, vX⟩).2 M W → Below wD.heap.size wD W → ∀ W2, Below W.heap.size W W2 → Calls Tryz.prog 19 #[.pointer (some ⟨B, 0, none⟩), .agg #[.int .u8 (vk : Int), .int .u16 (vi : Int), .int .u32 (vg : Int), .int .u16 (vj : Int), .int .u32 (vgg : Int), .int .u8 (vt : Int), .int .u8 (vbt : Int), .int .u16 (vct : Int), .int .u16 (vfd : Int), .int .u64 (va : Int), .int .u64 (vb : Int), .slice wa wn wq]] W2 (StB w (fun b => (False ∨ (wr.heap.size ≤ b ∧ b < wx.heap.size)) ∨ (wD.heap.size ≤ b ∧ b < W.heap.size)) P B (stepX M ⟨vk, vi, vg, vj, vgg, vt, vbt, vct, vfd, va, vb, .slice wa wn wq, vm, vX⟩).2 (stepX M ⟨vk, vi, vg, vj, vgg, vt, vbt, vct, vfd, va, vb, .slice wa wn wq, vm, vX⟩).1 refs vals W)) := fun W hw hW W2 hW2 => hw.stepB H4w.out ⟨vk, vi, vg, vj, vgg, vt, vbt, vct, vfd, va, vb, .slice wa wn wq, vm, vX⟩ HF1.out rfl (Sq.below hRf hW) (Sq.below hVl hW) hq1 W2 hW2
          obtain ⟨ra, rc, hrf, _⟩ := id hRf
          obtain ⟨ua, uc, huf, _⟩ := id hVl
          have HRD := hideIt hRD
          subst hrf huf
          clear hRf hVl hRD heD hq1 HP HX6 HR6
          obtain ⟨X, hX⟩ : ∃ X, X = stepX M ⟨vk, vi, vg, vj, vgg, vt, vbt, vct, vfd, va, vb, .slice wa wn wq, vm, vX⟩ := ⟨_, rfl⟩
          rw [← hX] at HST0 HSH HBD HRD HQ HTM ⊢
          clear hX
          obtain ⟨⟨C, rR, rV⟩, M2⟩ := X
          dsimp only at HST0 HSH HBD HRD HQ HTM ⊢
          have HST1 : Hid (∀ nr nu, nr = rR.length → nu = rV.length → ∀ W, R2 w (grD D 0 wx wD) (fun b => (False ∨ (wr.heap.size ≤ b ∧ b < wx.heap.size)) ∨ (wD.heap.size ≤ b ∧ b < W.heap.size)) P B M2 M W → Below wD.heap.size wD W → ∀ W2, Below W.heap.size W W2 → Calls Tryz.prog 19 #[.pointer (some ⟨B, 0, none⟩), .agg #[.int .u8 (vk : Int), .int .u16 (vi : Int), .int .u32 (vg : Int), .int .u16 (vj : Int), .int .u32 (vgg : Int), .int .u8 (vt : Int), .int .u8 (vbt : Int), .int .u16 (vct : Int), .int .u16 (vfd : Int), .int .u64 (va : Int), .int .u64 (vb : Int), .slice wa wn wq]] W2 (StB w (fun b => (False ∨ (wr.heap.size ≤ b ∧ b < wx.heap.size)) ∨ (wD.heap.size ≤ b ∧ b < W.heap.size)) P B M2 ⟨C, rR, rV⟩ (.slice ra nr rc) (.slice ua nu uc) W)) := fun nr nu e1 e2 => by subst e1 e2; exact HST0.out
          obtain ⟨nr, hnr⟩ : ∃ nr, nr = rR.length := ⟨_, rfl⟩
          obtain ⟨nu, hnu⟩ : ∃ nu, nu = rV.length := ⟨_, rfl⟩
          have HST2 := hideIt (HST1.out nr nu hnr hnu)
          rw [← hnr, ← hnu]
          clear hnr hnu HST1 HST0
          go_upto_region 17 with fail
          have zx := heap_new wD (.cells #[.int .u8 C, .slice ra nr rc, .slice ua nu uc] 57)
          have HBF := hideIt (alloc_below (w := wD) (.cells #[.int .u8 C, .slice ra nr rc, .slice ua nu uc] 57))
          have HRF := hideIt (HRD.out.below HBF.out)
          generalize wD.alloc (.cells #[.int .u8 C, .slice ra nr rc, .slice ua nu uc] 57) = wF at *
          have HLx := hideIt (heap_lt zx)
          generalize hbx9 : wD.heap.size = bx at *
          have HST := hideIt (HST2.out wF HRF.out HBF.out)
          have HYF : Hid (BytesAt wF g7 0 im ∧ wF.heap[wr.heap.size]? = some (.cells #[.int .u8 (vk : Int), .int .u16 (vi : Int), .int .u32 (vg : Int), .int .u16 (vj : Int), .int .u32 (vgg : Int), .int .u8 (vt : Int), .int .u8 (vbt : Int), .int .u16 (vct : Int), .int .u16 (vfd : Int), .int .u64 (va : Int), .int .u64 (vb : Int), .slice wa wn wq] 37 (0, 0)) ∧ wF.heap[bx]? = some (.cells #[.int .u8 C, .slice ra nr rc, .slice ua nu uc] 57 (0, 0))) := ⟨bytes_block HYD.out (HBF.out.block g7 (by have := HG8.out; have := HWD.out; omega)), (HBF.out.block _ (by have := HG8.out; have := HWD.out; omega)).trans HZD.out, zx⟩
          clear zx HYD HZD HST2 HBF HRD
          have HBXS : Hid (∀ w' : World, w'.heap[wr.heap.size]? = some (.cells #[.int .u8 (vk : Int), .int .u16 (vi : Int), .int .u32 (vg : Int), .int .u16 (vj : Int), .int .u32 (vgg : Int), .int .u8 (vt : Int), .int .u8 (vbt : Int), .int .u16 (vct : Int), .int .u16 (vfd : Int), .int .u64 (va : Int), .int .u64 (vb : Int), .slice wa wn wq] 37 (0, 0)) → w'.heap[bx]? = some (.cells #[.int .u8 C, .slice ra nr rc, .slice ua nu uc] 57 (0, 0)) → w'.cell? ⟨wr.heap.size, 0, none⟩ = some (.int .u8 (vk : Int)) ∧ w'.cell? ⟨wr.heap.size, 1, none⟩ = some (.int .u16 (vi : Int)) ∧ w'.cell? ⟨wr.heap.size, 2, none⟩ = some (.int .u32 (vg : Int)) ∧ w'.cell? ⟨wr.heap.size, 3, none⟩ = some (.int .u16 (vj : Int)) ∧ w'.cell? ⟨wr.heap.size, 4, none⟩ = some (.int .u32 (vgg : Int)) ∧ w'.cell? ⟨wr.heap.size, 5, none⟩ = some (.int .u8 (vt : Int)) ∧ w'.cell? ⟨wr.heap.size, 6, none⟩ = some (.int .u8 (vbt : Int)) ∧ w'.cell? ⟨wr.heap.size, 7, none⟩ = some (.int .u16 (vct : Int)) ∧ w'.cell? ⟨wr.heap.size, 8, none⟩ = some (.int .u16 (vfd : Int)) ∧ w'.cell? ⟨wr.heap.size, 9, none⟩ = some (.int .u64 (va : Int)) ∧ w'.cell? ⟨wr.heap.size, 10, none⟩ = some (.int .u64 (vb : Int)) ∧ w'.cell? ⟨wr.heap.size, 11, none⟩ = some (.slice wa wn wq) ∧ w'.cell? ⟨bx, 0, none⟩ = some (.int .u8 C) ∧ w'.cell? ⟨bx, 1, none⟩ = some (.slice ra nr rc) ∧ w'.cell? ⟨bx, 2, none⟩ = some (.slice ua nu uc)) := fun w' k1 k2 => ⟨box_cell k1 0, box_cell k1 1, box_cell k1 2, box_cell k1 3, box_cell k1 4, box_cell k1 5, box_cell k1 6, box_cell k1 7, box_cell k1 8, box_cell k1 9, box_cell k1 10, box_cell k1 11, box_cell k2 0, box_cell k2 1, box_cell k2 2⟩
          have HZ7 : Hid (((False ∨ (wr.heap.size ≤ g7 ∧ g7 < wx.heap.size)) ∨ (bx ≤ g7 ∧ g7 < wF.heap.size)) ∧ ((False ∨ (wr.heap.size ≤ wr.heap.size ∧ wr.heap.size < wx.heap.size)) ∨ (bx ≤ wr.heap.size ∧ wr.heap.size < wF.heap.size)) ∧ ((False ∨ (wr.heap.size ≤ bx ∧ bx < wx.heap.size)) ∨ (bx ≤ bx ∧ bx < wF.heap.size))) := ⟨Or.inl (Or.inr ⟨HG8.out.1, HG8.out.2.1⟩), Or.inl (Or.inr ⟨Nat.le_refl _, HG8.out.2.2⟩), Or.inr ⟨Nat.le_refl _, HLx.out⟩⟩
          go_region_held3 (fun w' => w'.cell? ⟨wr.heap.size, 0, none⟩ = some (.int .u8 (vk : Int)) ∧ w'.cell? ⟨wr.heap.size, 1, none⟩ = some (.int .u16 (vi : Int)) ∧ w'.cell? ⟨wr.heap.size, 2, none⟩ = some (.int .u32 (vg : Int)) ∧ w'.cell? ⟨wr.heap.size, 3, none⟩ = some (.int .u16 (vj : Int)) ∧ w'.cell? ⟨wr.heap.size, 4, none⟩ = some (.int .u32 (vgg : Int)) ∧ w'.cell? ⟨wr.heap.size, 5, none⟩ = some (.int .u8 (vt : Int)) ∧ w'.cell? ⟨wr.heap.size, 6, none⟩ = some (.int .u8 (vbt : Int)) ∧ w'.cell? ⟨wr.heap.size, 7, none⟩ = some (.int .u16 (vct : Int)) ∧ w'.cell? ⟨wr.heap.size, 8, none⟩ = some (.int .u16 (vfd : Int)) ∧ w'.cell? ⟨wr.heap.size, 9, none⟩ = some (.int .u64 (va : Int)) ∧ w'.cell? ⟨wr.heap.size, 10, none⟩ = some (.int .u64 (vb : Int)) ∧ w'.cell? ⟨wr.heap.size, 11, none⟩ = some (.slice wa wn wq) ∧ w'.cell? ⟨bx, 0, none⟩ = some (.int .u8 C) ∧ w'.cell? ⟨bx, 1, none⟩ = some (.slice ra nr rc) ∧ w'.cell? ⟨bx, 2, none⟩ = some (.slice ua nu uc)) (first | exact HBXS.out _ HYF.out.2.1 HYF.out.2.2 | exact HBXS.out _ HK5.out.2.1 HK5.out.2.2 | exact HBXS.out _ HK6.out.2.1 HK6.out.2.2 | go_keep)
            (first
              | (go_at_call 19; refine (HST.out _ (below_d _)).mono ?_; rintro e wG ⟨refs2, vals2, rfl, hr2, hv2, hr1, hv1, hRG, hkp⟩; have HK5 : Hid (BytesAt wG g7 0 im ∧ wG.heap[wr.heap.size]? = some (.cells #[.int .u8 (vk : Int), .int .u16 (vi : Int), .int .u32 (vg : Int), .int .u16 (vj : Int), .int .u32 (vgg : Int), .int .u8 (vt : Int), .int .u8 (vbt : Int), .int .u16 (vct : Int), .int .u16 (vfd : Int), .int .u64 (va : Int), .int .u64 (vb : Int), .slice wa wn wq] 37 (0, 0)) ∧ wG.heap[bx]? = some (.cells #[.int .u8 C, .slice ra nr rc, .slice ua nu uc] 57 (0, 0))) := ⟨bytes_block HYF.out.1 (hkp g7 HZ7.out.1), (hkp _ HZ7.out.2.1).trans HYF.out.2.1, (hkp _ HZ7.out.2.2).trans HYF.out.2.2⟩; have HRG := hideIt hRG; have HSA := hideIt (same_walk (code := C) hr1 hv1 hr2 hv2 HSH.out.1 HSH.out.2); obtain ⟨a3, c3, hf3, _⟩ := hr2; obtain ⟨a4, c4, hf4, _⟩ := hv2; subst hf3 hf4; clear hr1 hv1 hRG hkp)
              | (go_at_call 18; refine HSA.out.mono ?_; rintro e wS ⟨rfl, hbS⟩; have HK6 : Hid (BytesAt wS g7 0 im ∧ wS.heap[wr.heap.size]? = some (.cells #[.int .u8 (vk : Int), .int .u16 (vi : Int), .int .u32 (vg : Int), .int .u16 (vj : Int), .int .u32 (vgg : Int), .int .u8 (vt : Int), .int .u8 (vbt : Int), .int .u16 (vct : Int), .int .u16 (vfd : Int), .int .u64 (va : Int), .int .u64 (vb : Int), .slice wa wn wq] 37 (0, 0)) ∧ wS.heap[bx]? = some (.cells #[.int .u8 C, .slice ra nr rc, .slice ua nu uc] 57 (0, 0))) := ⟨bytes_block HK5.out.1 (hbS.block _ (lt_of_bytes HK5.out.1 HIM.out.bytes.2)), (hbS.block _ (heap_lt HK5.out.2.1)).trans HK5.out.2.1, (hbS.block _ (heap_lt HK5.out.2.2)).trans HK5.out.2.2⟩; have HBS := hideIt hbS; clear hbS))
          obtain ⟨D9, hR9⟩ := HRG.out
          have HR9 := hideIt ((hR9.below HBS.out).weak (Z' := fun _ => False) (fun b hb => hb.elim))
          obtain ⟨A9, hA9⟩ := HR9.out.asks
          have HA9 := hideIt hA9
          have zc : wS.cell? ⟨bx, 0, none⟩ = some (.int .u8 C) := box_cell HK6.out.2.2 0
          have zk : wS.cell? ⟨wr.heap.size, 0, none⟩ = some (.int .u8 (vk : Int)) := box_cell HK6.out.2.1 0
          have pc9 := (HA9.out wS (Below.refl _ _)).pc
          clear hR9 hA9 HRG HBS HSA HK5 HYF HBXS HZ7 HST HRF HSH HF1
          by_cases hC : C = 0
          · subst hC
            obtain rfl := HQ.out rfl
            by_cases hk : vk = 1 ∨ vk = 0
            · rcases hk with rfl | rfl
              · go_wp2_with fail
                go_at_call 21
                refine (HA9.out wS (Below.refl _ _)).obs.mono ?_
                rintro e wT ⟨B9, wb9, rfl, hmd, _, hbT⟩
                have HDJ := hideIt (disjoint_m hmd HR9.out.sm.num HR9.out.sm.geo)
                have HBT9 := hideIt hbT
                clear hmd hbT
                go_wp2_with fail
                go_at_call 22
                refine HDJ.out.mono ?_
                rintro e wU ⟨rfl, hbU⟩
                have HRU := hideIt (HR9.out.below (Below.thr HBT9.out hbU))
                clear hbU
                go_wp2_with fail
                go_roundw
                case rel => exact ⟨k + 1, by omega, by go_num, D9, by rw [HTM.out]; exact HRU.out.weak (fun b hb => hb.elim)⟩
                case measure => simp [intOf]; omega
              · go_wp2_with fail
                go_at_call 21
                refine (HA9.out wS (Below.refl _ _)).obs.mono ?_
                rintro e wT ⟨B9, wb9, rfl, hmd, _, hbT⟩
                have HDJ := hideIt (disjoint_m hmd HR9.out.sm.num HR9.out.sm.geo)
                have HBT9 := hideIt hbT
                clear hmd hbT
                go_wp2_with fail
                go_at_call 22
                refine HDJ.out.mono ?_
                rintro e wU ⟨rfl, hbU⟩
                have HRU := hideIt (HR9.out.below (Below.thr HBT9.out hbU))
                clear hbU
                go_wp2_with fail
                go_roundw
                case rel => exact ⟨k + 1, by omega, by go_num, D9, by rw [HTM.out]; exact HRU.out.weak (fun b hb => hb.elim)⟩
                case measure => simp [intOf]; omega
            · have hk1 : ((vk : Int) == 1) = false := by rw [beq_eq_false_iff_ne]; omega
              have hk0 : ((vk : Int) == 0) = false := by rw [beq_eq_false_iff_ne]; omega
              clear hk
              go_wp2_with fail
              go_roundw
              case rel => exact ⟨k + 1, by omega, by go_num, D9, by rw [HTM.out]; exact HR9.out⟩
              case measure => simp [intOf]; omega
          · have hCb : (C == 0) = false := by rw [beq_eq_false_iff_ne]; exact hC
            have e2 := HBD.out hC
            subst e2
            have HEN := hideIt ((HA9.out wS (Below.refl _ _)).enc im HIM.out)
            clear HQ HBD
            cases q
            · go_wp2_with fail
              go_at_call 13
              refine HEN.out.mono ?_
              rintro e wT ⟨v9, rfl, hoT, hbT⟩
              obtain ⟨g9, cp9, rfl, _, _, _, _, hby9⟩ := Own.bytes hoT HIM.out.bytes.1 HIM.out.bytes.2
              have HEQ := hideIt (Equal_walk wT im g7 cp7 g9 cp9 (bytes_block HK6.out.1 (hbT.block _ (lt_of_bytes HK6.out.1 HIM.out.bytes.2))) hby9)
              have HRU := hideIt (HR9.out.below hbT)
              have zcT : wT.cell? ⟨bx, 0, none⟩ = some (.int .u8 C) := box_cell ((hbT.block _ (heap_lt HK6.out.2.2)).trans HK6.out.2.2) 0
              clear hoT hby9 hbT
              go_wp2_with fail
              go_at_call 20
              refine HEQ.out.mono ?_
              rintro e wU ⟨rfl, hwU⟩
              obtain rfl := hwU.symm
              clear hwU
              go_wp2_with fail
              go_roundw
              case rel => exact ⟨k + 1, by omega, by go_num, D9, by rw [HTM.out]; exact HRU.out.weak (fun b hb => hb.elim)⟩
              case measure => simp [intOf]; omega
            · go_wp2_with fail
              go_at_call 13
              refine HEN.out.mono ?_
              rintro e wT ⟨v9, rfl, hoT, hbT⟩
              obtain ⟨g9, cp9, rfl, _, _, _, _, hby9⟩ := Own.bytes hoT HIM.out.bytes.1 HIM.out.bytes.2
              have HEQ := hideIt (Equal_walk wT im g7 cp7 g9 cp9 (bytes_block HK6.out.1 (hbT.block _ (lt_of_bytes HK6.out.1 HIM.out.bytes.2))) hby9)
              have HRU := hideIt (HR9.out.below hbT)
              have zcT : wT.cell? ⟨bx, 0, none⟩ = some (.int .u8 C) := box_cell ((hbT.block _ (heap_lt HK6.out.2.2)).trans HK6.out.2.2) 0
              clear hoT hby9 hbT
              go_wp2_with fail
              go_at_call 20
              refine HEQ.out.mono ?_
              rintro e wU ⟨rfl, hwU⟩
              obtain rfl := hwU.symm
              clear hwU
              go_wp2_with fail
              go_roundw
              case rel => exact ⟨k + 1, by omega, by go_num, D9, by rw [HTM.out]; exact HRU.out.weak (fun b hb => hb.elim)⟩
              case measure => simp [intOf]; omega
    · obtain rfl : k = len := by omega
      have HF := hideIt hR.bel
      go_wp2_with fail
      go_ret
      exact ⟨rfl, HF.out⟩
end Go.Proofs.Qxb6500847aGreatDoor.Os
