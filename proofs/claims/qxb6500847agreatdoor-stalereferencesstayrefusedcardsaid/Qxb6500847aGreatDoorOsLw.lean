/-
  The walk of RefusalsChangeNothing.
-/
import Derived.Test.Qxb6500847aGreatDoorOsLz
import Derived.Test.Qxb6500847aGreatDoorOsPlay
import Derived.Test.Qxb6500847aGreatDoorOsNc
import Derived.Test.Qxb6500847aGreatDoorOsDn
namespace Go.Proofs.Qxb6500847aGreatDoor.Os
open Go.RowKit FloorA
set_option maxRecDepth 100000
/-- The map readOnly. -/
def RoM (bm : Nat) (w : World) : Prop := bm < w.heap.size ∧ w.cell? ⟨0, 0, none⟩ = some (.map (some bm)) ∧ ∀ w' : World, w'.heap[bm]? = w.heap[bm]? → ∀ k : Nat, k < 256 → ∃ q : Bool, (Instr.lookup 82 (.map (some bm)) (.int .u8 (k : Int)) false).run Tryz.prog w' = .ok (.bool q) w' ∧ (q = true → ro k)
theorem RoM.below {bm : Nat} {w w' : World} (h : RoM bm w) (k : Below w.heap.size w w') (h0 : 0 < w.heap.size) : RoM bm w' :=
  ⟨Nat.lt_of_lt_of_le h.1 k.size, (k.cell (p := ⟨0, 0, none⟩) h0).trans h.2.1, fun w2 e => h.2.2 w2 (e.trans (k.block bm h.1))⟩
theorem bytes_ext {w w' : World} {g o : Nat} {bs : List Int} {B : Nat} {X : Nat → Prop} (h : BytesAt w g o bs) (e : Ext B X w w') (hg : g < B) (hx : ¬ X g) : BytesAt w' g o bs := fun i hi => ⟨(e.cell (p := ⟨g, o + i, none⟩) hg hx).trans (h i hi).1, (h i hi).2⟩
/-- Between two steps. -/
structure Lp (B P : Nat) (w : World) (A : Nat) (rb sb : Nat → Nat) (s : Av) (tl : Nat → List Int) (ws : Nat → Nat → Nat → Int) (L : Nat → List Nat) (n q cap : Nat) (wr : World) : Prop where
  hs : Hs P A rb sb s tl ws L n wr
  by_ : BytesAt wr q 0 (imgB s ws)
  ql : q < wr.heap.size
  qt : ¬ Tz A rb sb q
  qp : q ≠ P
  bw : Below B w wr
  bz : ∀ b, Tz A rb sb b → B ≤ b
theorem Lp.step {B P A : Nat} {rb sb : Nat → Nat} {s : Av} {tl : Nat → List Int} {ws : Nat → Nat → Nat → Int} {L : Nat → List Nat} {n q cap : Nat} {w wr w2 : World} {A' : Nat} {rb' sb' : Nat → Nat} (h : Lp B P w A rb sb s tl ws L n q cap wr) (hBw : B ≤ w.heap.size) (hP : B ≤ P)
    (e : Ext wr.heap.size (fun b => Tz A rb sb b ∨ b = P) wr w2) (ha : (A' = A ∧ rb' = rb ∧ sb' = sb) ∨ ∀ b, Tz A' rb' sb' b → wr.heap.size ≤ b) :
    Below B w w2 ∧ (∀ b, Tz A' rb' sb' b → B ≤ b) ∧ BytesAt w2 q 0 (imgB s ws) := by
  have hsz : B ≤ wr.heap.size := Nat.le_trans hBw (h.bw.size)
  refine ⟨h.bw.trans (e.below' hsz (fun k hk hx => ?_)), fun b hb => ?_, bytes_ext h.by_ e h.ql (fun hx => ?_)⟩
  · rcases hx with hx | hx
    · exact absurd (h.bz k hx) (by omega)
    · omega
  · rcases ha with ⟨rfl, rfl, rfl⟩ | ha
    · exact h.bz b hb
    · exact Nat.le_trans hsz (ha b hb)
  · rcases hx with hx | hx
    · exact h.qt hx
    · exact h.qp hx
theorem Lp.below {B P A : Nat} {rb sb : Nat → Nat} {s : Av} {tl : Nat → List Int} {ws : Nat → Nat → Nat → Int} {L : Nat → List Nat} {n q cap : Nat} {w wr w2 : World} (h : Lp B P w A rb sb s tl ws L n q cap wr) (hB : B ≤ wr.heap.size) (k : Below wr.heap.size wr w2) : Lp B P w A rb sb s tl ws L n q cap w2 :=
  ⟨h.hs.below k, bytes_ext h.by_ (Ext.of_below k (fun _ => False)) h.ql id, Nat.lt_of_lt_of_le h.ql k.size, h.qt, h.qp, h.bw.trans (k.mono hB), h.bz⟩
/-- The image taken anew. -/
theorem Lp.anew {B P A : Nat} {rb sb : Nat → Nat} {s : Av} {tl : Nat → List Int} {ws : Nat → Nat → Nat → Int} {L : Nat → List Nat} {n q cap : Nat} {w w3 w4 : World} (h : Hs P A rb sb s tl ws L n w3) (k : Below w3.heap.size w3 w4) (bw : Below B w w3) (hB : B ≤ w3.heap.size) (bz : ∀ b, Tz A rb sb b → B ≤ b) (hq : w3.heap.size ≤ q) (ql : q < w4.heap.size) (hb : BytesAt w4 q 0 (imgB s ws)) : Lp B P w A rb sb s tl ws L n q cap w4 :=
  ⟨h.below k, hb, ql, (h.nR hq).1, (h.nR hq).2.2, bw.trans (k.mono hB), bz⟩
theorem frz_new1 (w : World) (v : Value) (T : TypeId) : (w.alloc (.cells #[v] T)).frozen? ⟨w.heap.size, 0, none⟩ = false := frz_new w _ T 0
set_option maxHeartbeats 16000000 in
theorem law_walk (w : World) (hg : Gl w) {bm : Nat} (hro : RoM bm w) (a0 : Option Addr) (b off len cap : Nat) (f : Nat → OpV) (hml : len ≤ 1152921504606846976) (ha : 0 < len → a0 = some ⟨b, off, none⟩) (hops : ∀ i, i < len → OpAt w b (off + i * 12) (f i)) :
    Calls Tryz.prog 7 #[.slice a0 len cap] w fun e w' => e = .returned (.bool true) ∧ Below w.heap.size w w' := by
  have HSM := hideIt (small_walk w a0 b off len cap f hml ha hops)
  have HO := hideIt hops
  have HA : Hid (0 < len → a0 = some ⟨b, off, none⟩) := ha
  have HG := hideIt hg
  have HRO : Hid (RoM bm w) := hro
  have HS7 := hideIt hg.sz
  clear hg hro hops ha
  go_enter Tryz.func7, Tryz.ntmps7
  go_wp2_with fail
  go_at_call 10
  refine HSM.out.mono ?_
  rintro e w' ⟨⟨q, rfl⟩, hw'⟩
  obtain rfl := hw'.symm
  clear hw' HSM
  cases q
  · go_wp2_with fail
    go_ret
    exact ⟨rfl, Below.refl _ _⟩
  go_wp2_with fail
  go_at_call 11
  refine (New_walk w).mono ?_
  rintro e w1 ⟨A, rb, sb, s, rfl, hb1, hz, hF, hM⟩
  have bB := alloc_below (w := w1) (.cells #[.pointer (some ⟨A, 0, none⟩)] 24)
  have hP := cell_of_one (heap_alloc_new w1 (.cells #[.pointer (some ⟨A, 0, none⟩)] 24))
  have HHs : Hid (Hs w1.heap.size A rb sb s tl0 (fun _ _ _ => 0) (fun _ => []) 0 (w1.alloc (.cells #[.pointer (some ⟨A, 0, none⟩)] 24))) :=
    ⟨hM.below bB, hF.iv, wr0, (HG.out.below hb1).below bB, hP, frz_new1 _ _ _, hM.ntz, Nat.le_trans HS7.out hb1.size, fun b hb => Nat.le_trans HS7.out (hz b hb)⟩
  have HB1 := hideIt (Below.thr hb1 bB)
  have HZ := hideIt hz
  have HSz := hideIt hb1.size
  have HEN := hideIt (encode_walk HHs.out.ms HHs.out.iv HHs.out.wr HHs.out.gl.gd HHs.out.gl.gl HHs.out.gl.kd HHs.out.gl.kl)
  clear hb1 hz hF hM bB
  go_wp2_with fail
  go_at_call 13
  refine HEN.out.mono ?_
  rintro e w2 ⟨bv, rfl, hown, hb2⟩
  obtain ⟨q, cp, rfl, _, _, hq1, hq2, hby⟩ := Own.bytes hown (imgB_range _ _) (imgB_ne _ _)
  have HLp : Hid (Lp w.heap.size w1.heap.size w A rb sb s tl0 (fun _ _ _ => 0) (fun _ => []) 0 q cp w2) := Lp.anew HHs.out hb2 HB1.out HB1.out.size HZ.out hq1 hq2 hby
  generalize w1.heap.size = P at *
  clear hown hb2 hq1 hq2 hby hP HEN HHs HB1 HZ
  go_wp2_with fail
  go_loopw [4, 17] (fun v4 v17 wr => ∃ (k A : Nat) (rb sb : Nat → Nat) (s : Av) (tl : Nat → List Int) (ws : Nat → Nat → Nat → Int) (L : Nat → List Nat) (n q cp : Nat), k ≤ len ∧ v17 = .int .i64 (k : Int) ∧ v4 = .slice (some ⟨q, 0, none⟩) (imgB s ws).length cp ∧ Lp w.heap.size P w A rb sb s tl ws L n q cp wr) (fun _ i _ => len - (intOf i).toNat)
  case atStart => exact ⟨0, A, rb, sb, s, tl0, _, _, 0, q, cp, Nat.zero_le _, rfl, rfl, HLp.out⟩
  case round =>
    clear HLp
    obtain ⟨k, A, rb, sb, s, tl, ws, L, n, q, cp, hk, rfl, rfl, hL⟩ := hrel
    by_cases hlt : k < len
    · have hlt' : (k : Int) < (len : Int) := by omega
      obtain rfl := HA.out (by omega)
      have hop := (HO.out k hlt).below hL.bw
      generalize f k = v at *
      obtain ⟨kk, i, g, j, gg, t, bt, ct, fd, a, bb, wv⟩ := v
      have HL0 := hideIt hL
      have HB0 := hideIt (show w.heap.size ≤ wr.heap.size from hL.bw.size)
      have HOp := hideIt hop
      have hkk : kk < 256 := hop.k
      have z0 : wr.cell? ⟨b, off + k * 12, none⟩ = some (.int .u8 (kk : Int)) := hop.rng 0 _ rfl
      have z1 : wr.cell? ⟨b, off + k * 12 + 1, none⟩ = some (.int .u16 (i : Int)) := hop.rng 1 _ rfl
      have z2 : wr.cell? ⟨b, off + k * 12 + 2, none⟩ = some (.int .u32 (g : Int)) := hop.rng 2 _ rfl
      have z3 : wr.cell? ⟨b, off + k * 12 + 3, none⟩ = some (.int .u16 (j : Int)) := hop.rng 3 _ rfl
      have z4 : wr.cell? ⟨b, off + k * 12 + 4, none⟩ = some (.int .u32 (gg : Int)) := hop.rng 4 _ rfl
      have z5 : wr.cell? ⟨b, off + k * 12 + 5, none⟩ = some (.int .u8 (t : Int)) := hop.rng 5 _ rfl
      have z6 : wr.cell? ⟨b, off + k * 12 + 6, none⟩ = some (.int .u8 (bt : Int)) := hop.rng 6 _ rfl
      have z7 : wr.cell? ⟨b, off + k * 12 + 7, none⟩ = some (.int .u16 (ct : Int)) := hop.rng 7 _ rfl
      have z8 : wr.cell? ⟨b, off + k * 12 + 8, none⟩ = some (.int .u16 (fd : Int)) := hop.rng 8 _ rfl
      have z9 : wr.cell? ⟨b, off + k * 12 + 9, none⟩ = some (.int .u64 (a : Int)) := hop.rng 9 _ rfl
      have z10 : wr.cell? ⟨b, off + k * 12 + 10, none⟩ = some (.int .u64 (bb : Int)) := hop.rng 10 _ rfl
      have z11 : wr.cell? ⟨b, off + k * 12 + 11, none⟩ = some wv := hop.rng 11 _ rfl
      obtain ⟨wa, wn, wc, rfl⟩ : ∃ wa wn wc, wv = .slice wa wn wc := by
        obtain ⟨m, hm⟩ := hop.ws
        rcases hm with ⟨rfl, ad, c, e⟩ | ⟨b, o, c, e, _⟩
        · exact ⟨_, _, _, e⟩
        · exact ⟨_, _, _, e⟩
      clear hop hL
      go_wp2_with fail
      have bA := alloc_below (w := wr) (.cells #[.int .u8 (kk : Int), .int .u16 (i : Int), .int .u32 (g : Int), .int .u16 (j : Int), .int .u32 (gg : Int), .int .u8 (t : Int), .int .u8 (bt : Int), .int .u16 (ct : Int), .int .u16 (fd : Int), .int .u64 (a : Int), .int .u64 (bb : Int), .slice wa wn wc] 37)
      have hL1 := HL0.out.below HB0.out bA
      have hO1 := HOp.out.below bA
      have hK0 : (wr.alloc (.cells #[.int .u8 (kk : Int), .int .u16 (i : Int), .int .u32 (g : Int), .int .u16 (j : Int), .int .u32 (gg : Int), .int .u8 (t : Int), .int .u8 (bt : Int), .int .u16 (ct : Int), .int .u16 (fd : Int), .int .u64 (a : Int), .int .u64 (bb : Int), .slice wa wn wc] 37)).cell? ⟨wr.heap.size, 0, none⟩ = some (.int .u8 (kk : Int)) := box_cell (heap_new wr _) 0
      have HNP := hideIt (HL0.out.hs.nR (Nat.le_refl wr.heap.size))
      have hsz : wr.heap.size < (wr.alloc (.cells #[.int .u8 (kk : Int), .int .u16 (i : Int), .int .u32 (g : Int), .int .u16 (j : Int), .int .u32 (gg : Int), .int .u8 (t : Int), .int .u8 (bt : Int), .int .u16 (ct : Int), .int .u16 (fd : Int), .int .u64 (a : Int), .int .u64 (bb : Int), .slice wa wn wc] 37)).heap.size := by simp
      have HPL := hideIt (play_walk hL1.hs ⟨kk, i, g, j, gg, t, bt, ct, fd, a, bb, .slice wa wn wc⟩ hO1)
      have HL1 := hideIt hL1
      have HK0 := hideIt hK0
      have HSZ := hideIt hsz
      clear bA hL1 hO1 hK0 hsz z0 z1 z2 z3 z4 z5 z6 z7 z8 z9 z10 z11
      go_at_call 17
      generalize wr.alloc (.cells #[.int .u8 (kk : Int), .int .u16 (i : Int), .int .u32 (g : Int), .int .u16 (j : Int), .int .u32 (gg : Int), .int .u8 (t : Int), .int .u8 (bt : Int), .int .u16 (ct : Int), .int .u16 (fd : Int), .int .u64 (a : Int), .int .u64 (bb : Int), .slice wa wn wc] 37) = wr1 at *
      refine HPL.out.mono ?_
      rintro e w3 ⟨code, refs, vals, A', rb', sb', s', tl', ws', L', n', rfl, ⟨⟨r1, r2, r3, rfl⟩, ⟨v1, v2, v3, rfl⟩⟩, hs3, he3, ha3, him, _, _⟩
      obtain ⟨bw3, bz3, by3⟩ := HL1.out.step (Nat.le_refl _) HSz.out he3 ha3
      have hk3 : w3.cell? ⟨wr.heap.size, 0, none⟩ = some (.int .u8 (kk : Int)) := (he3.cell (p := ⟨wr.heap.size, 0, none⟩) HSZ.out (fun q => q.elim HNP.out.1 HNP.out.2.2)).trans HK0.out
      have bC := alloc_below (w := w3) (.cells #[.int .u8 code, .slice r1 r2 r3, .slice v1 v2 v3] 57)
      have hs4 := hs3.below bC
      have hc4 : (w3.alloc (.cells #[.int .u8 code, .slice r1 r2 r3, .slice v1 v2 v3] 57)).cell? ⟨w3.heap.size, 0, none⟩ = some (.int .u8 code) := box_cell (heap_new w3 _) 0
      have hk4 := (bC.cell (p := ⟨wr.heap.size, 0, none⟩) (cell_lt hk3)).trans hk3
      have hq3 : q < w3.heap.size := Nat.lt_of_lt_of_le HL1.out.ql he3.size
      have by4 := bytes_ext by3 (Ext.of_below bC (fun _ => False)) hq3 id
      have HEN := hideIt (encode_walk hs4.ms hs4.iv hs4.wr hs4.gl.gd hs4.gl.gl hs4.gl.kd hs4.gl.kl)
      have pc4 := hs4.pc
      have HS4 := hideIt hs4
      have HC4 := hideIt hc4
      have HK4 := hideIt hk4
      have HBy := hideIt by4
      have HQ4 := hideIt (Nat.lt_of_lt_of_le hq3 bC.size)
      have HBw := hideIt (bw3.trans (bC.mono (Nat.le_trans HB0.out (Nat.le_trans (Nat.le_of_lt HSZ.out) he3.size))))
      have HBz := hideIt bz3
      have HIM : Hid (code ≠ 0 ∨ ro kk → imgB s' ws' = imgB s ws) := him
      clear hs3 he3 ha3 him bw3 bz3 by3 hk3 bC hs4 hc4 hk4 hq3 by4 HL1 HK0 HPL HL0 HOp HNP
      go_wp2_with fail
      go_at_call 13
      refine HEN.out.mono ?_
      rintro e w4 ⟨bv, rfl, hown, hb4⟩
      obtain ⟨q', cp', rfl, _, _, hq1, hq2, hby⟩ := Own.bytes hown (imgB_range _ _) (imgB_ne _ _)
      have xc := (hb4.cell (p := ⟨w3.heap.size, 0, none⟩) (cell_lt HC4.out)).trans HC4.out
      have xk := (hb4.cell (p := ⟨wr.heap.size, 0, none⟩) (cell_lt HK4.out)).trans HK4.out
      have HLp4 : Hid (Lp w.heap.size P w A' rb' sb' s' tl' ws' L' n' q' cp' w4) := Lp.anew HS4.out hb4 HBw.out HBw.out.size HBz.out hq1 hq2 hby
      have hR4 := HRO.out.below HLp4.out.bw (Nat.lt_of_lt_of_le (by decide) HS7.out)
      have xr := hR4.2.1
      obtain ⟨qb, hlk, hqb⟩ := hR4.2.2 w4 rfl kk hkk
      have HBo : Hid (BytesAt w4 q 0 (imgB s ws)) := bytes_ext HBy.out (Ext.of_below hb4 (fun _ => False)) HQ4.out id
      have HBn := hideIt hby
      clear hown hb4 hq1 hq2 hby hR4 pc4 HC4 HK4 HBy HQ4 HBw HBz HEN HS4
      generalize him0 : imgB s' ws' = im' at *
      have HI0 := hideIt him0
      clear him0
      generalize imgB s ws = im at *
      by_cases hc : code = 0
      · subst hc
        cases qb
        · clear hqb
          go_wp2_with fail
          go_roundw
          case rel => exact ⟨k + 1, A', rb', sb', s', tl', ws', L', n', q', cp', by omega, by go_num, by rw [HI0.out], HLp4.out⟩
          case measure => simp [intOf]; omega
        · obtain rfl := HIM.out (Or.inr (hqb rfl))
          have HEq := hideIt (Equal_walk w4 im' q cp q' cp' HBo.out HBn.out)
          clear hqb
          go_wp2_with (go_at_call 20; refine HEq.out.mono ?_; rintro e w' ⟨rfl, hw'⟩; obtain rfl := hw'.symm)
          go_roundw
          case rel => exact ⟨k + 1, A', rb', sb', s', tl', ws', L', n', q', cp', by omega, by go_num, by rw [HI0.out], HLp4.out⟩
          case measure => simp [intOf]; omega
      · obtain rfl := HIM.out (Or.inl hc)
        have HEq := hideIt (Equal_walk w4 im' q cp q' cp' HBo.out HBn.out)
        have hcb : (code != 0) = true := by rw [bne_iff_ne]; exact hc
        clear hqb hc hlk xr
        go_wp2_with (go_at_call 20; refine HEq.out.mono ?_; rintro e w' ⟨rfl, hw'⟩; obtain rfl := hw'.symm)
        go_roundw
        case rel => exact ⟨k + 1, A', rb', sb', s', tl', ws', L', n', q', cp', by omega, by go_num, by rw [HI0.out], HLp4.out⟩
        case measure => simp [intOf]; omega
    · obtain rfl : k = len := by omega
      have HF := hideIt hL.bw
      clear hL
      go_wp2_with fail
      go_ret
      exact ⟨rfl, HF.out⟩
end Go.Proofs.Qxb6500847aGreatDoor.Os
