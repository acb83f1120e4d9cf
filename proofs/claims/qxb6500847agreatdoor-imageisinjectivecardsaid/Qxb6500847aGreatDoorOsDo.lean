/-
  Decode of an image.
-/
import Derived.Test.Qxb6500847aGreatDoorOsDl
import Derived.Test.Qxb6500847aGreatDoorOsDg
import Derived.Test.Qxb6500847aGreatDoorOsDn
import Derived.Test.Qxb6500847aGreatDoorOsNc
import Derived.Test.Qxb6500847aGreatDoorOsGe
import Derived.Test.Qxb6500847aGreatDoorFloorB
namespace Go.Proofs.Qxb6500847aGreatDoor.Os
open Go.RowKit FloorA
set_option maxRecDepth 100000
theorem z229 : Tryz.zeroCells229.toList.drop 4 = List.replicate 320 (.int .i64 0) := by kernel_rfl
theorem z229_size : Tryz.zeroCells229.size = 324 := by kernel_rfl
theorem z229_get {i : Nat} (hi : i < 320) : Tryz.zeroCells229[4 + i]? = some (.int .i64 0) := by
  have : (Tryz.zeroCells229.toList.drop 4)[i]? = some (.int .i64 0) := by rw [z229, List.getElem?_replicate, if_pos hi]
  rw [List.getElem?_drop, Array.getElem?_toList] at this
  exact this
def decC (z : Array Value) (g l cap A : Nat) : Array Value := (((z.setIfInBounds 0 (.slice (some ⟨g, 0, none⟩) l cap)).setIfInBounds 1 (.int .i64 0)).setIfInBounds 2 (.pointer none)).setIfInBounds 3 (.pointer (some ⟨A, 0, none⟩))
theorem rn_start {w1 : World} {A g cap : Nat} {N : List Nat} (hg : g < w1.heap.size) (hb : BytesAt w1 g 0 (eN N)) (hs : ∀ x ∈ N, x < 18446744073709551616) (hl : (eN N).length ≤ 3000000) (hc : (eN N).length ≤ cap) :
    Rn w1.heap.size A g cap N N (w1.alloc (.cells (decC Tryz.zeroCells229 g (eN N).length cap A) 229)) := by
  have hz := z229_size
  have hn := heap_alloc_new w1 (.cells (decC Tryz.zeroCells229 g (eN N).length cap A) 229)
  have hz2 : ∀ i, i < 320 → Tryz.zeroCells229[4 + i]? = some (.int .i64 0) := fun i hi => z229_get hi
  unfold decC at *
  generalize Tryz.zeroCells229 = z at *
  refine ⟨⟨[], rfl, ?_, ?_, ?_, ?_, fun i hi => ⟨0, ?_⟩, fun o => ?_⟩, fun i hi => ?_, hs, hl, hc, by omega, by simp; omega⟩
  · rw [World.cell?]; simp only [hn]; simp [hz]
  · rw [World.cell?]; simp only [hn]; simp [hz, eN]
  · rw [World.cell?]; simp only [hn]; simp [hz]
  · rw [World.cell?]; simp only [hn]; simp [hz]
  · rw [World.cell?]; simp only [hn]
    simp only [Option.isSome_none, Bool.false_eq_true, if_false]
    rw [Array.getElem?_setIfInBounds_ne (by omega), Array.getElem?_setIfInBounds_ne (by omega), Array.getElem?_setIfInBounds_ne (by omega), Array.getElem?_setIfInBounds_ne (by omega)]
    exact hz2 i hi
  · rw [World.frozen?]; simp only [hn]; simp
  · have := hb i hi
    rw [show (w1.alloc _).cell? ⟨g, 0 + i, none⟩ = w1.cell? ⟨g, 0 + i, none⟩ from World.cell?_of_block (heap_alloc_old _ _ hg)]
    exact this
theorem dec_mod {x : Nat} (h : x < 4294967296) : (x : Int) % 4294967296 = (x : Int) := by omega
theorem dec_ar2 {c j : Nat} (h : c ≤ 320) (hj : j < 320) : ((1 + c : Nat) : Int) = 1 + (c : Int) ∧ decide ((0 : Int) < 1 + (c : Int)) = true ∧ ((1 + (c : Int) - 1) % 18446744073709551616) = (c : Int) ∧ wrap64 ((j : Int) + 1) = (j : Int) + 1 :=
  ⟨by omega, decide_eq_true (by omega), by omega, by unfold wrap64; omega⟩
theorem dec_ar3 {c : Nat} (h : c ≤ 320) : IntKind.u64.wrap (1 + (c : Int) - 1) = (c : Int) := by
  have e : IntKind.u64.wrap (1 + (c : Int) - 1) = (1 + (c : Int) - 1) % 18446744073709551616 := rfl
  rw [e]; omega
theorem dec_ms {c : Nat} (h : IntKind.u64.wrap (1 + (c : Int) - 1) = (c : Int)) : (intOf (.int .u64 (IntKind.u64.wrap (1 + (c : Int) - 1)))).toNat < (intOf (.int .u64 ((1 + c : Nat) : Int))).toNat := by
  rw [h]; simp [intOf]; omega
theorem lsD_le (s : Av) (fl : Int) : ∀ d i, lsD s fl i d ≤ d
  | 0, _ => Nat.le_refl _
  | d + 1, i => by
    have := lsD_le s fl d (i + 1)
    have e : lsD s fl i (d + 1) = (if lis s fl i then 1 else 0) + lsD s fl (i + 1) d := rfl
    rw [e]
    split <;> omega
theorem dec_lt1 {x : Nat} (h : 1 ≤ x) : decide ((x : Int) < 1) = false := decide_eq_false (by omega)
theorem dec_ar {l cap : Nat} (h : l + 8 ≤ cap) (hl : l ≤ 3000000) : (l : Int) ≤ (cap : Int) ∧ (l : Int) + 8 ≤ (cap : Int) ∧ ((l + 8 : Nat) : Int) = (l : Int) + 8 ∧ wrap64 (l : Int) = (l : Int) ∧ ((l : Int) + 8 - (l : Int)) = 8 ∧ decide ((l : Int) + 8 < 8) = false :=
  ⟨by omega, by omega, by omega, by unfold wrap64; omega, by omega, decide_eq_false (by omega)⟩
section
variable {s : Av} {tl : Nat → List Int} {ws : Nat → Nat → Nat → Int} {w : World} {L : Nat → List Nat} {n : Nat}
def DcPost (s : Av) (ws : Nat → Nat → Nat → Int) (w : World) (e : Ending) (w' : World) : Prop :=
  Below w.heap.size w w' ∧ ((∃ b off str, e = .returned (.tuple #[.pointer none, .iface 218 (.pointer (some ⟨b, 0, none⟩))]) ∧ w'.cell? ⟨b, 0, none⟩ = some (.int .i64 off) ∧ w'.cell? ⟨b, 1, none⟩ = some (.string str)) ∨
    (∃ A rb sb s2 tl2 ws2 L n, e = .returned (.tuple #[.pointer (some ⟨A, 0, none⟩), .nilIface]) ∧ Ms w' A rb sb s2 tl2 ws2 ∧ IV s2 tl2 L n ∧ Wr ws2 ∧ Shw 320 s s2 ws ws2 ∧ ∀ b, Tz A rb sb b → w.heap.size ≤ b))
theorem below_extT {B : Nat} {T : Nat → Prop} {w w1 w2 : World} (k : Below B w w1) (h : Ext w1.heap.size T w1 w2) (hT : ∀ b, T b → B ≤ b) (hB : B ≤ w1.heap.size) : Below B w w2 :=
  k.trans (h.below' hB (fun q hq ht => absurd (hT q ht) (by omega)))
theorem dec_bad {w0 w1 : World} (hb : Below w0.heap.size w0 w1) {b : Nat} {off : Int} {str : ByteArray} (h2 : w1.cell? ⟨b, 0, none⟩ = some (.int .i64 off)) (h3 : w1.cell? ⟨b, 1, none⟩ = some (.string str)) (q : Nat) :
    DcPost s ws w0 (.returned (.tuple #[.pointer none, .iface 218 (.pointer (some ⟨b, 0, none⟩))])) (w1.drewN q) :=
  ⟨below_drewN hb q, Or.inl ⟨b, off, str, rfl, h2, h3⟩⟩
theorem bodN_nums (hI : IV s tl L n) (hW : Wr ws) : ∃ fg : Nat, flG s 320 = (fg : Int) ∧ 1 ≤ fg ∧ fg < 4294967296 ∧ (∀ x, x < 320 → (fg : Int) ≤ (s.hd x).gen) ∧ bodN s ws = 1 :: fg :: lsD s (fg : Int) 0 320 :: lsF s ws (fg : Int) 0 0 320 ∧ (∀ x ∈ bodN s ws, x < 18446744073709551616) ∧ lsD s (fg : Int) 0 320 ≤ 320 := by
  obtain ⟨fx, hfx, efx⟩ := flG_mem s 320 (Nat.le_refl _)
  obtain ⟨fg, efg, fg1, fg2, _⟩ := hI.ge.gen fx hfx
  have hF : flG s 320 = (fg : Int) := by rw [efx, efg]
  have hle : ∀ x, x < 320 → (fg : Int) ≤ (s.hd x).gen := fun x hx => by rw [← hF]; exact flG_le s 320 x hx
  have e1 := lsF_eq (s := s) (ws := ws) (fg : Int) 320 0
  have e2 := lsD_eq (s := s) (fg : Int) 320 0
  have e3 : lsN s ws (fg : Int) 320 = lsF s ws (fg : Int) 0 0 320 := by
    have h1 : lsN s ws (fg : Int) 0 = [] := rfl
    have h2 : lsA s (fg : Int) 0 = 0 := rfl
    rw [h1, h2, List.nil_append, Nat.zero_add] at e1
    exact e1.symm
  have e4 : lsC s (fg : Int) 320 = lsD s (fg : Int) 0 320 := by
    have h1 : lsC s (fg : Int) 0 = 0 := rfl
    rw [h1, Nat.zero_add, Nat.zero_add] at e2
    exact e2.symm
  have e5 : bodN s ws = 1 :: fg :: lsD s (fg : Int) 0 320 :: lsF s ws (fg : Int) 0 0 320 := by
    unfold bodN
    rw [hF, e3, e4, Int.toNat_natCast, List.cons_append, List.cons_append, List.cons_append, List.nil_append]
  have c1 := lsC_le s (fg : Int) 320
  rw [e4] at c1
  refine ⟨fg, hF, fg1, fg2, hle, e5, fun x hx => ?_, c1⟩
  have hN := (lsN_small hI hW hle (Int.natCast_nonneg _) 320 (Nat.le_refl _)).1
  rw [e3] at hN
  rw [e5] at hx
  rcases List.mem_cons.1 hx with q | hx
  · rw [q]; decide
  rcases List.mem_cons.1 hx with q | hx
  · rw [q]; exact Nat.lt_trans fg2 (by decide)
  rcases List.mem_cons.1 hx with q | hx
  · rw [q]; exact Nat.lt_of_le_of_lt c1 (by decide)
  exact hN x hx
set_option maxHeartbeats 16000000 in
theorem Decode_walk {g cap : Nat} (hI : IV s tl L n) (hW : Wr ws) (hb : BytesAt w g 0 (imgB s ws)) (hcap : (imgB s ws).length ≤ cap) (_hcap2 : cap ≤ maxLen) (hg : g < w.heap.size) (hK : Kd w) (kl : 1 < w.heap.size) :
    Calls Tryz.prog 29 #[.slice (some ⟨g, 0, none⟩) (imgB s ws).length cap] w (DcPost s ws w) := by
  obtain ⟨fg, hF, fg1, fg2, hle, hN, hsm, hc320⟩ := bodN_nums hI hW
  have hbl := bodN_small hI hW
  have hlen : (imgB s ws).length = (eN (bodN s ws)).length + 8 := by unfold imgB; rw [List.length_append, dbytes_length]
  have hb1 : BytesAt w g 0 (eN (bodN s ws)) := by
    have := bytes_part (a := []) (b := eN (bodN s ws)) (c := dbytes 8 (dig (eN (bodN s ws)))) (by rw [List.nil_append]; exact hb)
    exact this
  have hb2 : BytesAt w g (eN (bodN s ws)).length (dbytes 8 (dig (eN (bodN s ws)))) := by
    have := bytes_part (a := eN (bodN s ws)) (b := dbytes 8 (dig (eN (bodN s ws)))) (c := []) (by rw [List.append_nil]; exact hb)
    rw [Nat.zero_add] at this
    exact this
  have hdg := dig_range (eN (bodN s ws))
  rw [hlen] at hcap ⊢
  have HRS : Hid (∀ w1 A, Below w.heap.size w w1 → Rn w1.heap.size A g cap (bodN s ws) (bodN s ws) (w1.alloc (.cells (decC Tryz.zeroCells229 g (eN (bodN s ws)).length cap A) 229))) := fun w1 A hbw => rn_start (Nat.lt_of_lt_of_le hg hbw.size) (fun i hi => by rw [hbw.cell (p := ⟨g, 0 + i, none⟩) hg]; exact hb1 i hi) hsm hbl (Nat.le_trans (Nat.le_add_right _ _) hcap)
  have HRD := hideIt (readDigest_any g (eN (bodN s ws)).length (cap - (eN (bodN s ws)).length) (dig (eN (bodN s ws))) w hdg.1 hdg.2 hb2)
  have HDG := hideIt (dig_walk g 0 (eN (bodN s ws)).length cap (eN (bodN s ws)) w rfl (Nat.le_trans hbl (by unfold big; decide)) hb1)
  have HI := hideIt hI
  have HW : Hid (Wr ws) := hW
  have HK : Hid (Kd w) := hK
  have HN := hideIt hN
  have HLE : Hid (∀ x, x < 320 → (fg : Int) ≤ (s.hd x).gen) := hle
  have HFG := hideIt (And.intro fg1 (And.intro fg2 hc320))
  have HG := hideIt hg
  have HKL := hideIt kl
  generalize hbd : eN (bodN s ws) = bd at *
  generalize hbdl : bd.length = l at *
  have HEL : Hid ((eN (bodN s ws)).length = l) := (congrArg List.length hbd).trans hbdl
  obtain ⟨c1, c2, c3, c4, c5, c6⟩ := dec_ar hcap hbl
  clear hI hW hb hcap hK hF hN hle hsm hbl hlen hb1 hb2 hdg fg1 fg2 hc320 hbd hbdl hg kl
  go_enter Tryz.func29, Tryz.ntmps29
  go_wp2_with fail
  go_at_call 101
  refine HRD.out.mono ?_
  rintro e w' ⟨rfl, hw'⟩
  obtain rfl := hw'.symm
  clear hw'
  go_wp2_with fail
  go_at_call 102
  refine HDG.out.mono ?_
  rintro e w' ⟨rfl, hw'⟩
  obtain rfl := hw'.symm
  clear hw'
  go_wp2_with fail
  go_at_call 11
  refine (New_walk _).mono ?_
  rintro e w1 ⟨A, rb, sb, s1, rfl, hbw, hup, hfr, hM⟩
  have HBw := hideIt hbw
  have HUp := hideIt hup
  have HFr := hideIt hfr
  have HM := hideIt hM
  clear hbw hup hfr hM HRD HDG
  have hB2 := Below.thr HBw.out (alloc_below (w := w1) (.cells (decC Tryz.zeroCells229 g l cap A) 229))
  have hM2 := HM.out.below (alloc_below (w := w1) (.cells (decC Tryz.zeroCells229 g l cap A) 229))
  have hR2 : Rn w1.heap.size A g cap (bodN s ws) (1 :: fg :: lsD s (fg : Int) 0 320 :: lsF s ws (fg : Int) 0 0 320) (w1.alloc (.cells (decC Tryz.zeroCells229 g l cap A) 229)) := (congrArg (fun r => Rn w1.heap.size A g cap (bodN s ws) r (w1.alloc (.cells (decC Tryz.zeroCells229 g l cap A) 229))) HN.out).mp (HRS.out w1 A HBw.out)
  have HDn := hideIt (And.intro HBw.out.size (And.intro (show ¬ Tz A rb sb w1.heap.size from fun q => Nat.lt_irrefl _ (HM.out.tzlt _ q)) (show w1.heap.size < (w1.alloc (.cells (decC Tryz.zeroCells229 g l cap A) 229)).heap.size by simp)))
  unfold decC at hB2 hM2 hR2 HDn
  have HB2 := hideIt hB2
  have HM2 := hideIt hM2
  have HR2 := hideIt hR2
  clear hB2 hM2 hR2 HRS HM HBw
  go_wp2_with fail
  go_at_call 103
  generalize w1.alloc (.cells ((((Tryz.zeroCells229.setIfInBounds 0 (.slice (some ⟨g, 0, none⟩) l cap)).setIfInBounds 1 (.int .i64 0)).setIfInBounds 2 (.pointer none)).setIfInBounds 3 (.pointer (some ⟨A, 0, none⟩))) 229) = w2 at *
  generalize w1.heap.size = D at *
  generalize hc0 : lsD s (fg : Int) 0 320 = c0 at *
  have HC0 : Hid (lsD s (fg : Int) 0 320 = c0) := hc0
  clear hc0
  have HXD : Hid (∀ b, b = D → w.heap.size ≤ b) := fun b hb => by rw [hb]; exact HDn.out.1
  refine (num_any (Or.inl HR2.out) _ _ (by decide)).mono ?_
  rintro e w3 ⟨hx3, x, rfl, x64, hh⟩
  have HB3 := hideIt (below_extT HB2.out hx3 HXD.out HB2.out.size)
  have HM3 := hideIt (HM2.out.ext hx3 (fun b hb q => HDn.out.2.1 (by rw [← q]; exact hb)))
  clear hx3 HB2 HM2 HR2
  rcases hh with ⟨ex, _, _, r3⟩ | ⟨ex, f3⟩
  rotate_left
  · obtain ⟨b, off, str, k1, k2, k3⟩ := f3.whr
    obtain ⟨p3, hp3⟩ := f3.pos
    have HF3 := hideIt f3
    subst ex
    clear f3 x64
    go_wp2_with fail
    go_at_call 103
    refine (number_dead HF3.out _ _).mono ?_
    rintro e w' ⟨rfl, hw'⟩
    obtain rfl := hw'.symm
    clear hw'
    go_wp2_with fail
    go_at_call 103
    refine (number_dead HF3.out _ _).mono ?_
    rintro e w' ⟨rfl, hw'⟩
    obtain rfl := hw'.symm
    clear hw'
    go_wp2_with fail
    go_quiet (fail)
    go_wp2
    go_ret2
    exact dec_bad HB3.out k2 k3 _
  subst ex
  have kv : (((1 : Nat) : Int) != 1) = false := rfl
  have herr := r3.err
  obtain ⟨p3, hp3, _⟩ := r3.pos
  have HR3 := hideIt r3
  clear r3 x64
  go_wp2_with fail
  go_at_call 103
  refine (num_any (Or.inl HR3.out) _ _ (by decide)).mono ?_
  rintro e w4 ⟨hx4, x, rfl, x64, hh⟩
  have HB4 := hideIt (below_extT HB3.out hx4 HXD.out HB3.out.size)
  have HM4 := hideIt (HM3.out.ext hx4 (fun b hb q => HDn.out.2.1 (by rw [← q]; exact hb)))
  clear hx4 HB3 HM3 HR3 herr hp3 kv
  rcases hh with ⟨ex, _, _, r3⟩ | ⟨ex, f3⟩
  rotate_left
  · obtain ⟨b, off, str, k1, k2, k3⟩ := f3.whr
    obtain ⟨p3, hp3⟩ := f3.pos
    have HF3 := hideIt f3
    have HB3 := HB4
    subst ex
    clear f3 x64
    go_wp2_with fail
    go_at_call 103
    refine (number_dead HF3.out _ _).mono ?_
    rintro e w' ⟨rfl, hw'⟩
    obtain rfl := hw'.symm
    clear hw'
    go_wp2_with fail
    go_quiet (fail)
    go_wp2
    go_ret2
    exact dec_bad HB3.out k2 k3 _
  subst ex
  have fm : (x : Int) % 4294967296 = (x : Int) := dec_mod HFG.out.2.1
  have fl1 : decide ((x : Int) < 1) = false := dec_lt1 HFG.out.1
  have herr := r3.err
  have HR4 := hideIt r3
  clear r3 x64
  go_wp2_with fail
  go_at_call 103
  refine (num_any (Or.inl HR4.out) _ _ (by decide)).mono ?_
  rintro e w5 ⟨hx5, y, rfl, y64, hh⟩
  have HB5 := hideIt (below_extT HB4.out hx5 HXD.out HB4.out.size)
  have HM5 := hideIt (HM4.out.ext hx5 (fun b hb q => HDn.out.2.1 (by rw [← q]; exact hb)))
  clear hx5 HB4 HM4 HR4 herr fl1
  rcases hh with ⟨ex, _, _, r3⟩ | ⟨ex, f3⟩
  rotate_left
  · obtain ⟨b, off, str, k1, k2, k3⟩ := f3.whr
    obtain ⟨p3, hp3⟩ := f3.pos
    have HB3 := HB5
    subst ex
    clear f3 y64
    go_wp2_with fail
    go_quiet (fail)
    go_wp2
    go_ret2
    exact dec_bad HB3.out k2 k3 _
  subst ex
  have herr := r3.err
  have HR5 := hideIt r3
  clear r3 y64
  have HTD : Hid (∀ b, Tz A rb sb b → w.heap.size ≤ b) := HUp.out
  have HNG : Hid (¬ Tz A rb sb g) := fun q => Nat.lt_irrefl _ (Nat.lt_of_lt_of_le HG.out (HUp.out g q))
  have HXT : Hid (∀ b, b = D ∨ Tz A rb sb b → w.heap.size ≤ b) := fun b hb => hb.elim (HXD.out b) (HUp.out b)
  go_wp2_with fail
  clear herr
  go_loopw [111] (fun v wr => ∃ (k : Nat) (s2 : Av), k ≤ 320 ∧ v = .int .i64 (k : Int) ∧ Below w.heap.size w wr ∧ Ms wr A rb sb s2 tl0 (fun _ _ _ => 0) ∧ F0 k x s2 ∧ Rn D A g cap (bodN s ws) (lsF s ws (x : Int) 0 0 320) wr) (fun i _ => 320 - (intOf i).toNat)
  case atStart => exact ⟨0, s1, by omega, rfl, HB5.out, HM5.out, F0.start HFr.out x, HR5.out⟩
  case round =>
    obtain ⟨k, s2, hk, rfl, hbw, hM, hF, hR⟩ := hrel
    have har := hR.ar
    have HBw := hideIt hbw
    have HMr := hideIt hM
    have HFr2 := hideIt hF
    have HRr := hideIt hR
    clear hbw hM hF hR
    by_cases hlt : k < 320
    · have hlt' : (k : Int) < 320 := by omega
      have ck : (k : Int) % 65536 = (k : Int) := by omega
      have HSF := hideIt (setFreeGen_walk HMr.out HFr2.out.iv.ge.wd hlt x)
      go_wp2_with fail
      go_at_call 105
      refine HSF.out.mono ?_
      rintro e w6 ⟨rfl, hM6, hE6⟩
      have HM6 := hideIt hM6
      have HB6 := hideIt (below_extT HBw.out hE6 HTD.out HBw.out.size)
      have HR6 := hideIt (HRr.out.ext hE6 HDn.out.2.1 HNG.out)
      have HF6 := hideIt (HFr2.out.step hlt HFG.out.1 HFG.out.2.1)
      clear hM6 hE6 har
      go_wp2_with fail
      exact ⟨⟨k + 1, _, by omega, by go_num, HB6.out, HM6.out, HF6.out, HR6.out⟩, by simp [intOf]; omega⟩
    · have HDe := hideIt (F0.de (s := s) (ws := ws) (show F0 320 x s2 from by
        have : k = 320 := by omega
        rw [← this]
        exact HFr2.out))
      have hnl : ¬ (k : Int) < 320 := by omega
      clear har hk hlt HB5 HM5 HR5
      go_wp2_with fail
      clear hnl
      go_loopw [11, 13, 14] (fun v11 v13 v14 wr => ∃ (k : Nat) (s2 : Av) (tl2 : Nat → List Int) (ws2 : Nat → Nat → Nat → Int) (q : Bool), k ≤ 320 ∧ v11 = .int .u64 ((lsD s (x : Int) k (320 - k) : Nat) : Int) ∧ v13 = .int .i64 (k : Int) ∧ v14 = .bool q ∧ Below w.heap.size w wr ∧ Ms wr A rb sb s2 tl2 ws2 ∧ De k x s ws s2 tl2 ws2 ∧ Rn D A g cap (bodN s ws) (lsF s ws (x : Int) k k (320 - k)) wr) (fun v11 _ _ _ => (intOf v11).toNat)
      case atStart => exact ⟨0, _, _, _, _, by omega, by rw [HC0.out], rfl, rfl, HBw.out, HMr.out, HDe.out, HRr.out⟩
      case round =>
        clear HBw HMr HFr2 HRr HDe
        obtain ⟨k, s2, tl2, ws2, q, hk, rfl, rfl, rfl, hbw, hM, hDe, hR⟩ := hrel
        have HBw := hideIt hbw
        have HMr := hideIt hM
        have HDe := hideIt hDe
        have HRr := hideIt hR
        have HKr : Hid (Kd wr) := HK.out.below hbw HKL.out
        have HKD : Hid (1 ≠ D) := fun q => Nat.lt_irrefl _ (Nat.lt_of_lt_of_le HKL.out (by rw [q]; exact HDn.out.1))
        have HKT : Hid (¬ Tz A rb sb 1) := fun q => Nat.lt_irrefl _ (Nat.lt_of_lt_of_le HKL.out (HUp.out _ q))
        clear hbw hM hDe hR
        by_cases hd : lsD s (x : Int) k (320 - k) = 0
        · obtain ⟨hn1, hn2⟩ := lsF_none (s := s) (ws := ws) (x : Int) k (320 - k) k hd
          have HRe : Hid (Rn D A g cap (bodN s ws) [] wr) := by rw [← hn1]; exact HRr.out
          have HDl := hideIt (HDe.out.skip hk (Nat.le_refl 320) (fun j h1 h2 => hn2 j h1 (by omega)))
          have hps : wr.cell? ⟨D, 1, none⟩ = some (.int .i64 (l : Int)) := by
            obtain ⟨pre, e1, r⟩ := HRe.out.rd
            rw [List.append_nil] at e1
            have := r.pos
            rw [← e1, HEL.out] at this
            exact this
          rw [hd]
          have herr := HRe.out.err
          clear hn1 hn2 HDe HRr HKD HKT
          cases q
          · have HFa := hideIt (HRe.out.fail)
            go_wp2_with fail
            go_at_call 104
            refine (HFa.out _ _).mono ?_
            rintro e w6 ⟨rfl, f3, hx6⟩
            have HB3 := hideIt (below_extT HBw.out hx6 HXD.out HBw.out.size)
            obtain ⟨b, off, str, k1, k2, k3⟩ := f3.whr
            clear hx6 f3 herr hps
            go_wp2_with fail
            go_quiet (fail)
            go_wp2
            go_ret2
            exact dec_bad HB3.out k2 k3 _
          · obtain ⟨⟨r, hP⟩, hrt⟩ := HDl.out.pt HI.out
            have HRo := hideIt (rooted_walk HRe.out HMr.out hP)
            have HLk := hideIt (link_walk HRe.out HMr.out HDl.out.iv hP hrt HDn.out.2.1 HNG.out)
            clear hP hrt
            go_wp2_with fail
            go_at_call 107
            refine HRo.out.mono ?_
            rintro e w' ⟨rfl, hw'⟩
            obtain rfl := hw'.symm
            clear hw' HRo
            go_wp2_with fail
            go_at_call 108
            refine HLk.out.mono ?_
            rintro e w6 ⟨rfl, hx6, hh⟩
            have HB3 := hideIt (below_extT HBw.out hx6 HXT.out HBw.out.size)
            clear hx6 HLk herr hps
            rcases hh with f3 | ⟨s3, L3, n3, hM3, hI3, hH3, hR3⟩
            · obtain ⟨b, off, str, k1, k2, k3⟩ := f3.whr
              clear f3
              go_wp2_with fail
              go_quiet (fail)
              go_wp2
              go_ret2
              exact dec_bad HB3.out k2 k3 _
            · have herr := hR3.err
              have har := hR3.ar
              have HE : Hid (DcPost s ws w (.returned (.tuple #[.pointer (some ⟨A, 0, none⟩), .nilIface])) w6) := ⟨HB3.out, Or.inr ⟨A, rb, sb, s3, tl2, ws2, L3, n3, rfl, hM3, hI3, HDl.out.wr, hH3.shw HDl.out.shw, HUp.out⟩⟩
              clear hM3 hI3 hH3 hR3
              go_wp2_with fail
              go_ret2
              exact HE.out
        · obtain ⟨j, hj1, hj2, hj3, hj4, hj5, hj6⟩ := lsF_next (s := s) (ws := ws) (x : Int) k (320 - k) k hd
          have hj : j < 320 := by omega
          rw [show k + (320 - k) - (j + 1) = 320 - (j + 1) by omega] at hj5 hj6
          obtain ⟨gN, eg, _, _, _⟩ := HI.out.ge.gen j hj
          obtain ⟨tN, et, _, _⟩ := HI.out.ge.typ j hj
          have hle := HLE.out j hj
          rw [hj5, eg, et] at HRr
          have HEt := hideIt (entry_walk (age := (((gN : Nat) : Int) - (x : Int)).toNat) (tN := tN) HRr.out HMr.out HDe.out HI.out HW.out HKr.out hj1 hj eg (by omega) et hj3 hj4 HDn.out.2.1 HNG.out HKD.out HKT.out)
          generalize (((gN : Nat) : Int) - (x : Int)).toNat = age at *
          rw [hj6]
          generalize hc1 : lsD s (x : Int) (j + 1) (320 - (j + 1)) = c1 at *
          have HC1 : Hid (lsD s (x : Int) (j + 1) (320 - (j + 1)) = c1) := hc1
          have c1le : c1 ≤ 320 := by
            have := lsD_le s (x : Int) (320 - (j + 1)) (j + 1)
            rw [hc1] at this
            exact Nat.le_trans this (Nat.sub_le _ _)
          obtain ⟨a1, a2, a3, a4⟩ := dec_ar2 c1le hj
          clear hc1 hj3 hj4 hj5 hj6 hle eg et hd hk HRr HMr HDe
          go_wp2_with fail
          go_at_call 106
          refine HEt.out.mono ?_
          rintro e w6 ⟨hx6, hh⟩
          have HB3 := hideIt (below_extT HBw.out hx6 HXT.out HBw.out.size)
          clear hx6 HEt
          rcases hh with ⟨f3, u, v, rfl⟩ | ⟨hR6, rfl, s6, tl6, ws6, hM6, hD6⟩
          · obtain ⟨b, off, str, k1, k2, k3⟩ := f3.whr
            clear f3
            go_wp2_with fail
            go_quiet (fail)
            go_wp2
            go_ret2
            exact dec_bad HB3.out k2 k3 _
          · have herr := hR6.err
            have HR6 := hideIt hR6
            have HM6 := hideIt hM6
            have HD6 := hideIt hD6
            clear hR6 hM6 hD6
            obtain ⟨b0, hb0⟩ : ∃ b0 : Bool, ((age : Int) == 0) = b0 := ⟨_, rfl⟩
            have HA3 := hideIt (dec_ar3 c1le)
            clear a1 a2 a3 a4 c1le
            cases q
            · go_wp2_with fail
              go_roundw
              case rel => exact ⟨j + 1, s6, tl6, ws6, _, by omega, by rw [HC1.out]; exact congrArg (Value.int .u64) HA3.out, rfl, rfl, HB3.out, HM6.out, HD6.out, HR6.out⟩
              case measure => exact dec_ms HA3.out
            · go_wp2_with fail
              go_roundw
              case rel => exact ⟨j + 1, s6, tl6, ws6, _, by omega, by rw [HC1.out]; exact congrArg (Value.int .u64) HA3.out, rfl, rfl, HB3.out, HM6.out, HD6.out, HR6.out⟩
              case measure => exact dec_ms HA3.out
end
end Go.Proofs.Qxb6500847aGreatDoor.Os
