/-
  Load, Store.
-/
import Derived.Test.Qxb6500847aGreatDoorOsPa
import Derived.Test.Qxb6500847aGreatDoorOsPf
import Derived.Test.Qxb6500847aGreatDoorOxA
namespace Go.Proofs.Qxb6500847aGreatDoor.Os
open Go.RowKit FloorA
set_option maxRecDepth 100000
theorem mstore0 (p : Value) (w : World) : (Go.method 591 236 p "e2e/objstore.store").run Tryz.prog w = .ok (367, p) w := by kernel_rfl
theorem estore0 : ∀ args W, (callFunc 367 args).run Tryz.prog W = .ok (.enter 367 args) W := enters_of Tryz.func367 (by kernel_rfl) rfl
theorem mstore1 (p : Value) (w : World) : (Go.method 591 238 p "e2e/objstore.store").run Tryz.prog w = .ok (376, p) w := by kernel_rfl
theorem estore1 : ∀ args W, (callFunc 376 args).run Tryz.prog W = .ok (.enter 376 args) W := enters_of Tryz.func376 (by kernel_rfl) rfl
theorem mstore2 (p : Value) (w : World) : (Go.method 591 240 p "e2e/objstore.store").run Tryz.prog w = .ok (378, p) w := by kernel_rfl
theorem estore2 : ∀ args W, (callFunc 378 args).run Tryz.prog W = .ok (.enter 378 args) W := enters_of Tryz.func378 (by kernel_rfl) rfl
theorem mstore3 (p : Value) (w : World) : (Go.method 591 242 p "e2e/objstore.store").run Tryz.prog w = .ok (380, p) w := by kernel_rfl
theorem estore3 : ∀ args W, (callFunc 380 args).run Tryz.prog W = .ok (.enter 380 args) W := enters_of Tryz.func380 (by kernel_rfl) rfl
theorem mstore4 (p : Value) (w : World) : (Go.method 591 244 p "e2e/objstore.store").run Tryz.prog w = .ok (382, p) w := by kernel_rfl
theorem estore4 : ∀ args W, (callFunc 382 args).run Tryz.prog W = .ok (.enter 382 args) W := enters_of Tryz.func382 (by kernel_rfl) rfl
theorem mstore5 (p : Value) (w : World) : (Go.method 591 246 p "e2e/objstore.store").run Tryz.prog w = .ok (386, p) w := by kernel_rfl
theorem estore5 : ∀ args W, (callFunc 386 args).run Tryz.prog W = .ok (.enter 386 args) W := enters_of Tryz.func386 (by kernel_rfl) rfl
theorem meth_store {t : Nat} (ht : t < 6) (p : Value) (w : World) : (Go.method 591 (ptT t) p "e2e/objstore.store").run Tryz.prog w = .ok (stF t, p) w := by
  match t, ht with
  | 0, _ => exact mstore0 p w
  | 1, _ => exact mstore1 p w
  | 2, _ => exact mstore2 p w
  | 3, _ => exact mstore3 p w
  | 4, _ => exact mstore4 p w
  | 5, _ => exact mstore5 p w
theorem ent_store {t : Nat} (ht : t < 6) : ∀ args W, (callFunc (stF t) args).run Tryz.prog W = .ok (.enter (stF t) args) W := by
  match t, ht with
  | 0, _ => exact estore0
  | 1, _ => exact estore1
  | 2, _ => exact estore2
  | 3, _ => exact estore3
  | 4, _ => exact estore4
  | 5, _ => exact estore5
theorem mload0 (p : Value) (w : World) : (Go.method 591 236 p "e2e/objstore.load").run Tryz.prog w = .ok (366, p) w := by kernel_rfl
theorem eload0 : ∀ args W, (callFunc 366 args).run Tryz.prog W = .ok (.enter 366 args) W := enters_of Tryz.func366 (by kernel_rfl) rfl
theorem mload1 (p : Value) (w : World) : (Go.method 591 238 p "e2e/objstore.load").run Tryz.prog w = .ok (375, p) w := by kernel_rfl
theorem eload1 : ∀ args W, (callFunc 375 args).run Tryz.prog W = .ok (.enter 375 args) W := enters_of Tryz.func375 (by kernel_rfl) rfl
theorem mload2 (p : Value) (w : World) : (Go.method 591 240 p "e2e/objstore.load").run Tryz.prog w = .ok (377, p) w := by kernel_rfl
theorem eload2 : ∀ args W, (callFunc 377 args).run Tryz.prog W = .ok (.enter 377 args) W := enters_of Tryz.func377 (by kernel_rfl) rfl
theorem mload3 (p : Value) (w : World) : (Go.method 591 242 p "e2e/objstore.load").run Tryz.prog w = .ok (379, p) w := by kernel_rfl
theorem eload3 : ∀ args W, (callFunc 379 args).run Tryz.prog W = .ok (.enter 379 args) W := enters_of Tryz.func379 (by kernel_rfl) rfl
theorem mload4 (p : Value) (w : World) : (Go.method 591 244 p "e2e/objstore.load").run Tryz.prog w = .ok (381, p) w := by kernel_rfl
theorem eload4 : ∀ args W, (callFunc 381 args).run Tryz.prog W = .ok (.enter 381 args) W := enters_of Tryz.func381 (by kernel_rfl) rfl
theorem mload5 (p : Value) (w : World) : (Go.method 591 246 p "e2e/objstore.load").run Tryz.prog w = .ok (385, p) w := by kernel_rfl
theorem eload5 : ∀ args W, (callFunc 385 args).run Tryz.prog W = .ok (.enter 385 args) W := enters_of Tryz.func385 (by kernel_rfl) rfl
theorem meth_load {t : Nat} (ht : t < 6) (p : Value) (w : World) : (Go.method 591 (ptT t) p "e2e/objstore.load").run Tryz.prog w = .ok (ldF t, p) w := by
  match t, ht with
  | 0, _ => exact mload0 p w
  | 1, _ => exact mload1 p w
  | 2, _ => exact mload2 p w
  | 3, _ => exact mload3 p w
  | 4, _ => exact mload4 p w
  | 5, _ => exact mload5 p w
theorem ent_load {t : Nat} (ht : t < 6) : ∀ args W, (callFunc (ldF t) args).run Tryz.prog W = .ok (.enter (ldF t) args) W := by
  match t, ht with
  | 0, _ => exact eload0
  | 1, _ => exact eload1
  | 2, _ => exact eload2
  | 3, _ => exact eload3
  | 4, _ => exact eload4
  | 5, _ => exact eload5
theorem nF_k {t : Nat} (ht : t < 6) : kFlds (t + 2) = nF t := by
  match t, ht with
  | 0, _ => rfl
  | 1, _ => rfl
  | 2, _ => rfl
  | 3, _ => rfl
  | 4, _ => rfl
  | 5, _ => rfl
section
variable {A : Nat} {rb sb : Nat → Nat} {s : Av} {tl : Nat → List Int} {ws : Nat → Nat → Nat → Int} {w : World} {L : Nat → List Nat} {n : Nat}
/-- Refused, or done, by a reference. -/
def MrPost (A : Nat) (rb sb : Nat → Nat) (s : Av) (tl : Nat → List Int) (ws : Nat → Nat → Nat → Int) (X : Int × (Nat → En)) (w : World) (e : Ending) (w' : World) : Prop :=
  (∃ v, e = .returned v ∧ Refu w v w' X.1 ∧ X.2 = ob s ws) ∨ (X.1 = 0 ∧ e = .returned .nilIface ∧ ∃ ws', Ms w' A rb sb s tl ws' ∧ Ext w.heap.size (Tz A rb sb) w w' ∧ Wr ws' ∧ ob s ws' = X.2)
theorem MrPost.err {A : Nat} {rb sb : Nat → Nat} {s : Av} {tl : Nat → List Int} {ws : Nat → Nat → Nat → Int} {X : Int × (Nat → En)} {w w' : World} {v : Value} {c : Int} (hX : X = (c, ob s ws)) (h : Refu w v w' c) : MrPost A rb sb s tl ws X w (.returned v) w' := by
  subst hX
  exact Or.inl ⟨v, rfl, h, rfl⟩
theorem Wq.upd {t f : Nat} {W : Nat → Int} {v : Int} (h : Wq t W) (h0 : 0 ≤ v) (h1 : fOk t f v) : Wq t (upd W f v) := ⟨fun x hx => by
  unfold Os.upd
  by_cases e : x = f
  · subst e; rw [if_pos rfl]; exact ⟨h0, h1.1⟩
  · rw [if_neg e]; exact h.1 x hx, fun x hx => by
  unfold Os.upd
  by_cases e : x = f
  · subst e; rw [if_pos rfl]; exact h1.2
  · rw [if_neg e]; exact h.2 x hx⟩
/-- One row has turned. -/
theorem row_suc {w1 w2 : World} {t r i : Nat} {W : Nat → Int} {X : Int × (Nat → En)} (hb : Below w.heap.size w w1) (hM : Ms w1 A rb sb s tl ws) (hI : IV s tl L n) (hW : Wr ws) (hi : i < 320) (ht : t < 6) (et : (s.hd i).typ = ((t + 2 : Nat) : Int)) (er : (s.hd i).row = (r : Int)) (hr : r < nR t) (hs : St1 (rb t) (r * nC t) (nC t) w1 w2) (hrow : w2.rangeAt (rb t) (r * nC t) (rowL t W)) (hq : Wq t W) (hX : X = (0, updM (ob s ws) i { ob s ws i with wds := wlist (nF t) W })) : MrPost A rb sb s tl ws X w (.returned .nilIface) w2 := by
  subst hX
  exact Or.inr ⟨rfl, rfl, updW ws t r W, hM.turnRow ht hr hs hrow, (Ext.of_below hb _).trans hs.ext hb.size (fun _ _ e => Or.inr ⟨t, ht, Or.inl e⟩), hW.upd hq, ob_row hI hi et er W⟩
set_option maxHeartbeats 4000000 in
theorem Store_walk (h : Ms w A rb sb s tl ws) (hI : IV s tl L n) (hW : Wr ws) (hK : Kd w) (kl : 1 < w.heap.size) (i : Nat) (g : Int) (f v : Nat) (hf : f < 65536) (hv : v < 18446744073709551616) :
    Calls Tryz.prog 62 #[.pointer (some ⟨A, 0, none⟩), .agg #[.int .u16 (i : Int), .int .u32 g], .int .i64 (f : Int), .int .u64 (v : Int)] w (MrPost A rb sb s tl ws (stoX (ob s ws) i g f v) w) := by
  have bB := alloc_below (w := w) (.cells #[.int .u16 (i : Int), .int .u32 g] 32)
  have hz : (w.alloc (.cells #[.int .u16 (i : Int), .int .u32 g] 32)).heap[w.heap.size]? = some (.cells #[.int .u16 (i : Int), .int .u32 g] 32 (0, 0)) := heap_new _ _
  have HM := hideIt (h.below bB)
  have HB := hideIt bB
  have HI := hideIt hI
  have HW : Hid (Wr ws) := hW
  have HK : Hid (Kd w) := hK
  clear h hI bB hW hK
  go_enter Tryz.func62, Tryz.ntmps62
  go_wp2_with fail
  go_at_call 98
  refine (resolve_walk HM.out.am i g _).mono ?_
  rintro e w1 ⟨hb1, hh⟩
  have HB1 := hideIt (Below.thr HB.out hb1)
  have HM1 := hideIt (HM.out.below hb1)
  have l0 : w.heap.size < w1.heap.size := Nat.lt_of_lt_of_le (heap_lt hz) hb1.size
  obtain ⟨x0, x1, _, _⟩ := two_cells ((hb1.block w.heap.size (heap_lt hz)).trans hz)
  clear hb1 hz
  rcases hh with ⟨hl, rfl⟩ | ⟨hl, v0, rfl, hv0⟩
  · have HL := hideIt hl
    have htc := HM1.out.am.typ hl.1
    obtain ⟨k, ek, k7, kk⟩ := HI.out.ge.typ i hl.1
    have k0 : k ≠ 0 := fun e => hl.2.2.1 (by rw [ek, e]; rfl)
    have k8 : (k : Int) < 8 := by omega
    obtain ⟨_, _, hkf⟩ := HK.out.below HB1.out kl k (by omega)
    rw [ek] at htc
    have HEK := hideIt ek
    clear hl kk ek
    by_cases hfk : f < kFlds k
    · have k2 : 2 ≤ k := by
        rcases Nat.lt_or_ge k 2 with q | q
        · have : k = 1 := by omega
          subst this
          exact absurd hfk (Nat.not_lt_zero f)
        · exact q
      obtain ⟨t, rfl⟩ : ∃ t, k = t + 2 := ⟨k - 2, by omega⟩
      have t6 : t < 6 := by omega
      have hfn : f < nF t := by rw [← nF_k t6]; exact hfk
      obtain ⟨r, er, r1, _⟩ := HI.out.tb.row i (t + 2) HL.out.1 (by omega) k7 HEK.out
      have HP := hideIt (payloadOf_walk HM1.out HL.out.1 t6 HEK.out er r1)
      have HT6 := hideIt t6
      have HR1 : Hid (r < nR t) := r1
      have HER : Hid ((s.hd i).row = (r : Int)) := er
      have HLN : Hid (f < (ob s ws i).wds.length) := by rw [wds_len HI.out HL.out.1 HEK.out]; exact hfk
      have HFN := hideIt hfn
      have mS := @meth_store t t6
      have eS := @ent_store t t6
      have c1 : ¬ (f : Int) ≥ (kFlds (t + 2) : Int) := by omega
      generalize kFlds (t + 2) = kf at *
      clear er r1 hfn hfk
      go_wp2_with fail
      go_at_call 119
      refine HP.out.mono ?_
      rintro e w2 ⟨rfl, hb2⟩
      have HB2 := hideIt (Below.thr HB1.out hb2)
      have HM2 := hideIt (HM1.out.below hb2)
      have l2 : w.heap.size < w2.heap.size := Nat.lt_of_lt_of_le l0 hb2.size
      have y0 := (hb2.cell (p := ⟨w.heap.size, 0, none⟩) l0).trans x0
      have y1 := (hb2.cell (p := ⟨w.heap.size, 1, none⟩) l0).trans x1
      have HS := hideIt (store_any t6 (HM2.out.row t t6 r HR1.out) (HM2.out.rfz t t6) v hv HFN.out)
      clear hb2 x0 x1 htc hkf t6
      go_wp2_with fail
      refine HS.out.mono ?_
      rintro e w3 (⟨h1, rfl, hb3⟩ | ⟨h1, rfl, h3, h4⟩)
      · have z0 := (hb3.cell (p := ⟨w.heap.size, 0, none⟩) l2).trans y0
        have z1 := (hb3.cell (p := ⟨w.heap.size, 1, none⟩) l2).trans y1
        have HB3 := hideIt (Below.thr HB2.out hb3)
        have HX := hideIt (stoX_bad HL.out HLN.out HEK.out h1)
        clear hb3 y0 y1 h1
        go_wp2_with (go_at_call 123; refine (refuse_walk _ _ _ _ _ _).mono ?_; rintro e w4 ⟨v4, rfl, hv4, hb4⟩; have HF : Hid (MrPost A rb sb s tl ws (stoX (ob s ws) i g f v) w (.returned v4) w4) := MrPost.err HX.out ⟨hv4, by omega, Below.thr HB3.out hb4⟩; clear hv4 hb4)
        exact bodyPost_ret (by simp [results, Tryz.results62]) rfl HF.out
      · have HF : Hid (MrPost A rb sb s tl ws (stoX (ob s ws) i g f v) w (.returned .nilIface) w3) := row_suc HB2.out HM2.out HI.out HW.out HL.out.1 HT6.out HEK.out HER.out HR1.out h3 h4 ((HW.out t r HT6.out HR1.out).upd (by omega) h1) ((stoX_ok HI.out HL.out HLN.out HEK.out HER.out h1).trans (by rw [ob_row HI.out HL.out.1 HEK.out HER.out]; rfl))
        clear h1 h3 h4 y0 y1
        go_wp2_with fail
        exact bodyPost_ret (by simp [results, Tryz.results62]) rfl HF.out
    · have c1 : (f : Int) ≥ (kFlds k : Int) := by omega
      have HK1 : Hid (Kd w1.drew) := (show Kd w1 from HK.out.below HB1.out kl)
      have HX := hideIt (stoX_fld (ws := ws) HL.out (f := f) (by rw [wds_len HI.out HL.out.1 HEK.out]; omega) (v : Int))
      generalize kFlds k = kf at *
      go_wp2_with fail
      go_region_with (first | (go_at_call 133; refine (TypeName_walk HK1.out (t := k) (by omega)).mono ?_; rintro e w' ⟨⟨nm, nms, rfl⟩, hw'⟩; obtain rfl := hw'.symm) | (go_at_call 123; refine (refuse_walk _ _ _ _ _ _).mono ?_; rintro e w2 ⟨v2, rfl, hv2, hb2⟩))
      all_goals
        have HF : Hid (MrPost A rb sb s tl ws (stoX (ob s ws) i g f v) w (.returned v2) w2) := MrPost.err HX.out ⟨hv2, by omega, Below.thr (Below.thr HB1.out (below_d _)) hb2⟩
        clear hv2 hb2
        go_wp2_with fail
        exact bodyPost_ret (by simp [results, Tryz.results62] <;> (first | rfl | exact ⟨rfl, rfl⟩)) rfl HF.out
  · obtain ⟨b, rfl, hbc⟩ := hv0
    have HF : Hid (MrPost A rb sb s tl ws (stoX (ob s ws) i g f v) w (.returned (.iface 212 (.pointer (some ⟨b, 0, none⟩)))) w1) := MrPost.err (stoX_dead hl f v) ⟨⟨b, rfl, hbc⟩, stale_ne i g, HB1.out⟩
    clear hbc hl
    go_wp2_with fail
    exact bodyPost_ret (by simp [results, Tryz.results62]) rfl HF.out
end
end Go.Proofs.Qxb6500847aGreatDoor.Os
