/-
  Notification: read, write, fill.
-/
import Derived.Test.Qxb6500847aGreatDoorOsRe
namespace Go.Proofs.Qxb6500847aGreatDoor.Os
open Go.RowKit FloorA
set_option maxRecDepth 100000
section
variable {A : Nat} {rb sb : Nat → Nat} {s : Av} {tl : Nat → List Int} {ws : Nat → Nat → Nat → Int} {w : World} {L : Nat → List Nat} {n : Nat}
set_option maxHeartbeats 8000000 in
theorem read_walk3 (h : Ms w A rb sb s tl ws) (hI : IV s tl L n) (hK : Kd w) (kl : 1 < w.heap.size) (i : Nat) (g : Int) (c : ByteArray) :
    Calls Tryz.prog 266 #[.pointer (some ⟨A, 0, none⟩), .pointer (some ⟨A, 2892, none⟩), .string c, .agg #[.int .u16 (i : Int), .int .u32 g], .int .u8 5] w (RdPost 3 s ws i g w) := by
  have bB := two_below (w := w) (.cells #[.int .u16 (i : Int), .int .u32 g] 32) (.cells #[.int .u64 0, .int .u16 0, .int .u16 0, .int .u16 0, .int .u32 0] 121)
  have hz2 : ((w.alloc (.cells #[.int .u16 (i : Int), .int .u32 g] 32)).alloc (.cells #[.int .u64 0, .int .u16 0, .int .u16 0, .int .u16 0, .int .u32 0] 121)).heap[w.heap.size + 1]? = some (.cells (zeT 3) 121 (0, 0)) := new_at _ _ (Deep.nblk_alloc _ _)
  have HM := hideIt (h.below bB)
  have HB := hideIt bB
  have HI := hideIt hI
  have HK : Hid (Kd ((w.alloc (.cells #[.int .u16 (i : Int), .int .u32 g] 32)).alloc (.cells #[.int .u64 0, .int .u16 0, .int .u16 0, .int .u16 0, .int .u32 0] 121))) := hK.below bB kl
  have HZ2 := hideIt hz2
  obtain ⟨d, hun, hd⟩ := row_un (t := 3) (by omega)
  have HUN : Hid (Tryz.prog.underlying 121 = some d) := hun
  have HD := hideIt hd
  have HSZ : Hid (∀ W, (Tryz.prog.info? 121).map (·.size) = some (rowL 3 W).length) := fun W => row_sz (t := 3) (by omega) W
  clear h hI bB hK hz2 hun hd
  go_enter Tryz.func266, Tryz.ntmps266
  go_wp2_with fail
  generalize (w.alloc (.cells #[.int .u16 (i : Int), .int .u32 g] 32)).alloc (.cells #[.int .u64 0, .int .u16 0, .int .u16 0, .int .u16 0, .int .u32 0] 121) = w0 at *
  go_at_call 299
  refine (rowOf_walk3 HM.out HI.out.tb HK.out (Nat.lt_of_lt_of_le kl HB.out.size) i g c).mono ?_
  rintro e w1 ⟨hb1, hh⟩
  have HB1 := hideIt (Below.thr HB.out hb1)
  have HM1 := hideIt (HM.out.below hb1)
  have hz1 := (hb1.block (w.heap.size + 1) (heap_lt HZ2.out)).trans HZ2.out
  have HZ1 := hideIt hz1
  clear hb1 hz1
  rcases hh with ⟨hl, ht, r, er, r1, rfl⟩ | ⟨hl, v, code, rfl, hc, hv, hs⟩
  · have HRow := hideIt (HM1.out.row 3 (by omega) r r1)
    have hth := row_there (t := 3) (by omega) HZ1.out (ws 3 r)
    have HTh := hideIt (show w1.there (w.heap.size + 1) 0 (rowL 3 (ws 3 r)).toArray.size from by rw [List.size_toArray]; exact hth)
    have HS0 := hideIt (HSZ.out (ws 3 r))
    have H1 := hideIt (row_one 3 (ws 3 r))
    have hRow2 := World.rangeAt_setCells_same w1 (w.heap.size + 1) 0 (rowL 3 (ws 3 r)) hth
    have HLv := hideIt (loadVar_row (t := 3) (by omega) hRow2)
    have HF : Hid (RdPost 3 s ws i g w (.returned (.tuple #[.agg (rowL 3 (ws 3 r)).toArray, .nilIface])) (w1.setCells (w.heap.size + 1) 0 (rowL 3 (ws 3 r)))) := ⟨Below.cells HB1.out (by omega) _ _, Or.inl ⟨hl, ht, r, er, r1, rfl⟩⟩
    clear hl ht er r1 hth hRow2
    generalize hw2 : w1.setCells (w.heap.size + 1) 0 (rowL 3 (ws 3 r)) = w2 at *
    have HW2 := hideIt hw2
    clear hw2
    generalize rowL 3 (ws 3 r) = row at *
    generalize r * nC 3 = o at *
    go_wp2_with (first | (refine wpList_load_mid rfl 121 (.tmp 29) rfl (rb 3) o rfl row d HRow.out HUN.out HD.out HS0.out ?_) | (refine wpList_store_mid rfl 121 (.tmp 10) (.tmp 30) rfl (w.heap.size + 1) 0 row.toArray rfl rfl HTh.out (by rw [List.size_toArray]; exact HS0.out) (all_oneCell_toArray H1.out) ?_; rw [List.toList_toArray, HW2.out]))
    exact bodyPost_ret (results_two (by exact Tryz.results266) _ _ (w.heap.size + 1) _ _ (by rfl) (by rfl) HLv.out) rfl HF.out
  · obtain ⟨b, rfl, hbc⟩ := hv
    have hnew : (w1.alloc (.cells #[.int .u64 0, .int .u16 0, .int .u16 0, .int .u16 0, .int .u32 0] 121)).heap[w1.heap.size]? = some (.cells (zeT 3) 121 (0, 0)) := heap_new _ _
    have HRow := hideIt (zero_new (t := 3) (by omega) hnew)
    have hz3 : (w1.alloc (.cells #[.int .u64 0, .int .u16 0, .int .u16 0, .int .u16 0, .int .u32 0] 121)).heap[w.heap.size + 1]? = some (.cells (zeT 3) 121 (0, 0)) := (heap_alloc_old _ _ (heap_lt HZ1.out)).trans HZ1.out
    have hth := row_there (t := 3) (by omega) hz3 (fun _ => 0)
    have HTh := hideIt (show (w1.alloc (.cells #[.int .u64 0, .int .u16 0, .int .u16 0, .int .u16 0, .int .u32 0] 121)).there (w.heap.size + 1) 0 (rowL 3 (fun _ => 0)).toArray.size from by rw [List.size_toArray]; exact hth)
    have HS0 := hideIt (HSZ.out (fun _ => 0))
    have H1 := hideIt (row_one 3 (fun _ => 0))
    have hRow2 := World.rangeAt_setCells_same (w1.alloc (.cells #[.int .u64 0, .int .u16 0, .int .u16 0, .int .u16 0, .int .u32 0] 121)) (w.heap.size + 1) 0 (rowL 3 (fun _ => 0)) hth
    have HLv := hideIt (loadVar_row (t := 3) (by omega) hRow2)
    have hb2 : b ≠ w.heap.size + 1 := fun e => by
      subst e
      have := hbc
      rw [zero_new (t := 3) (by omega) HZ1.out 0 _ rfl] at this
      cases this
    have hbc2 : ((w1.alloc (.cells #[.int .u64 0, .int .u16 0, .int .u16 0, .int .u16 0, .int .u32 0] 121)).setCells (w.heap.size + 1) 0 (rowL 3 (fun _ => 0))).cell? ⟨b, 0, none⟩ = some (.int .u8 code) := by
      rw [World.cell?_setCells_out _ _ _ _ _ (fun q _ => absurd q hb2)]
      exact ((alloc_below (w := w1) _).cell (p := ⟨b, 0, none⟩) (cell_lt hbc)).trans hbc
    have HF : Hid (RdPost 3 s ws i g w (.returned (.tuple #[.agg (rowL 3 (fun _ => 0)).toArray, .iface 212 (.pointer (some ⟨b, 0, none⟩))])) ((w1.alloc (.cells #[.int .u64 0, .int .u16 0, .int .u16 0, .int .u16 0, .int .u32 0] 121)).setCells (w.heap.size + 1) 0 (rowL 3 (fun _ => 0)))) := ⟨Below.cells (Below.thr HB1.out (alloc_below _)) (by omega) _ _, Or.inr ⟨hl, _, code, rfl, hc, ⟨b, rfl, hbc2⟩, hs⟩⟩
    clear hl hbc hbc2 hb2 hs hc hth hRow2 hnew hz3
    generalize hw2 : (w1.alloc (.cells #[.int .u64 0, .int .u16 0, .int .u16 0, .int .u16 0, .int .u32 0] 121)).setCells (w.heap.size + 1) 0 (rowL 3 (fun _ => 0)) = w2 at *
    have HW2 := hideIt hw2
    clear hw2
    generalize rowL 3 (fun _ => 0) = row at *
    go_wp2_with (first | (refine wpList_load_mid rfl 121 (.tmp 14) rfl w1.heap.size 0 rfl row d HRow.out HUN.out HD.out HS0.out ?_) | (refine wpList_store_mid rfl 121 (.tmp 10) (.tmp 26) rfl (w.heap.size + 1) 0 row.toArray rfl rfl HTh.out (by rw [List.size_toArray]; exact HS0.out) (all_oneCell_toArray H1.out) ?_; rw [List.toList_toArray, HW2.out]))
    exact bodyPost_ret (results_two (by exact Tryz.results266) _ _ (w.heap.size + 1) _ _ (by rfl) (by rfl) HLv.out) rfl HF.out
set_option maxHeartbeats 8000000 in
theorem write_walk3 (h : Ms w A rb sb s tl ws) (hI : IV s tl L n) (hW : Wr ws) (hK : Kd w) (kl : 1 < w.heap.size) (i : Nat) (g : Int) (c : ByteArray) (V : Nat) (W : Nat → Int) (q : Bool) (hV : w.rangeAt V 0 (rowL 3 W)) (hw0 : Wt 3 W) (hq : q = true ↔ Wc 3 W) :
    Calls Tryz.prog 267 #[.pointer (some ⟨A, 0, none⟩), .pointer (some ⟨A, 2892, none⟩), .string c, .agg #[.int .u16 (i : Int), .int .u32 g], .int .u8 5, .pointer (some ⟨V, 0, none⟩), .bool q] w (MrPost A rb sb s tl ws (updS s ws i g 3 (fun _ => W)) w) := by
  have bB := alloc_below (w := w) (.cells #[.int .u16 (i : Int), .int .u32 g] 32)
  have hz : (w.alloc (.cells #[.int .u16 (i : Int), .int .u32 g] 32)).heap[w.heap.size]? = some (.cells #[.int .u16 (i : Int), .int .u32 g] 32 (0, 0)) := heap_new _ _
  have hVl : V < w.heap.size := by
    obtain ⟨v, hv⟩ := Option.isSome_iff_exists.1 (hV.isSome 0 (by rw [rowL_len]; decide))
    exact cell_lt hv
  have HM := hideIt (h.below bB)
  have HB := hideIt bB
  have HI := hideIt hI
  have HW : Hid (Wr ws) := hW
  have HQ : Hid (q = true ↔ Wc 3 W) := hq
  have HW0 : Hid (Wt 3 W) := hw0
  have HV := hideIt hV
  have HK : Hid (Kd (w.alloc (.cells #[.int .u16 (i : Int), .int .u32 g] 32))) := hK.below bB kl
  have HZ := hideIt hz
  obtain ⟨d, hun, hd⟩ := row_un (t := 3) (by omega)
  have HUN : Hid (Tryz.prog.underlying 121 = some d) := hun
  have HD := hideIt hd
  have HSZ : Hid (∀ W, (Tryz.prog.info? 121).map (·.size) = some (rowL 3 W).length) := fun W => row_sz (t := 3) (by omega) W
  clear h hI bB hK hz hun hd hW hq hV hw0
  go_enter Tryz.func267, Tryz.ntmps267
  go_wp2_with fail
  generalize w.alloc (.cells #[.int .u16 (i : Int), .int .u32 g] 32) = w0 at *
  go_at_call 299
  refine (rowOf_walk3 HM.out HI.out.tb HK.out (Nat.lt_of_lt_of_le kl HB.out.size) i g c).mono ?_
  rintro e w1 ⟨hb1, hh⟩
  have HB1 := hideIt (Below.thr HB.out hb1)
  have HM1 := hideIt (HM.out.below hb1)
  have hz1 := (hb1.block w.heap.size (heap_lt HZ.out)).trans HZ.out
  obtain ⟨z0, z1, _, _⟩ := two_cells hz1
  have HV1 : Hid (w1.rangeAt V 0 (rowL 3 W)) := fun j v hv => (HB1.out.cell (p := ⟨V, 0 + j, none⟩) hVl).trans (HV.out j v hv)
  clear hb1 hz1
  rcases hh with ⟨hl, ht, r, er, r1, rfl⟩ | ⟨hl, v, code, rfl, hc, hv, hs⟩
  · have HL := hideIt hl
    have HR1 : Hid (r < nR 3) := r1
    have HET : Hid ((s.hd i).typ = ((3 + 2 : Nat) : Int)) := ht
    have HER : Hid ((s.hd i).row = (r : Int)) := er
    clear hl ht er r1
    cases q
    · go_wp2_with (go_at_call 123; refine (refuse_walk _ _ _ _ _ _).mono ?_; rintro e w5 ⟨v5, rfl, hv5, hb5⟩; have HF : Hid (MrPost A rb sb s tl ws (updS s ws i g 3 (fun _ => W)) w (.returned v5) w5) := MrPost.err (updS_bad HL.out HET.out HER.out (fun k => absurd (HQ.out.2 k) (by simp))) ⟨hv5, by omega, Below.thr HB1.out hb5⟩; clear hv5 hb5)
      exact bodyPost_ret (by simp [results, Tryz.results267]) rfl HF.out
    · have hth4 : w1.there (rb 3) (r * nC 3) (nC 3) := fun j hj => ⟨(HM1.out.row 3 (by omega) r HR1.out).isSome j (by rw [rowL_len]; exact hj), HM1.out.rfz 3 (by omega) _⟩
      have hnn : (rowL 3 W).toArray.size = nC 3 := by rw [List.size_toArray, rowL_len]
      have HTh4 := hideIt (show w1.there (rb 3) (r * nC 3) (rowL 3 W).toArray.size from by rw [hnn]; exact hth4)
      have hsame := World.rangeAt_setCells_same w1 (rb 3) (r * nC 3) (rowL 3 W) (by rw [rowL_len]; exact hth4)
      have hmany := St1.many w1 (rb 3) (r * nC 3) (rowL 3 W)
      rw [rowL_len] at hmany
      have HF : Hid (MrPost A rb sb s tl ws (updS s ws i g 3 (fun _ => W)) w (.returned .nilIface) (w1.setCells (rb 3) (r * nC 3) (rowL 3 W))) := row_suc HB1.out HM1.out HI.out HW.out HL.out.1 (by omega) HET.out HER.out HR1.out hmany hsame ⟨HW0.out, HQ.out.1 rfl⟩ (updS_ok HL.out HET.out HER.out (HQ.out.1 rfl))
      have HS4 := hideIt (HSZ.out W)
      have H14 := hideIt (row_one 3 W)
      clear hsame hmany hth4 hnn
      generalize hw5 : w1.setCells (rb 3) (r * nC 3) (rowL 3 W) = w5 at *
      have HW5 := hideIt hw5
      clear hw5
      generalize rowL 3 W = row' at *
      generalize r * nC 3 = o at *
      go_wp2_with (first | (refine wpList_load_mid rfl 121 (.tmp 36) rfl V 0 rfl row' d HV1.out HUN.out HD.out HS4.out ?_) | (refine wpList_store_mid rfl 121 (.tmp 38) (.tmp 37) rfl (rb 3) o row'.toArray rfl rfl HTh4.out (by rw [List.size_toArray]; exact HS4.out) (all_oneCell_toArray H14.out) ?_; rw [List.toList_toArray, HW5.out]))
      exact bodyPost_ret (by simp [results, Tryz.results267]) rfl HF.out
  · have HF : Hid (MrPost A rb sb s tl ws (updS s ws i g 3 (fun _ => W)) w (.returned v) w1) := MrPost.err ((updS_err hl).trans (by rw [← hs])) ⟨hv, hc, HB1.out⟩
    obtain ⟨b, rfl, hbc⟩ := hv
    clear hbc hl hs
    go_wp2_with fail
    exact bodyPost_ret (by simp [results, Tryz.results267]) rfl HF.out
set_option maxHeartbeats 8000000 in
theorem fill_walk3 {B o N gb go cap : Nat} (hN : w.heap[N]? = some (.cells (zeT 3) 121 (0, 0))) (hT : w.there B o (nC 3)) (hBN : B ≠ N) {X : Nat → Nat} (hX : Words w gb go (nF 3) X) (hgN : gb ≠ N) (hc : nF 3 ≤ cap) :
    Calls Tryz.prog 186 #[.pointer (some ⟨B, o, none⟩), .pointer (some ⟨N, 0, none⟩), .slice (some ⟨gb, go, none⟩) 4 cap] w (FlPost 3 B o N X w) := by
  have HN := hideIt (zero_new (t := 3) (by omega) hN)
  have HF0 : Hid (∀ q, w.frozen? ⟨N, q, none⟩ = false) := fun q => by
    unfold World.frozen?
    rw [show w.heap[(⟨N, q, none⟩ : Addr).block]? = some (.cells (zeT 3) 121 (0, 0)) from hN]
    simp
  have lN : N < w.heap.size := heap_lt hN
  have lB : B < w.heap.size := by
    obtain ⟨v, hv⟩ := Option.isSome_iff_exists.1 (hT 0 (by decide)).1
    exact cell_lt hv
  have lg : gb < w.heap.size := by
    obtain ⟨_, hx⟩ := hX 0 (by decide)
    exact cell_lt hx
  have HT : Hid (w.there B o (nC 3)) := hT
  have HX : Hid (Words w gb go (nF 3) X) := hX
  have mS := @meth_store 3 (by omega)
  have eS := @ent_store 3 (by omega)
  obtain ⟨d, hun, hd⟩ := row_un (t := 3) (by omega)
  have HUN : Hid (Tryz.prog.underlying 121 = some d) := hun
  have HD := hideIt hd
  have HSZ : Hid (∀ W, (Tryz.prog.info? 121).map (·.size) = some (rowL 3 W).length) := fun W => row_sz (t := 3) (by omega) W
  have hcap : 4 ≤ cap := hc
  clear hN hT hX hun hd hc
  go_enter Tryz.func186, Tryz.ntmps186
  go_wp2_with fail
  go_loopw [11] (fun v11 wr => ∃ (k : Nat), k ≤ 4 ∧ v11 = .int .i64 (k : Int) ∧ (∀ f, f < k → fOk 3 f (X f : Int)) ∧ St1 N 0 (nC 3) w wr ∧ wr.rangeAt N 0 (rowL 3 (cut X k))) (fun v11 _ => 4 - (intOf v11).toNat)
  case atStart => exact ⟨0, by omega, rfl, fun f hf => absurd hf (by omega), ⟨Ext.refl _ _ _, fun _ _ => rfl, fun _ => rfl⟩, by rw [cut_zero]; exact HN.out⟩
  case round =>
    clear HN
    obtain ⟨k, hk, rfl, hq, hs, hr⟩ := hrel
    have HQ : Hid (∀ f, f < k → fOk 3 f (X f : Int)) := hq
    have HS := hideIt hs
    have HR := hideIt hr
    by_cases hlt : k < 4
    · have hlt' : (k : Int) < 4 := by omega
      obtain ⟨x1, x2⟩ := (HX.out.ext hs.ext lg hgN) k hlt
      have HCS := hideIt (cut_step X k)
      generalize hx : X k = x at *
      have HXE := hideIt hx
      clear hx
      have HSt := hideIt (store_any (t := 3) (f := k) (by omega) hr (fun q => (hs.frz q).trans (HF0.out q)) x x1 hlt)
      clear hq hs hr
      go_wp2_with fail
      refine HSt.out.mono ?_
      rintro e w3 (⟨h1, rfl, hb3⟩ | ⟨h1, rfl, h3, h4⟩)
      · have HF : Hid (FlPost 3 B o N X w (.returned (.bool false)) w3) := Or.inl ⟨⟨k, hlt, by rw [HXE.out]; exact h1⟩, rfl, HS.out.ext.trans (Ext.of_below hb3 _) HS.out.ext.size (fun _ _ q => q)⟩
        clear hb3 x2 h1
        go_wp2_with fail
        exact bodyPost_ret (by simp [results, Tryz.results186]) rfl HF.out
      · have HP : Hid ((∀ f, f < k + 1 → fOk 3 f (X f : Int)) ∧ St1 N 0 (nC 3) w w3 ∧ w3.rangeAt N 0 (rowL 3 (cut X (k + 1)))) := ⟨fun f hf => by
          by_cases e : f = k
          · rw [e, HXE.out]; exact h1
          · exact HQ.out f (by omega), HS.out.trans h3 (Nat.le_refl _) (Nat.le_refl _) (Nat.le_refl _) (Nat.le_refl _), by rw [← HCS.out]; exact h4⟩
        clear h1 h3 h4 x2
        go_wp2_with fail
        exact ⟨⟨k + 1, by omega, by go_num, HP.out.1, HP.out.2.1, HP.out.2.2⟩, by simp [intOf]; omega⟩
    · obtain rfl : k = 4 := by omega
      generalize hW : cut X 4 = W at *
      have hth : wr.there B o (rowL 3 W).toArray.size := fun j hj => by
        rw [List.size_toArray, rowL_len] at hj
        have := HT.out j hj
        exact ⟨by rw [hs.ext.cell (p := ⟨B, o + j, none⟩) lB hBN]; exact this.1, by rw [frz_ext' hs.ext lB hBN]; exact this.2⟩
      have HTh := hideIt hth
      have HS4 := hideIt (HSZ.out W)
      have H14 := hideIt (row_one 3 W)
      have HF : Hid (FlPost 3 B o N X w (.returned (.bool true)) (wr.setCells B o (rowL 3 W))) := Or.inr ⟨hq, rfl, wr, hs.ext, by rw [← hW]; rfl⟩
      clear hW
      clear hq hs hr hth
      generalize hw5 : wr.setCells B o (rowL 3 W) = w5 at *
      have HW5 := hideIt hw5
      clear hw5
      generalize rowL 3 W = row' at *
      go_wp2_with (first | (refine wpList_load_mid rfl 121 (.tmp 25) rfl N 0 rfl row' d HR.out HUN.out HD.out HS4.out ?_) | (refine wpList_store_mid rfl 121 (.tmp 27) (.tmp 26) rfl B o row'.toArray rfl rfl HTh.out (by rw [List.size_toArray]; exact HS4.out) (all_oneCell_toArray H14.out) ?_; rw [List.toList_toArray, HW5.out]))
      exact bodyPost_ret (by simp [results, Tryz.results186]) rfl HF.out
end
end Go.Proofs.Qxb6500847aGreatDoor.Os
