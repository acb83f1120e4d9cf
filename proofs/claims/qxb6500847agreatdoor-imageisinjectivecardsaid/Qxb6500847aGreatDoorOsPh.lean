/-
  Load, LoadAll.
-/
import Derived.Test.Qxb6500847aGreatDoorOsPg
import Derived.Test.Qxb6500847aGreatDoorOxB
import Derived.Test.Qxb6500847aGreatDoorFloorG
namespace Go.Proofs.Qxb6500847aGreatDoor.Os
open Go.RowKit FloorA
set_option maxRecDepth 100000
theorem inf34 : (Tryz.prog.info? 34).map (fun i => (i.zero, i.size, i.bytes)) = some (some (.int .u64 0), 1, 8) := by kernel_rfl
section
variable {A : Nat} {rb sb : Nat → Nat} {s : Av} {tl : Nat → List Int} {ws : Nat → Nat → Nat → Int} {w : World} {L : Nat → List Nat} {n : Nat}
def LoPost (X : Rs) (w : World) (e : Ending) (w' : World) : Prop :=
  (∃ v c, X = bad c ∧ e = .returned (.tuple #[.int .u64 0, v]) ∧ Refu w v w' c) ∨ (∃ x, X = ⟨0, [], [x]⟩ ∧ e = .returned (.tuple #[.int .u64 x, .nilIface]) ∧ Below w.heap.size w w')
set_option maxHeartbeats 4000000 in
theorem Load_walk (h : Ms w A rb sb s tl ws) (hI : IV s tl L n) (hW : Wr ws) (hK : Kd w) (kl : 1 < w.heap.size) (i : Nat) (g : Int) (f : Nat) (hf : f < 65536) :
    Calls Tryz.prog 60 #[.pointer (some ⟨A, 0, none⟩), .agg #[.int .u16 (i : Int), .int .u32 g], .int .i64 (f : Int)] w (LoPost (loaX (ob s ws) i g f) w) := by
  have bB := alloc_below (w := w) (.cells #[.int .u16 (i : Int), .int .u32 g] 32)
  have hz : (w.alloc (.cells #[.int .u16 (i : Int), .int .u32 g] 32)).heap[w.heap.size]? = some (.cells #[.int .u16 (i : Int), .int .u32 g] 32 (0, 0)) := heap_new _ _
  have HM := hideIt (h.below bB)
  have HB := hideIt bB
  have HI := hideIt hI
  have HW : Hid (Wr ws) := hW
  have HK : Hid (Kd w) := hK
  clear h hI bB hW hK
  go_enter Tryz.func60, Tryz.ntmps60
  go_wp2_with fail
  go_at_call 98
  refine (resolve_walk HM.out.am i g _).mono ?_
  rintro e w1 ⟨hb1, hh⟩
  have HB1 := hideIt (Below.thr HB.out hb1)
  have HM1 := hideIt (HM.out.below hb1)
  have l0 : w.heap.size < w1.heap.size := Nat.lt_of_lt_of_le (heap_lt hz) hb1.size
  obtain ⟨x0, x1, _, _⟩ := two_cells ((hb1.block w.heap.size (heap_lt hz)).trans hz)
  clear hb1 hz
  rcases hh with ⟨hl, rfl⟩ | ⟨hl, v0, rfl, hv0⟩
  · have HL := hideIt hl
    have htc := HM1.out.am.typ hl.1
    obtain ⟨k, ek, k7, kk⟩ := HI.out.ge.typ i hl.1
    have k8 : (k : Int) < 8 := by omega
    obtain ⟨_, _, hkf⟩ := HK.out.below HB1.out kl k (by omega)
    rw [ek] at htc
    have HEK := hideIt ek
    clear hl kk ek
    by_cases hfk : f < kFlds k
    · have k2 : 2 ≤ k := by
        rcases Nat.lt_or_ge k 2 with q | q
        · have : k = 0 ∨ k = 1 := by omega
          rcases this with rfl | rfl
          · exact absurd hfk (Nat.not_lt_zero f)
          · exact absurd hfk (Nat.not_lt_zero f)
        · exact q
      obtain ⟨t, rfl⟩ : ∃ t, k = t + 2 := ⟨k - 2, by omega⟩
      have t6 : t < 6 := by omega
      have hfn : f < nF t := by rw [← nF_k t6]; exact hfk
      obtain ⟨r, er, r1, _⟩ := HI.out.tb.row i (t + 2) HL.out.1 (by omega) k7 HEK.out
      have HP := hideIt (payloadOf_walk HM1.out HL.out.1 t6 HEK.out er r1)
      have HR1 : Hid (r < nR t) := r1
      have HX := hideIt (loaX_ok (ws := ws) HL.out hfn HEK.out er)
      have HFN := hideIt hfn
      have mS := @meth_load t t6
      have eS := @ent_load t t6
      have c1 : ¬ (f : Int) ≥ (kFlds (t + 2) : Int) := by omega
      generalize kFlds (t + 2) = kf at *
      clear er r1 hfn hfk
      go_wp2_with fail
      go_at_call 119
      refine HP.out.mono ?_
      rintro e w2 ⟨rfl, hb2⟩
      have HB2 := hideIt (Below.thr HB1.out hb2)
      have HS := hideIt (load_any t6 ((HM1.out.below hb2).row t t6 r HR1.out) (HW.out t r t6 HR1.out) HFN.out)
      clear hb2 x0 x1 htc hkf t6
      go_wp2_with fail
      refine HS.out.mono ?_
      rintro e w3 ⟨rfl, hb3⟩
      have HF : Hid (LoPost (loaX (ob s ws) i g f) w (.returned (.tuple #[.int .u64 (ws t r f), .nilIface])) w3) := Or.inr ⟨_, HX.out, rfl, Below.thr HB2.out hb3⟩
      clear hb3
      go_wp2_with fail
      exact bodyPost_ret (by simp [results, Tryz.results60]) rfl HF.out
    · have c1 : (f : Int) ≥ (kFlds k : Int) := by omega
      have HK1 : Hid (Kd w1.drew) := (show Kd w1 from HK.out.below HB1.out kl)
      have HX := hideIt (loaX_fld (ws := ws) HL.out (f := f) (by rw [wds_len HI.out HL.out.1 HEK.out]; omega))
      generalize kFlds k = kf at *
      go_wp2_with fail
      go_region_with (first | (go_at_call 133; refine (TypeName_walk HK1.out (t := k) (by omega)).mono ?_; rintro e w' ⟨⟨nm, nms, rfl⟩, hw'⟩; obtain rfl := hw'.symm) | (go_at_call 123; refine (refuse_walk _ _ _ _ _ _).mono ?_; rintro e w2 ⟨v2, rfl, hv2, hb2⟩))
      all_goals
        have HF : Hid (LoPost (loaX (ob s ws) i g f) w (.returned (.tuple #[.int .u64 0, v2])) w2) := Or.inl ⟨v2, _, HX.out, rfl, ⟨hv2, by omega, Below.thr (Below.thr HB1.out (below_d _)) hb2⟩⟩
        clear hv2 hb2
        go_wp2_with fail
        exact bodyPost_ret (by simp [results, Tryz.results60] <;> (first | rfl | exact ⟨rfl, rfl⟩)) rfl HF.out
  · obtain ⟨b, rfl, hbc⟩ := hv0
    have HF : Hid (LoPost (loaX (ob s ws) i g f) w (.returned (.tuple #[.int .u64 0, .iface 212 (.pointer (some ⟨b, 0, none⟩))])) w1) := Or.inl ⟨_, _, loaX_dead hl f, rfl, ⟨⟨b, rfl, hbc⟩, stale_ne i g, HB1.out⟩⟩
    clear hbc hl
    go_wp2_with fail
    exact bodyPost_ret (by simp [results, Tryz.results60]) rfl HF.out
def LaPost (X : Rs) (w : World) (e : Ending) (w' : World) : Prop :=
  (∃ v c, X = bad c ∧ e = .returned (.tuple #[.slice none 0 0, v]) ∧ Refu w v w' c) ∨ (∃ ad k c l, X = ⟨0, [], l⟩ ∧ e = .returned (.tuple #[.slice ad k c, .nilIface]) ∧ IsU w.heap.size w' (.slice ad k c) l ∧ Below w.heap.size w w')
theorem payloadOf_none (h : Ms w A rb sb s tl ws) {i : Nat} (hi : i < 320) (h1 : (s.hd i).typ = 1) :
    Calls Tryz.prog 119 #[.pointer (some ⟨A, 0, none⟩), .pointer (some ⟨A, i * 8, none⟩)] w fun e w' => e = .returned .nilIface ∧ w' = w := by
  have ht := h.am.typ hi
  rw [h1] at ht
  clear h h1
  go_enter Tryz.func119, Tryz.ntmps119
  go_wp2_with fail
  go_ret
  exact ⟨rfl, rfl⟩
theorem OwnK.keepB {k : IntKind} {t : TypeId} {base : Nat} {w w' : World} {v : Value} {bs : List Int} (h : OwnK k t base w v bs) (hb : Below w.heap.size w w') : OwnK k t base w' v bs := by
  refine ⟨h.1, ?_⟩
  rcases h.2 with hn | ⟨g, cap, cur, rfl, hbg, hgg, rest⟩
  · exact .inl hn
  · refine .inr ⟨g, cap, cur, rfl, hbg, ?_, rest⟩
    rw [hb.block g (h.lt g rfl).2]
    exact hgg
theorem OwnK.belowOf {k : IntKind} {ty base B : Nat} {w2 w3 : World} {v : Value} {bs : List Int} {o : Obj} (h : OwnK k ty base w2 v bs) (hg : (w2.alloc o).grownBy w3 v.ownBlock) (hB : B ≤ base) (hl : B ≤ w2.heap.size) : Below B w2 w3 := by
  have h1 : Below B w2 (w2.alloc o) := (Below.refl _ _).alloc hl o
  have h2 : Below B (w2.alloc o) w3 := ⟨hg.os, hg.tape, hg.output, hg.size, fun k' hk => hg.block k' (by simp; omega) (fun e => by
    have := h.above k' e.symm
    omega)⟩
  exact h1.trans h2
set_option maxHeartbeats 4000000 in
theorem LoadAll_walk (h : Ms w A rb sb s tl ws) (hI : IV s tl L n) (hW : Wr ws) (hK : Kd w) (kl : 1 < w.heap.size) (i : Nat) (g : Int) :
    Calls Tryz.prog 63 #[.pointer (some ⟨A, 0, none⟩), .slice none 0 0, .agg #[.int .u16 (i : Int), .int .u32 g]] w (LaPost (lalX (ob s ws) i g) w) := by
  obtain ⟨i0, hi0, hz0, hz1, hz2⟩ := info_parts inf34
  have bB := alloc_below (w := w) (.cells #[.int .u16 (i : Int), .int .u32 g] 32)
  have HM := hideIt (h.below bB)
  have HB := hideIt bB
  have HI := hideIt hI
  have HW : Hid (Wr ws) := hW
  have HK : Hid (Kd w) := hK
  clear h hI bB hW hK
  go_enter Tryz.func63, Tryz.ntmps63
  go_wp2_with fail
  go_at_call 98
  refine (resolve_walk HM.out.am i g _).mono ?_
  rintro e w1 ⟨hb1, hh⟩
  have HB1 := hideIt (Below.thr HB.out hb1)
  have HM1 := hideIt (HM.out.below hb1)
  clear hb1
  rcases hh with ⟨hl, rfl⟩ | ⟨hl, v0, rfl, hv0⟩
  · have HL := hideIt hl
    have il := hl.1
    obtain ⟨k, ek, k7, kk⟩ := HI.out.ge.typ i hl.1
    have k0 : k ≠ 0 := fun e => hl.2.2.1 (by rw [ek, e]; rfl)
    have k8 : (k : Int) < 8 := by omega
    have HK1 := hideIt (HK.out.below HB1.out kl)
    have HEK := hideIt ek
    have HCE : Hid (∀ w', Below w1.heap.size w1 w' → w'.cell? ⟨A, i * 8 + 1, none⟩ = some (.int .u8 (k : Int)) ∧ w'.cell? ⟨1, k * 4 + 3, none⟩ = some (.int .i64 (kFlds k : Int))) := fun w' b => ⟨by
      have := (HM1.out.below b).am.typ il
      rw [ek] at this
      exact this, (HK1.out.below b (by have := HB1.out.size; omega) k (by omega)).2.2⟩
    clear hl kk ek
    -- the payload, and what it answers
    obtain ⟨pv, hpv, hld⟩ : ∃ pv : Value, Calls Tryz.prog 119 #[.pointer (some ⟨A, 0, none⟩), .pointer (some ⟨A, i * 8, none⟩)] w1 (fun e w' => e = .returned pv ∧ Below w1.heap.size w1 w') ∧ ((k = 1 ∧ pv = .nilIface) ∨ ∃ t r, k = t + 2 ∧ t < 6 ∧ pv = .iface (ptT t) (.pointer (some ⟨rb t, r * nC t, none⟩)) ∧ r < nR t ∧ (s.hd i).row = (r : Int)) := by
      by_cases e1 : k = 1
      · subst e1
        exact ⟨.nilIface, (payloadOf_none HM1.out il HEK.out).mono (fun e w' q => ⟨q.1, by rw [q.2]; exact Below.refl _ _⟩), Or.inl ⟨rfl, rfl⟩⟩
      · obtain ⟨t, rfl⟩ : ∃ t, k = t + 2 := ⟨k - 2, by omega⟩
        obtain ⟨r, er, r1, _⟩ := HI.out.tb.row i (t + 2) il (by omega) k7 HEK.out
        exact ⟨_, payloadOf_walk HM1.out il (by omega) HEK.out er r1, Or.inr ⟨t, r, rfl, by omega, rfl, r1, er⟩⟩
    have HWL : Hid ((ob s ws i).wds.length = kFlds k) := wds_len HI.out il HEK.out
    have HP := hideIt hpv
    have HLD := hideIt hld
    have hk112 : kFlds k ≤ 112 := by unfold kFlds; split <;> omega
    clear hpv hld
    go_wp2_with fail
    go_at_call 119
    refine HP.out.mono ?_
    rintro e w2 ⟨rfl, hb2⟩
    have HB2 := hideIt hb2
    have HM2 := hideIt (HM1.out.below hb2)
    clear hb2 HP
    go_wp2_with fail
    go_loopw [1, 11] (fun v1 v11 wr => ∃ (j : Nat) (bs : List Int), v11 = .int .i64 (j : Int) ∧ j ≤ kFlds k ∧ bs = (ob s ws i).wds.take j ∧ OwnK .u64 34 w2.heap.size wr v1 bs ∧ Below w2.heap.size w2 wr) (fun _ v11 _ => kFlds k - (intOf v11).toNat)
    case atStart => exact ⟨0, [], rfl, Nat.zero_le _, List.take_zero.symm, ⟨rfl, Or.inl ⟨rfl, rfl⟩⟩, Below.refl _ _⟩
    case round =>
      obtain ⟨j, bs, rfl, hj, hbq, hown, hbw⟩ := hrel
      have hbs : bs.length = j := by rw [hbq, List.length_take, HWL.out]; omega
      have HBQ := hideIt hbq
      clear hbq
      have HO := hideIt hown
      have HBw := hideIt hbw
      obtain ⟨ad, cap, rfl⟩ := hown.shape
      obtain ⟨e1, e2⟩ := HCE.out wr (Below.thr HB2.out hbw)
      have hsz : w2.heap.size ≤ wr.heap.size := hbw.size
      have HBS := hideIt hbs
      by_cases hlt : j < kFlds k
      · have hlt' : (j : Int) < (kFlds k : Int) := by omega
        obtain ⟨t, r, rfl, t6, rfl, r1, er⟩ := HLD.out.resolve_left (fun q => by
          rw [q.1] at hlt
          exact absurd hlt (Nat.not_lt_zero j))
        have mS := @meth_load t t6
        have eS := @ent_load t t6
        have HS := hideIt (load_any t6 ((HM2.out.below hbw).row t t6 r r1) (HW.out t r t6 r1) (f := j) (by rw [← nF_k t6]; exact hlt))
        have hbl : bs.length ≤ 112 := by omega
        have HTK : Hid ((ob s ws i).wds.take (j + 1) = bs ++ [ws t r j]) := by
          show (ob s ws i).wds.take (j + 1) = bs ++ [ws t r j]
          rw [HBQ.out, wds_obj il HEK.out er, List.take_add_one, wlist_at _ _ (by rw [← nF_k t6]; exact hlt)]
          rfl
        clear hown hbw t6 r1 hbs er
        go_wp2_with fail
        refine HS.out.mono ?_
        rintro e w3 ⟨rfl, hb3⟩
        have HO3 := hideIt (OwnK.keepB HO.out hb3)
        have HB3 := hideIt (HBw.out.trans (hb3.mono hsz))
        have hsz3 : w2.heap.size ≤ w3.heap.size := Nat.le_trans hsz hb3.size
        clear hb3
        go_wp2_with ((at_builtin; refine wpList_append_own_at _ rfl (.tmp 36) (.tmp 40) 35 rfl w2.heap.size 34 i0 (.int .u64 0) 1 8 Tryz.underlying35 hi0 hz0 hz1 hz2 rfl (by decide) _ _ _ rfl (HO3.out.alloc _) ⟨w3.heap.size, 0, none⟩ 1 1 [.int .u64 (ws t r j)] rfl rfl (new_one w3 _ rfl _ _) (ones _ _) (by unfold maxLen; omega) (by omega) (by simp; omega) ?_; intro b1 w4 hown1 hgrow1 _ hwh1))
        obtain ⟨o1, _⟩ := OwnK.app (xs := [ws t r j]) hown1 rfl hgrow1 hwh1
        have hb4 := HB3.out.trans (OwnK.belowOf HO3.out hgrow1 (Nat.le_refl _) hsz3)
        exact ⟨⟨j + 1, bs ++ [ws t r j], by go_num, by omega, HTK.out.symm, o1, hb4⟩, by simp [intOf]; omega⟩
      · have hnl : ¬ (j : Int) < (kFlds k : Int) := by omega
        have hfull : bs = (ob s ws i).wds := by rw [HBQ.out]; exact List.take_of_length_le (by rw [HWL.out]; omega)
        have HF : Hid (LaPost (lalX (ob s ws) i g) w (.returned (.tuple #[.slice ad bs.length cap, .nilIface])) wr) := Or.inr ⟨_, _, _, bs, (lalX_ok HL.out).trans (by rw [hfull]), rfl, (IsU.of_own hown).mono (Nat.le_trans HB1.out.size HB2.out.size), Below.thr HB1.out (Below.thr HB2.out hbw)⟩
        clear hfull HBQ
        clear hown hbw hbs
        generalize bs.length = bl at *
        go_wp2_with fail
        exact bodyPost_ret (by simp [results, Tryz.results63]) rfl HF.out
  · obtain ⟨b, rfl, hbc⟩ := hv0
    have HF : Hid (LaPost (lalX (ob s ws) i g) w (.returned (.tuple #[.slice none 0 0, .iface 212 (.pointer (some ⟨b, 0, none⟩))])) w1) := Or.inl ⟨_, _, lalX_dead hl, rfl, ⟨⟨b, rfl, hbc⟩, stale_ne i g, HB1.out⟩⟩
    clear hbc hl
    go_wp2_with fail
    exact bodyPost_ret (by simp [results, Tryz.results63]) rfl HF.out
end
end Go.Proofs.Qxb6500847aGreatDoor.Os
