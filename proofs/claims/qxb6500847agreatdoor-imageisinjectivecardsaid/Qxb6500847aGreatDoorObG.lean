/-
  LoadAll: the words lie in a block of their own.
-/
import Derived.Test.Qxb6500847aGreatDoorOsPh
import Derived.Test.Qxb6500847aGreatDoorMdA
namespace Go.Proofs.Qxb6500847aGreatDoor.Os
open Go.RowKit FloorA
set_option maxRecDepth 100000
section
variable {A : Nat} {rb sb : Nat → Nat} {s : Av} {tl : Nat → List Int} {ws : Nat → Nat → Nat → Int} {w : World} {L : Nat → List Nat} {n : Nat}
theorem OwnK.lower {k : IntKind} {t : TypeId} {base base' : Nat} {w : World} {v : Value} {bs : List Int} (h : OwnK k t base w v bs) (hb : base' ≤ base) : OwnK k t base' w v bs := ⟨h.1, h.2.imp id (fun ⟨g, cap, cur, e1, e2, rest⟩ => ⟨g, cap, cur, e1, Nat.le_trans hb e2, rest⟩)⟩
/-- The words as an entry's. -/
theorem OwnK.wdv {base : Nat} {w : World} {v : Value} {l : List Int} (h : OwnK .u64 34 base w v l) : ∃ g, WdV w g l v ∧ (l ≠ [] → base ≤ g ∧ g < w.heap.size) := by
  obtain ⟨ad, cap, e⟩ := h.shape
  by_cases q : l = []
  · exact ⟨0, Or.inl ⟨q, ad, cap, by rw [e, q]; rfl⟩, fun z => absurd q z⟩
  · rcases h.2 with ⟨e1, e2⟩ | ⟨g, c, cur, e1, e2, e3, e4, e5, e6, e7⟩
    · exact absurd (List.length_eq_zero_iff.1 (by simpa using e2)) q
    · refine ⟨g, Or.inr ⟨q, c, by rw [e1], by simpa using e4, e5, fun j u hu => ?_, fun o => by simp [World.frozen?, e3]⟩, fun _ => ⟨e2, heap_lt e3⟩⟩
      have := World.ownsRow.cells h (g := g) (by rw [e1]; rfl) j u hu
      have ead : (⟨g, 0, none⟩ : Addr).add j = ⟨g, 0 + j, none⟩ := by unfold Addr.add; by_cases e : j = 0 <;> simp [e]
      rwa [ead] at this
set_option maxHeartbeats 4000000 in
theorem LoadAll_own (h : Ms w A rb sb s tl ws) (hI : IV s tl L n) (hW : Wr ws) (hK : Kd w) (kl : 1 < w.heap.size) (i : Nat) (g : Int) (hlv : Live s i g) :
    Calls Tryz.prog 63 #[.pointer (some ⟨A, 0, none⟩), .slice none 0 0, .agg #[.int .u16 (i : Int), .int .u32 g]] w (fun e w' => ∃ v, e = .returned (.tuple #[v, .nilIface]) ∧ OwnK .u64 34 w.heap.size w' v (ob s ws i).wds ∧ Below w.heap.size w w') := by
  obtain ⟨i0, hi0, hz0, hz1, hz2⟩ := info_parts inf34
  have bB := alloc_below (w := w) (.cells #[.int .u16 (i : Int), .int .u32 g] 32)
  have HM := hideIt (h.below bB)
  have HB := hideIt bB
  have HI := hideIt hI
  have HW : Hid (Wr ws) := hW
  have HK : Hid (Kd w) := hK
  have HLV : Hid (Live s i g) := hlv
  clear h hI bB hW hK hlv
  go_enter Tryz.func63, Tryz.ntmps63
  go_wp2_with fail
  go_at_call 98
  refine (resolve_walk HM.out.am i g _).mono ?_
  rintro e w1 ⟨hb1, hh⟩
  have HB1 := hideIt (Below.thr HB.out hb1)
  have HM1 := hideIt (HM.out.below hb1)
  clear hb1
  rcases hh with ⟨hl, rfl⟩ | ⟨hl, v0, rfl, hv0⟩
  · have HL := hideIt hl
    have il := hl.1
    obtain ⟨k, ek, k7, kk⟩ := HI.out.ge.typ i hl.1
    have k0 : k ≠ 0 := fun e => hl.2.2.1 (by rw [ek, e]; rfl)
    have k8 : (k : Int) < 8 := by omega
    have HK1 := hideIt (HK.out.below HB1.out kl)
    have HEK := hideIt ek
    have HCE : Hid (∀ w', Below w1.heap.size w1 w' → w'.cell? ⟨A, i * 8 + 1, none⟩ = some (.int .u8 (k : Int)) ∧ w'.cell? ⟨1, k * 4 + 3, none⟩ = some (.int .i64 (kFlds k : Int))) := fun w' b => ⟨by
      have := (HM1.out.below b).am.typ il
      rw [ek] at this
      exact this, (HK1.out.below b (by have := HB1.out.size; omega) k (by omega)).2.2⟩
    clear hl kk ek
    -- the payload, and what it answers
    obtain ⟨pv, hpv, hld⟩ : ∃ pv : Value, Calls Tryz.prog 119 #[.pointer (some ⟨A, 0, none⟩), .pointer (some ⟨A, i * 8, none⟩)] w1 (fun e w' => e = .returned pv ∧ Below w1.heap.size w1 w') ∧ ((k = 1 ∧ pv = .nilIface) ∨ ∃ t r, k = t + 2 ∧ t < 6 ∧ pv = .iface (ptT t) (.pointer (some ⟨rb t, r * nC t, none⟩)) ∧ r < nR t ∧ (s.hd i).row = (r : Int)) := by
      by_cases e1 : k = 1
      · subst e1
        exact ⟨.nilIface, (payloadOf_none HM1.out il HEK.out).mono (fun e w' q => ⟨q.1, by rw [q.2]; exact Below.refl _ _⟩), Or.inl ⟨rfl, rfl⟩⟩
      · obtain ⟨t, rfl⟩ : ∃ t, k = t + 2 := ⟨k - 2, by omega⟩
        obtain ⟨r, er, r1, _⟩ := HI.out.tb.row i (t + 2) il (by omega) k7 HEK.out
        exact ⟨_, payloadOf_walk HM1.out il (by omega) HEK.out er r1, Or.inr ⟨t, r, rfl, by omega, rfl, r1, er⟩⟩
    have HWL : Hid ((ob s ws i).wds.length = kFlds k) := wds_len HI.out il HEK.out
    have HP := hideIt hpv
    have HLD := hideIt hld
    have hk112 : kFlds k ≤ 112 := by unfold kFlds; split <;> omega
    clear hpv hld
    go_wp2_with fail
    go_at_call 119
    refine HP.out.mono ?_
    rintro e w2 ⟨rfl, hb2⟩
    have HB2 := hideIt hb2
    have HM2 := hideIt (HM1.out.below hb2)
    clear hb2 HP
    go_wp2_with fail
    go_loopw [1, 11] (fun v1 v11 wr => ∃ (j : Nat) (bs : List Int), v11 = .int .i64 (j : Int) ∧ j ≤ kFlds k ∧ bs = (ob s ws i).wds.take j ∧ OwnK .u64 34 w2.heap.size wr v1 bs ∧ Below w2.heap.size w2 wr) (fun _ v11 _ => kFlds k - (intOf v11).toNat)
    case atStart => exact ⟨0, [], rfl, Nat.zero_le _, List.take_zero.symm, ⟨rfl, Or.inl ⟨rfl, rfl⟩⟩, Below.refl _ _⟩
    case round =>
      obtain ⟨j, bs, rfl, hj, hbq, hown, hbw⟩ := hrel
      have hbs : bs.length = j := by rw [hbq, List.length_take, HWL.out]; omega
      have HBQ := hideIt hbq
      clear hbq
      have HO := hideIt hown
      have HBw := hideIt hbw
      obtain ⟨ad, cap, rfl⟩ := hown.shape
      obtain ⟨e1, e2⟩ := HCE.out wr (Below.thr HB2.out hbw)
      have hsz : w2.heap.size ≤ wr.heap.size := hbw.size
      have HBS := hideIt hbs
      by_cases hlt : j < kFlds k
      · have hlt' : (j : Int) < (kFlds k : Int) := by omega
        obtain ⟨t, r, rfl, t6, rfl, r1, er⟩ := HLD.out.resolve_left (fun q => by
          rw [q.1] at hlt
          exact absurd hlt (Nat.not_lt_zero j))
        have mS := @meth_load t t6
        have eS := @ent_load t t6
        have HS := hideIt (load_any t6 ((HM2.out.below hbw).row t t6 r r1) (HW.out t r t6 r1) (f := j) (by rw [← nF_k t6]; exact hlt))
        have hbl : bs.length ≤ 112 := by omega
        have HTK : Hid ((ob s ws i).wds.take (j + 1) = bs ++ [ws t r j]) := by
          show (ob s ws i).wds.take (j + 1) = bs ++ [ws t r j]
          rw [HBQ.out, wds_obj il HEK.out er, List.take_add_one, wlist_at _ _ (by rw [← nF_k t6]; exact hlt)]
          rfl
        clear hown hbw t6 r1 hbs er
        go_wp2_with fail
        refine HS.out.mono ?_
        rintro e w3 ⟨rfl, hb3⟩
        have HO3 := hideIt (OwnK.keepB HO.out hb3)
        have HB3 := hideIt (HBw.out.trans (hb3.mono hsz))
        have hsz3 : w2.heap.size ≤ w3.heap.size := Nat.le_trans hsz hb3.size
        clear hb3
        go_wp2_with ((at_builtin; refine wpList_append_own_at _ rfl (.tmp 36) (.tmp 40) 35 rfl w2.heap.size 34 i0 (.int .u64 0) 1 8 Tryz.underlying35 hi0 hz0 hz1 hz2 rfl (by decide) _ _ _ rfl (HO3.out.alloc _) ⟨w3.heap.size, 0, none⟩ 1 1 [.int .u64 (ws t r j)] rfl rfl (new_one w3 _ rfl _ _) (ones _ _) (by unfold maxLen; omega) (by omega) (by simp; omega) ?_; intro b1 w4 hown1 hgrow1 _ hwh1))
        obtain ⟨o1, _⟩ := OwnK.app (xs := [ws t r j]) hown1 rfl hgrow1 hwh1
        have hb4 := HB3.out.trans (OwnK.belowOf HO3.out hgrow1 (Nat.le_refl _) hsz3)
        exact ⟨⟨j + 1, bs ++ [ws t r j], by go_num, by omega, HTK.out.symm, o1, hb4⟩, by simp [intOf]; omega⟩
      · have hnl : ¬ (j : Int) < (kFlds k : Int) := by omega
        have hfull : bs = (ob s ws i).wds := by rw [HBQ.out]; exact List.take_of_length_le (by rw [HWL.out]; omega)
        have HF : Hid (∃ v, Ending.returned (.tuple #[.slice ad bs.length cap, .nilIface]) = .returned (.tuple #[v, .nilIface]) ∧ OwnK .u64 34 w.heap.size wr v (ob s ws i).wds ∧ Below w.heap.size w wr) := ⟨_, rfl, hfull ▸ OwnK.lower hown (Nat.le_trans HB1.out.size HB2.out.size), Below.thr HB1.out (Below.thr HB2.out hbw)⟩
        clear hfull HBQ
        clear hown hbw hbs
        generalize bs.length = bl at *
        go_wp2_with fail
        exact bodyPost_ret (by simp [results, Tryz.results63]) rfl HF.out
  · exact absurd HLV.out hl
end
end Go.Proofs.Qxb6500847aGreatDoor.Os
