/-
  Children, exactly.
-/
import Derived.Test.Qxb6500847aGreatDoorOxQc
import Derived.Test.Qxb6500847aGreatDoorOxC
import Derived.Test.Qxb6500847aGreatDoorOsQg
namespace Go.Proofs.Qxb6500847aGreatDoor.Os
open Go.RowKit FloorA
set_option maxRecDepth 100000
section
variable {A : Nat} {rb sb : Nat → Nat} {s : Av} {tl : Nat → List Int} {ws : Nat → Nat → Nat → Int} {w : World} {L : Nat → List Nat} {n : Nat}
set_option maxHeartbeats 4000000 in
theorem Children_x (h : Ms w A rb sb s tl ws) (hI : IV s tl L n) (hX : IX s tl L n) (i : Nat) (g : Int) :
    Calls Tryz.prog 56 #[.pointer (some ⟨A, 0, none⟩), .agg #[.int .u16 (i : Int), .int .u32 g]] w (OwXP (chiX (ob s ws) i g) w) := by
  obtain ⟨i0, hi0, hz0, hz1, hz2⟩ := info_parts inf32
  have bB := alloc_below (w := w) (.cells #[.int .u16 (i : Int), .int .u32 g] 32)
  have hz : (w.alloc (.cells #[.int .u16 (i : Int), .int .u32 g] 32)).heap[w.heap.size]? = some (.cells #[.int .u16 (i : Int), .int .u32 g] 32 (0, 0)) := heap_new _ _
  have HZ := hideIt hz
  have HM := hideIt (h.below bB)
  have HB := hideIt bB
  have HI := hideIt hI
  have HXx := hideIt hX
  clear h hI bB hz hX
  go_enter Tryz.func56, Tryz.ntmps56
  go_wp2_with fail
  generalize w.alloc (.cells #[.int .u16 (i : Int), .int .u32 g] 32) = w0 at *
  go_at_call 44
  refine (resolveRegion_x HM.out.am i g _).mono ?_
  rintro e w1 ⟨hb1, hh⟩
  have HB1 := hideIt (Below.thr HB.out hb1)
  have HM1 := hideIt (HM.out.below hb1)
  obtain ⟨x0, x1, _, _⟩ := two_cells ((hb1.block w.heap.size (heap_lt HZ.out)).trans HZ.out)
  clear hb1
  rcases hh with ⟨hl, ht, rfl⟩ | ⟨hl, v0, rfl, code, hc, hv0, hs⟩
  · have HLv := hideIt hl
    have hreg := reg_of HI.out hl.1 ht
    have HLk := hideIt (HI.out.tr.lk i hreg)
    have HOk := hideIt (chiX_ok (ws := ws) HXx.out HI.out hl hreg)
    have hlen := HI.out.tr.len hreg
    have i1 := hreg.1
    have i2 := hreg.2.1
    have i' : (i : Int) < 320 := by omega
    obtain ⟨cs, hcs, hmk⟩ := make_refs0 (L i).length (by omega)
    have k2 := HM1.out.am.rgc (i := i - 256) (f := 2) (by omega) (by omega)
    have k0 := (HM1.out.am.below (alloc_below (.cells cs 32))).rgc (i := i - 256) (f := 0) (by omega) (by omega)
    simp only [rgC, Nat.add_zero] at k0 k2
    rw [HI.out.tr.kds i hreg] at k2
    rw [HI.out.tr.fst i hreg] at k0
    obtain ⟨fs, hfs⟩ : ∃ q, q = hOr (L i) 65535 := ⟨_, rfl⟩
    rw [← hfs] at k0
    have HFS := hideIt hfs
    clear hfs
    have HOw : Hid (OwnQ w1.heap.size (w1.alloc (.cells cs 32)) (.slice (some ⟨w1.heap.size, 0, none⟩) 0 (L i).length) []) := (World.ownsRow_made w1 cs (L i).length (Nat.le_refl _) (by unfold maxLen; omega) hcs)
    have HBn := hideIt (alloc_below (w := w1) (.cells cs 32))
    have HLN : Hid ((L i).length = (L i).length) := rfl
    generalize hln : (L i).length = ln at HLN hlen hmk k2 HOw
    have HLn := hideIt hln
    clear hl ht hreg hcs hln HLN
    go_wp2_with (go_at_call 45; refine (body_walk A i1 i2 _).mono ?_; rintro e w' ⟨rfl, hw'⟩; obtain rfl := hw'.symm)
    go_loopg [9, 10] ln (fun gk v9 v10 wr => ∃ l1 l2 : List Nat, L i = l1 ++ l2 ∧ gk = l2.length ∧ v10 = .int .u16 (hOr l2 65535) ∧ OwnQ w1.heap.size wr v9 (l1.map (rfM (ob s ws))) ∧ Below w1.heap.size w1 wr)
    case atStart => exact ⟨[], L i, rfl, HLn.out.symm, by rw [HFS.out], HOw.out, HBn.out⟩
    case round =>
      clear HOw k0 k2 hmk HBn
      obtain ⟨l1, l2, hl, hgk, rfl, hown, hbw⟩ := hrel
      have HO := hideIt hown
      obtain ⟨ad, cap, ev9⟩ := hown.shape
      rw [List.length_map] at ev9
      subst ev9
      have HMr := hideIt (HM1.out.below hbw)
      have HBr := hideIt hbw
      have HLL : Hid (L i = l1 ++ l2) := hl
      have HGK := hideIt hgk
      have l1n : l1.length ≤ 320 := by
        have := HLn.out
        rw [hl, List.length_append] at this
        omega
      clear hown
      cases l2 with
      | nil =>
        have hb0 := HB1.out.size
        have HF : Hid (OwXP (chiX (ob s ws) i g) w (.returned (.tuple #[.slice ad l1.length cap, .nilIface])) wr) := Or.inr ⟨_, _, by rw [HOk.out, HLL.out, List.append_nil], rfl, HO.out.isR (by omega), Below.thr HB1.out hbw⟩
        clear hb0
        clear hbw hl hgk
        generalize l1.length = vn at *
        rw [show hOr [] 65535 = 65535 from rfl]
        go_wp2_with fail
        exact bodyPost_ret (by simp [results, Tryz.results56]) rfl HF.out
      | cons c r =>
        have hk := HLk.out
        rw [hl] at hk
        obtain ⟨c1, _, c3⟩ := hk.at
        have pc : (c : Int) < 320 := by omega
        have kn : ((c : Int) != 65535) = true := by rw [bne_iff_ne]; omega
        have HRf := hideIt (refOf_walk HMr.out.am c1)
        have hsz : w1.heap.size ≤ wr.heap.size := hbw.size
        have HC3 := hideIt c3
        generalize hvn : l1.length = vn at *
        have HVN := hideIt hvn
        clear hbw hl hgk hk c3 hvn
        rw [show hOr (c :: r) 65535 = (c : Int) from rfl]
        go_wp2_with fail
        go_at_call 124
        refine HRf.out.mono ?_
        rintro e w2 ⟨rfl, hb2⟩
        have hxs := HO.out
        have elen : (l1.map (rfM (ob s ws))).length = vn := by rw [List.length_map, HVN.out]
        have hxs2 : w2.ownsRow w1.heap.size 32 2 (.slice ad vn cap) vn (refL (l1.map (rfM (ob s ws)))) := by
          unfold OwnQ at hxs
          rw [elen] at hxs
          refine ⟨hxs.1, hxs.2.imp id ?_⟩
          rintro ⟨g', cap', cur, e1, e2, e3, e4⟩
          exact ⟨g', cap', cur, e1, e2, (hb2.block g' (heap_lt e3)).trans e3, e4⟩
        have HX := hideIt hxs2
        have HB2 := hideIt hb2
        have hsz2 : w1.heap.size ≤ w2.heap.size := Nat.le_trans hsz hb2.size
        clear hxs hxs2 hb2 elen
        go_wp2_with ((at_builtin; refine wpList_append_own_at _ rfl (.tmp 42) (.tmp 46) 55 rfl w1.heap.size 32 i0 (.agg #[.int .u16 0, .int .u32 0]) 2 8 Tryz.underlying55 hi0 hz0 hz1 hz2 rfl (by decide) _ _ _ rfl (HX.out.alloc _) ⟨w2.heap.size, 0, none⟩ 1 1 [.int .u16 (c : Int), .int .u32 (s.hd c).gen] rfl rfl (new_two w2 _ rfl _ _ _) (ones2 _ _) (by unfold maxLen; omega) (by omega) (by simp; omega) ?_; intro b1 w3 hown1 hgrow1 _ _; go_loud (have hb3 := (HBr.out.trans (HB2.out.mono hsz)).trans (OwnR.grow HX.out hgrow1 (Nat.le_refl _) hsz2); have ep3 := (HM1.out.below hb3).am.nxt c1; have HB3 := hideIt hb3; have HO3 : Hid (w3.ownsRow w1.heap.size 32 2 b1 (vn + 1) (refL (l1.map (rfM (ob s ws))) ++ [.int .u16 (c : Int), .int .u32 (s.hd c).gen])) := hown1; clear hown1 hgrow1 hb3)))
        obtain ⟨ad3, cap3, rfl⟩ := OwnR.shape ⟨_, HO3.out⟩
        have HO4 : Hid (OwnQ w1.heap.size w3 (.slice ad3 (vn + 1) cap3) ((l1 ++ [c]).map (rfM (ob s ws)))) := by
          show OwnQ w1.heap.size w3 _ _
          unfold OwnQ
          rw [List.map_append, List.length_append, List.length_map, HVN.out]
          have e4 : refL (l1.map (rfM (ob s ws)) ++ [c].map (rfM (ob s ws))) = refL (l1.map (rfM (ob s ws))) ++ [.int .u16 (c : Int), .int .u32 (s.hd c).gen] := by
            rw [← refL_snoc]
            show refL (_ ++ [(c, (ob s ws c).gen)]) = _
            rw [ob_at _ _ c1]
          rw [e4]
          exact HO3.out
        rw [HC3.out]
        go_roundg r.length
        case measure => rw [HGK.out, List.length_cons]; omega
        case rel => exact ⟨l1 ++ [c], r, by rw [HLL.out]; simp, rfl, rfl, HO4.out, HB3.out⟩
  · have HF : Hid (OwXP (chiX (ob s ws) i g) w (.returned (.tuple #[.slice none 0 0, v0])) w1) := Or.inl ⟨_, _, chiX_err hs hl, rfl, hv0, hc, HB1.out⟩
    obtain ⟨b, rfl, hbc⟩ := hv0
    clear hbc hl hs
    go_wp2_with fail
    exact bodyPost_ret (by simp [results, Tryz.results56]) rfl HF.out
end
end Go.Proofs.Qxb6500847aGreatDoor.Os
