/-
  Children.
-/
import Derived.Test.Qxb6500847aGreatDoorOsQd
import Derived.Test.Qxb6500847aGreatDoorOsRc
namespace Go.Proofs.Qxb6500847aGreatDoor.Os
open Go.RowKit FloorA
set_option maxRecDepth 100000
theorem make_refs0 (n : Nat) (hn : n ≤ 1000) : ∃ cs : Array Value, cs.size = n * 2 ∧ ∀ w : World, (Instr.makeSlice 55 (.int .i64 0) (.int .i64 (n : Int))).run Tryz.prog w = .ok (.slice (some ⟨w.heap.size, 0, none⟩) 0 n) (w.alloc (.cells cs 32)) := by
  obtain ⟨i, hi1, hi2⟩ := Option.map_eq_some_iff.1 mk32
  simp only [Prod.mk.injEq, decide_eq_true_eq] at hi2
  obtain ⟨hz, hb, hs⟩ := hi2
  obtain ⟨z, hz⟩ := Option.isSome_iff_exists.1 hz
  refine ⟨madeCells z.cells (n * i.size), by rw [size_madeCells, hs], fun w => ?_⟩
  have hm : (i.bytes : Int) * (n : Int) ≤ 281474976710656 := by
    have h1 : i.bytes * n ≤ 100000 * 1000 := Nat.mul_le_mul hb hn
    have h2 : ((i.bytes * n : Nat) : Int) ≤ 281474976710656 := by omega
    rwa [Int.natCast_mul] at h2
  have := run_make (P := Tryz.prog) w 55 32 i z Tryz.underlying55 hi1 hz .i64 .i64 0 n (by omega) (by omega) hm (by omega)
  simpa using this
section
variable {A : Nat} {rb sb : Nat → Nat} {s : Av} {tl : Nat → List Int} {ws : Nat → Nat → Nat → Int} {w : World} {L : Nat → List Nat} {n : Nat}
theorem Lk.at {p c : Nat} {l1 r : List Nat} {pv nx : Int} (h : Lk s p pv (l1 ++ c :: r) nx) : c < 320 ∧ (s.hd c).typ ≠ 0 ∧ (s.hd c).nxt = hOr r nx := by
  obtain ⟨_, h2⟩ := Lk.append.1 h
  exact ⟨h2.1.1, h2.1.2.1, h2.1.2.2.2.2⟩
theorem reg_of (hI : IV s tl L n) {i : Nat} (hi : i < 320) (ht : (s.hd i).typ = 1) : IsReg s i := by
  obtain ⟨k, ek, _, kk⟩ := hI.ge.typ i hi
  have : k = 1 := by omega
  exact ⟨(kk (by omega)).1 this, hi, ht⟩
set_option maxHeartbeats 4000000 in
theorem Children_walk (h : Ms w A rb sb s tl ws) (hI : IV s tl L n) (i : Nat) (g : Int) :
    Calls Tryz.prog 56 #[.pointer (some ⟨A, 0, none⟩), .agg #[.int .u16 (i : Int), .int .u32 g]] w (OwPost s i g w) := by
  obtain ⟨i0, hi0, hz0, hz1, hz2⟩ := info_parts inf32
  have bB := alloc_below (w := w) (.cells #[.int .u16 (i : Int), .int .u32 g] 32)
  have hz : (w.alloc (.cells #[.int .u16 (i : Int), .int .u32 g] 32)).heap[w.heap.size]? = some (.cells #[.int .u16 (i : Int), .int .u32 g] 32 (0, 0)) := heap_new _ _
  have HZ := hideIt hz
  have HM := hideIt (h.below bB)
  have HB := hideIt bB
  have HI := hideIt hI
  clear h hI bB hz
  go_enter Tryz.func56, Tryz.ntmps56
  go_wp2_with fail
  generalize w.alloc (.cells #[.int .u16 (i : Int), .int .u32 g] 32) = w0 at *
  go_at_call 44
  refine (resolveRegion_walk HM.out.am i g _).mono ?_
  rintro e w1 ⟨hb1, hh⟩
  have HB1 := hideIt (Below.thr HB.out hb1)
  have HM1 := hideIt (HM.out.below hb1)
  obtain ⟨x0, x1, _, _⟩ := two_cells ((hb1.block w.heap.size (heap_lt HZ.out)).trans HZ.out)
  clear hb1
  rcases hh with ⟨hl, ht, rfl⟩ | ⟨hl, v0, rfl, code, hc, hv0, hs⟩
  · have HLv := hideIt hl
    have hreg := reg_of HI.out hl.1 ht
    have HLk := hideIt (HI.out.tr.lk i hreg)
    have hlen := HI.out.tr.len hreg
    have i1 := hreg.1
    have i2 := hreg.2.1
    have i' : (i : Int) < 320 := by omega
    obtain ⟨cs, hcs, hmk⟩ := make_refs0 (L i).length (by omega)
    have k2 := HM1.out.am.rgc (i := i - 256) (f := 2) (by omega) (by omega)
    have k0 := (HM1.out.am.below (alloc_below (.cells cs 32))).rgc (i := i - 256) (f := 0) (by omega) (by omega)
    simp only [rgC, Nat.add_zero] at k0 k2
    rw [HI.out.tr.kds i hreg] at k2
    rw [HI.out.tr.fst i hreg] at k0
    obtain ⟨fs, hfs⟩ : ∃ q, q = hOr (L i) 65535 := ⟨_, rfl⟩
    rw [← hfs] at k0
    have HFS := hideIt hfs
    clear hfs
    have HOw : Hid (OwnR w1.heap.size (w1.alloc (.cells cs 32)) (.slice (some ⟨w1.heap.size, 0, none⟩) 0 (L i).length) 0) := ⟨[], World.ownsRow_made w1 cs (L i).length (Nat.le_refl _) (by unfold maxLen; omega) hcs⟩
    have HBn := hideIt (alloc_below (w := w1) (.cells cs 32))
    have HLN : Hid ((L i).length = (L i).length) := rfl
    generalize hln : (L i).length = ln at HLN hlen hmk k2 HOw
    have HLn := hideIt hln
    clear hl ht hreg hcs hln HLN
    go_wp2_with (go_at_call 45; refine (body_walk A i1 i2 _).mono ?_; rintro e w' ⟨rfl, hw'⟩; obtain rfl := hw'.symm)
    go_loopg [9, 10] ln (fun gk v9 v10 wr => ∃ l1 l2 : List Nat, L i = l1 ++ l2 ∧ gk = l2.length ∧ v10 = .int .u16 (hOr l2 65535) ∧ OwnR w1.heap.size wr v9 l1.length ∧ Below w1.heap.size w1 wr)
    case atStart => exact ⟨[], L i, rfl, HLn.out.symm, by rw [HFS.out], HOw.out, HBn.out⟩
    case round =>
      clear HOw k0 k2 hmk HBn
      obtain ⟨l1, l2, hl, hgk, rfl, hown, hbw⟩ := hrel
      have HO := hideIt hown
      obtain ⟨ad, cap, rfl⟩ := hown.shape
      have HMr := hideIt (HM1.out.below hbw)
      have HBr := hideIt hbw
      have HLL : Hid (L i = l1 ++ l2) := hl
      have HGK := hideIt hgk
      have l1n : l1.length ≤ 320 := by
        have := HLn.out
        rw [hl, List.length_append] at this
        omega
      clear hown
      cases l2 with
      | nil =>
        have HF : Hid (OwPost s i g w (.returned (.tuple #[.slice ad l1.length cap, .nilIface])) wr) := Or.inr ⟨HLv.out, _, _, _, rfl, Below.thr HB1.out hbw⟩
        clear hbw hl hgk
        generalize l1.length = vn at *
        rw [show hOr [] 65535 = 65535 from rfl]
        go_wp2_with fail
        exact bodyPost_ret (by simp [results, Tryz.results56]) rfl HF.out
      | cons c r =>
        have hk := HLk.out
        rw [hl] at hk
        obtain ⟨c1, _, c3⟩ := hk.at
        have pc : (c : Int) < 320 := by omega
        have kn : ((c : Int) != 65535) = true := by rw [bne_iff_ne]; omega
        have HRf := hideIt (refOf_walk HMr.out.am c1)
        have hsz : w1.heap.size ≤ wr.heap.size := hbw.size
        have HC3 := hideIt c3
        generalize hvn : l1.length = vn at *
        have HVN := hideIt hvn
        clear hbw hl hgk hk c3 hvn
        rw [show hOr (c :: r) 65535 = (c : Int) from rfl]
        go_wp2_with fail
        go_at_call 124
        refine HRf.out.mono ?_
        rintro e w2 ⟨rfl, hb2⟩
        obtain ⟨xs, hxs⟩ := HO.out
        have hxs2 : w2.ownsRow w1.heap.size 32 2 (.slice ad vn cap) vn xs := by
          refine ⟨hxs.1, hxs.2.imp id ?_⟩
          rintro ⟨g', cap', cur, e1, e2, e3, e4⟩
          exact ⟨g', cap', cur, e1, e2, (hb2.block g' (heap_lt e3)).trans e3, e4⟩
        have HX := hideIt hxs2
        have HB2 := hideIt hb2
        have hsz2 : w1.heap.size ≤ w2.heap.size := Nat.le_trans hsz hb2.size
        clear hxs hxs2 hb2
        go_wp2_with ((at_builtin; refine wpList_append_own_at _ rfl (.tmp 42) (.tmp 46) 55 rfl w1.heap.size 32 i0 (.agg #[.int .u16 0, .int .u32 0]) 2 8 Tryz.underlying55 hi0 hz0 hz1 hz2 rfl (by decide) _ _ _ rfl (HX.out.alloc _) ⟨w2.heap.size, 0, none⟩ 1 1 [.int .u16 (c : Int), .int .u32 (s.hd c).gen] rfl rfl (new_two w2 _ rfl _ _ _) (ones2 _ _) (by unfold maxLen; omega) (by omega) (by simp; omega) ?_; intro b1 w3 hown1 hgrow1 _ _; go_loud (have hb3 := (HBr.out.trans (HB2.out.mono hsz)).trans (OwnR.grow HX.out hgrow1 (Nat.le_refl _) hsz2); have ep3 := (HM1.out.below hb3).am.nxt c1; have HB3 := hideIt hb3; have HO3 : Hid (OwnR w1.heap.size w3 b1 (vn + 1)) := ⟨_, hown1⟩; clear hown1 hgrow1 hb3)))
        obtain ⟨ad3, cap3, rfl⟩ := HO3.out.shape
        rw [HC3.out]
        go_roundg r.length
        case measure => rw [HGK.out, List.length_cons]; omega
        case rel => exact ⟨l1 ++ [c], r, by rw [HLL.out]; simp, rfl, rfl, by rw [List.length_append, HVN.out]; exact HO3.out, HB3.out⟩
  · have HF : Hid (OwPost s i g w (.returned (.tuple #[.slice none 0 0, v0])) w1) := Or.inl ⟨_, _, rfl, ⟨hv0, hc, HB1.out⟩, hs⟩
    obtain ⟨b, rfl, hbc⟩ := hv0
    clear hbc hl hs
    go_wp2_with fail
    exact bodyPost_ret (by simp [results, Tryz.results56]) rfl HF.out
end
end Go.Proofs.Qxb6500847aGreatDoor.Os
