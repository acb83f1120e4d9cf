/-
  The abstract model: Diff.
-/
import Derived.Test.Qxb6500847aGreatDoorDfB
import Derived.Test.Qxb6500847aGreatDoorMdK
import Derived.Deep.CutRange
import Derived.Deep.AppendLies
import Derived.Deep.RegionHeld3
namespace Go.Proofs.Qxb6500847aGreatDoor.Os
open Go.RowKit FloorA
set_option maxRecDepth 100000
/-- Inside a round of Diff: the list so far, the two entries' copies. -/
structure Dfr (w wx : World) (v : Value) (l : List Df) (b7 b8 : Nat) (x7 x8 : Array Value) : Prop where
  own : wx.ownsRow w.heap.size 88 5 v l.length (dfCs l)
  bel : Below w.heap.size w wx
  h7 : wx.heap[b7]? = some (.cells x7 147 (0, 0))
  h8 : wx.heap[b8]? = some (.cells x8 147 (0, 0))
  ne : ∀ b, v.ownBlock = some b → b ≠ b7 ∧ b ≠ b8
theorem Dfr.app {w wx w8 : World} {v v' : Value} {l : List Df} {b7 b8 : Nat} {x7 x8 : Array Value} {o : Obj} {d : Df} (h : Dfr w wx v l b7 b8 x7 x8) (ho : w8.ownsRow w.heap.size 88 5 v' (l.length + 1) (dfCs l ++ dfC d)) (hg : (wx.alloc o).grownBy w8 v.ownBlock) (hh : v'.ownBlock = v.ownBlock ∨ v'.ownBlock = some (wx.alloc o).heap.size) : Dfr w w8 v' (l ++ [d]) b7 b8 x7 x8 := by
  have hs : (wx.alloc o).heap.size = wx.heap.size + 1 := by simp
  have l7 := heap_lt h.h7
  have l8 := heap_lt h.h8
  have hc : dfCs (l ++ [d]) = dfCs l ++ dfC d := by unfold dfCs; rw [List.flatMap_append]; simp
  refine ⟨by rw [List.length_append, hc]; exact ho, h.bel.trans (Grown.below h.bel.size hg (fun b hb => (owns_lt h.own b hb).1)), (hg.block b7 (by omega) (fun e => (h.ne b7 e.symm).1 rfl)).trans ((heap_alloc_old _ _ l7).trans h.h7), (hg.block b8 (by omega) (fun e => (h.ne b8 e.symm).2 rfl)).trans ((heap_alloc_old _ _ l8).trans h.h8), fun b hb => ?_⟩
  rcases hh with q | q
  · exact h.ne b (q ▸ hb)
  · rw [q] at hb
    have := Option.some.inj hb
    omega
theorem Dfr.below {w wx w' : World} {v : Value} {l : List Df} {b7 b8 : Nat} {x7 x8 : Array Value} (h : Dfr w wx v l b7 b8 x7 x8) (k : Below wx.heap.size wx w') : Dfr w w' v l b7 b8 x7 x8 := ⟨owns_keep h.own (fun q hq => k.block q (owns_lt h.own q hq).2), Below.thr h.bel k, (k.block _ (heap_lt h.h7)).trans h.h7, (k.block _ (heap_lt h.h8)).trans h.h8, h.ne⟩
theorem pz_rng {M : Nat → En} (hM : Mk M) {k : Nat} (hk : k < 320) : -1 ≤ pz (M k).par ∧ pz (M k).par < 320 := by
  unfold pz
  rcases hM.par k hk with q | ⟨p, _, q⟩
  · rw [if_pos q]; omega
  · rw [if_neg (by omega)]; omega
section
variable {w w' : World} {B C : Nat} {wb wn : Nat → Nat} {M N : Nat → En}
set_option maxHeartbeats 16000000 in
theorem diff_m (h : Md w B wb M) (h2 : Md w C wn N) (hM : Mk M) (hN : Mk N) :
    Calls Tryz.prog 32 #[.pointer (some ⟨B, 0, none⟩), .pointer (some ⟨C, 0, none⟩)] w fun e w' => ∃ v, e = .returned v ∧ w'.ownsRow w.heap.size 88 5 v (dfL M N 320).length (dfCs (dfL M N 320)) ∧ Below w.heap.size w w' := by
  obtain ⟨i8, hi8, hz8, hs8, hb8⟩ := info_parts inf88
  have HM := hideIt h
  have HN := hideIt h2
  have HMk := hideIt hM
  have HNk := hideIt hN
  clear h h2 hM hN
  go_enter Tryz.func32, Tryz.ntmps32
  go_wp2_with fail
  go_loopw [5, 11] (fun v5 v11 wr => ∃ k : Nat, k ≤ 320 ∧ v11 = .int .i64 (k : Int) ∧ wr.ownsRow w.heap.size 88 5 v5 (dfL M N k).length (dfCs (dfL M N k)) ∧ Below w.heap.size w wr) (fun _ j _ => 320 - (intOf j).toNat)
  case atStart => exact ⟨0, by omega, rfl, ⟨rfl, Or.inl ⟨rfl, rfl⟩⟩, Below.refl _ _⟩
  case round =>
    obtain ⟨k, hk, rfl, hown, hbr⟩ := hrel
    by_cases hlt : k < 320
    · have hlt' : (k : Int) < 320 := by omega
      have hm := HM.out.below hbr
      have hn := HN.out.below hbr
      obtain ⟨vx, hvx0, hdx⟩ := HM.out.wrd k hlt
      obtain ⟨vy, hvy0, hdy⟩ := HN.out.wrd k hlt
      have hvx := (hbr.cell (p := ⟨B, k * 6 + 5, none⟩) (cell_lt hvx0)).trans hvx0
      have hvy := (hbr.cell (p := ⟨C, k * 6 + 5, none⟩) (cell_lt hvy0)).trans hvy0
      have HDx := hideIt hdx
      have HDy := hideIt hdy
      obtain ⟨ax, cx, hfx⟩ := hdx.form
      obtain ⟨ay, cy, hfy⟩ := hdy.form
      subst hfx hfy
      have hE1 := alloc_below (w := wr) (.cells #[.int .u32 (M k).gen, .int .u8 (M k).typ, .int .u64 (M k).bas, .int .u64 (M k).siz, .int .i64 (pz (M k).par), (.slice ax (M k).wds.length cx)] 147)
      have hE2 := alloc_below (w := wr) (.cells #[.int .u32 (N k).gen, .int .u8 (N k).typ, .int .u64 (N k).bas, .int .u64 (N k).siz, .int .i64 (pz (N k).par), (.slice ay (N k).wds.length cy)] 147)
      have x0 := hm.gen hlt
      have x1 := hm.typ hlt
      have x2 := hm.bas hlt
      have x3 := hm.siz hlt
      have x4 := hm.par hlt
      have y0 := hn.gen hlt
      have y1 := hn.typ hlt
      have y2 := hn.bas hlt
      have y3 := hn.siz hlt
      have y4 := hn.par hlt
      have HO := hideIt hown
      have HB := hideIt hbr
      clear hm hn hdx hdy hown hbr hE1 hE2 hvx0 hvy0
      go_upto_region 5 with fail
      go_cut [7, 8, 11] from 11 to 141 (fun v7 v8 v11 wx => v11 = .int .i64 (k : Int) ∧ ∃ b7 b8, v7 = .pointer (some ⟨b7, 0, none⟩) ∧ v8 = .pointer (some ⟨b8, 0, none⟩) ∧ Below wr.heap.size wr wx ∧ wx.heap[b7]? = some (.cells #[.int .u32 (M k).gen, .int .u8 (M k).typ, .int .u64 (M k).bas, .int .u64 (M k).siz, .int .i64 (pz (M k).par), (.slice ax (M k).wds.length cx)] 147 (0, 0)) ∧ wx.heap[b8]? = some (.cells #[.int .u32 (N k).gen, .int .u8 (N k).typ, .int .u64 (N k).bas, .int .u64 (N k).siz, .int .i64 (pz (N k).par), (.slice ay (N k).wds.length cy)] 147 (0, 0)) ∧ wr.heap.size ≤ b7 ∧ wr.heap.size ≤ b8)
      case first =>
        go_region_held3 (fun w' => w'.cell? ⟨B, k * 6, none⟩ = some (.int .u32 (M k).gen) ∧ w'.cell? ⟨B, k * 6 + 1, none⟩ = some (.int .u8 (M k).typ) ∧ w'.cell? ⟨B, k * 6 + 2, none⟩ = some (.int .u64 (M k).bas) ∧ w'.cell? ⟨B, k * 6 + 3, none⟩ = some (.int .u64 (M k).siz) ∧ w'.cell? ⟨B, k * 6 + 4, none⟩ = some (.int .i64 (pz (M k).par)) ∧ w'.cell? ⟨B, k * 6 + 5, none⟩ = some (.slice ax (M k).wds.length cx) ∧ w'.cell? ⟨C, k * 6, none⟩ = some (.int .u32 (N k).gen) ∧ w'.cell? ⟨C, k * 6 + 1, none⟩ = some (.int .u8 (N k).typ) ∧ w'.cell? ⟨C, k * 6 + 2, none⟩ = some (.int .u64 (N k).bas) ∧ w'.cell? ⟨C, k * 6 + 3, none⟩ = some (.int .u64 (N k).siz) ∧ w'.cell? ⟨C, k * 6 + 4, none⟩ = some (.int .i64 (pz (N k).par)) ∧ w'.cell? ⟨C, k * 6 + 5, none⟩ = some (.slice ay (N k).wds.length cy)) (go_keep) (fail)
        all_goals (try go_wp2_with fail)
        all_goals go_meet
        all_goals first
          | exact ⟨rfl, _, _, rfl, rfl, Below.thr (two_below _ _) (below_d _), (heap_alloc_old _ _ (by simp)).trans (heap_new _ _), new_at _ _ (by simp), Nat.le_refl _, Nat.le_succ _⟩
          | exact ⟨rfl, _, _, rfl, rfl, Below.thr (two_below _ _) (below_d _), new_at _ _ (by simp), (heap_alloc_old _ _ (by simp)).trans (heap_new _ _), Nat.le_succ _, Nat.le_refl _⟩
      case rest =>
        obtain ⟨rfl, b7, b8, rfl, rfl, hbx, h7, h8, l7, l8⟩ := hcut
        have HRz : Hid (Dfr w wc u5 (dfL M N k) b7 b8 _ _) := ⟨owns_keep HO.out (fun q hq => hbx.block q (owns_lt HO.out q hq).2), Below.thr HB.out hbx, h7, h8, fun b hb => by have := (owns_lt HO.out b hb).2; omega⟩
        have HLz : Hid ((dfL M N k).length ≤ 40000 - 200) := by
          have := dfL_le (N := N) k (fun i hi => HMk.out.wlen i (by omega))
          show _ ≤ _
          omega
        have hkw : IntKind.u16.wrap (k : Int) = (k : Int) := by unfold IntKind.wrap; simp [IntKind.bits, IntKind.signed]; omega
        obtain ⟨gx', egx, gx1, gx2⟩ := HMk.out.gen k hlt
        obtain ⟨gy', egy, gy1, gy2⟩ := HNk.out.gen k hlt
        obtain ⟨tx', etx, tx7, _⟩ := HMk.out.typ k hlt
        obtain ⟨ty', ety, ty7, _⟩ := HNk.out.typ k hlt
        have wgx : IntKind.u64.wrap (M k).gen = (M k).gen := u64_same (by omega) (by omega)
        have wgy : IntKind.u64.wrap (N k).gen = (N k).gen := u64_same (by omega) (by omega)
        have wtx : IntKind.u64.wrap (M k).typ = (M k).typ := u64_same (by omega) (by omega)
        have wty : IntKind.u64.wrap (N k).typ = (N k).typ := u64_same (by omega) (by omega)
        have hpx : -1 ≤ pz (M k).par ∧ pz (M k).par < 320 := pz_rng HMk.out hlt
        have hpy : -1 ≤ pz (N k).par ∧ pz (N k).par < 320 := pz_rng HNk.out hlt
        have wpx : IntKind.u64.wrap (pz (M k).par + 1) = pz (M k).par + 1 := u64_same (by omega) (by omega)
        have wpy : IntKind.u64.wrap (pz (N k).par + 1) = pz (N k).par + 1 := u64_same (by omega) (by omega)
        have vpx : IntKind.i64.wrap (pz (M k).par + 1) = pz (M k).par + 1 := by unfold IntKind.wrap; simp [IntKind.bits, IntKind.signed]; omega
        have vpy : IntKind.i64.wrap (pz (N k).par + 1) = pz (N k).par + 1 := by unfold IntKind.wrap; simp [IntKind.bits, IntKind.signed]; omega
        have HWL : Hid ((M k).typ = (N k).typ → (N k).wds.length = (M k).wds.length) := fun e => by rw [HMk.out.wln k hlt, HNk.out.wln k hlt, e]
        have hwl9 := HMk.out.wlen k hlt
        have HDE : Hid (dfL M N (k + 1) = dfL M N k ++ dfE M N k) := dfL_succ M N k
        have HD1 : Hid (¬ (M k).typ = (N k).typ → dfE M N k = nt (M k).gen (N k).gen ⟨k, 0, 0, (M k).gen, (N k).gen⟩ ++ [⟨k, 1, 0, (M k).typ, (N k).typ⟩]) := fun e => by unfold dfE; rw [if_neg e]
        have HD2 : Hid ((M k).typ = (N k).typ → dfE M N k = nt (M k).gen (N k).gen ⟨k, 0, 0, (M k).gen, (N k).gen⟩ ++ (nt (M k).bas (N k).bas ⟨k, 2, 0, (M k).bas, (N k).bas⟩ ++ nt (M k).siz (N k).siz ⟨k, 3, 0, (M k).siz, (N k).siz⟩ ++ nt (pz (M k).par + 1) (pz (N k).par + 1) ⟨k, 4, 0, pz (M k).par + 1, pz (N k).par + 1⟩ ++ dfW M N k (M k).wds.length)) := fun e => by unfold dfE; rw [if_pos e]
        clear hbx h7 h8 l7 l8 x0 x1 x2 x3 x4 y0 y1 y2 y3 y4 hvx hvy HO egx egy etx ety gx1 gx2 gy1 gy2 tx7 ty7 hpx hpy
        generalize dfL M N k = ll at *
        generalize hwx : (M k).wds.length = wl at *
        have HWx := hideIt hwx
        clear hwx
        generalize hwz : (N k).wds.length = wy at *
        have HWz := hideIt hwz
        clear hwz
        generalize (M k).gen = gx at *
        generalize (N k).gen = gy at *
        generalize (M k).typ = tx at *
        generalize (N k).typ = ty at *
        generalize (M k).bas = bx at *
        generalize (N k).bas = by9 at *
        generalize (M k).siz = sx at *
        generalize (N k).siz = sy at *
        generalize pz (M k).par = px at *
        generalize pz (N k).par = py at *
        have HR := HRz
        have HLl := HLz
        clear HRz HLz
        have c70 : wc.cell? ⟨b7, 0, none⟩ = some (.int .u32 gx) := box_cell HR.out.h7 0
        have c71 : wc.cell? ⟨b7, 1, none⟩ = some (.int .u8 tx) := box_cell HR.out.h7 1
        have c72 : wc.cell? ⟨b7, 2, none⟩ = some (.int .u64 bx) := box_cell HR.out.h7 2
        have c73 : wc.cell? ⟨b7, 3, none⟩ = some (.int .u64 sx) := box_cell HR.out.h7 3
        have c74 : wc.cell? ⟨b7, 4, none⟩ = some (.int .i64 px) := box_cell HR.out.h7 4
        have c75 : wc.cell? ⟨b7, 5, none⟩ = some (.slice ax wl cx) := box_cell HR.out.h7 5
        have c80 : wc.cell? ⟨b8, 0, none⟩ = some (.int .u32 gy) := box_cell HR.out.h8 0
        have c81 : wc.cell? ⟨b8, 1, none⟩ = some (.int .u8 ty) := box_cell HR.out.h8 1
        have c82 : wc.cell? ⟨b8, 2, none⟩ = some (.int .u64 by9) := box_cell HR.out.h8 2
        have c83 : wc.cell? ⟨b8, 3, none⟩ = some (.int .u64 sy) := box_cell HR.out.h8 3
        have c84 : wc.cell? ⟨b8, 4, none⟩ = some (.int .i64 py) := box_cell HR.out.h8 4
        have c85 : wc.cell? ⟨b8, 5, none⟩ = some (.slice ay wy cy) := box_cell HR.out.h8 5
        go_upto_if 32 with fail
        go_cut [5, 11] from 11 to 141 (fun v5 v11 wx => v11 = .int .i64 (k : Int) ∧ Dfr w wx v5 (ll ++ nt gx gy ⟨k, 0, 0, gx, gy⟩) b7 b8 #[.int .u32 gx, .int .u8 tx, .int .u64 bx, .int .u64 sx, .int .i64 px, .slice ax wl cx] #[.int .u32 gy, .int .u8 ty, .int .u64 by9, .int .u64 sy, .int .i64 py, .slice ay wy cy])
        case first =>
          by_cases hq : gx = gy
          · have HE : Hid (nt (gx) (gy) ⟨k, 0, 0, gx, gy⟩ = []) := by show _ = _; unfold nt; rw [if_pos (by rw [hq])]
            subst hq
            go_wp2_with fail
            go_meet
            rw [HE.out, List.append_nil]
            exact ⟨rfl, HR.out⟩
          · have HE : Hid (nt (gx) (gy) ⟨k, 0, 0, gx, gy⟩ = [⟨k, 0, 0, gx, gy⟩]) := by show _ = _; unfold nt; rw [if_neg (fun z => hq (by omega))]
            have hqb : ((gx) != (gy)) = true := by rw [bne_iff_ne]; exact hq
            go_wp2_with (at_builtin; refine wpList_append_own_at _ rfl (.tmp 33) (.tmp 42) 83 rfl w.heap.size 88 i8 (.agg #[.int .u16 0, .int .u8 0, .int .u16 0, .int .u64 0, .int .u64 0]) 5 24 Tryz.underlying83 hi8 hz8 hs8 hb8 rfl (by decide) _ _ _ rfl (World.ownsRow.alloc HR.out.own _) ⟨wc.heap.size, 0, none⟩ 1 1 [.int .u16 (k : Int), .int .u8 0, .int .u16 0, .int .u64 gx, .int .u64 gy] rfl rfl (new_rowD wc _ 88) (ones5 _ _ _ _ _) (by have := HLl.out; unfold maxLen; omega) (by have := HLl.out; omega) (by have := HR.out.bel.size; simp; omega) ?_; intro v' w8 hown8 hgrow8 _ hwh8; have HR8 := hideIt (HR.out.app (d := ⟨k, 0, 0, gx, gy⟩) hown8 hgrow8 hwh8); clear hown8 hgrow8 hwh8)
            go_meet
            rw [HE.out]
            exact ⟨rfl, HR8.out⟩
        case rest =>
          have HL2 : Hid ((ll ++ nt gx gy ⟨k, 0, 0, gx, gy⟩).length ≤ 40000 - 200 + 0 * 10 + 10) := by
            have := HLl.out
            have := nt_le gx gy ⟨k, 0, 0, gx, gy⟩
            show _ ≤ _
            rw [List.length_append]
            omega
          clear HR c70 c71 c72 c73 c74 c75 c80 c81 c82 c83 c84 c85 HLl
          have HR := hideIt hcut.2
          obtain ⟨rfl, _⟩ := hcut
          have HLl := HL2
          clear HL2
          obtain ⟨l0, hl0⟩ : ∃ l, l = ll ++ nt gx gy ⟨k, 0, 0, gx, gy⟩ := ⟨_, rfl⟩
          rw [← hl0] at HR HLl
          have HQ0 := hideIt hl0
          clear hl0
          have c70 : wc.cell? ⟨b7, 0, none⟩ = some (.int .u32 gx) := box_cell HR.out.h7 0
          have c80 : wc.cell? ⟨b8, 0, none⟩ = some (.int .u32 gy) := box_cell HR.out.h8 0
          have c71 : wc.cell? ⟨b7, 1, none⟩ = some (.int .u8 tx) := box_cell HR.out.h7 1
          have c81 : wc.cell? ⟨b8, 1, none⟩ = some (.int .u8 ty) := box_cell HR.out.h8 1
          have c72 : wc.cell? ⟨b7, 2, none⟩ = some (.int .u64 bx) := box_cell HR.out.h7 2
          have c82 : wc.cell? ⟨b8, 2, none⟩ = some (.int .u64 by9) := box_cell HR.out.h8 2
          have c73 : wc.cell? ⟨b7, 3, none⟩ = some (.int .u64 sx) := box_cell HR.out.h7 3
          have c83 : wc.cell? ⟨b8, 3, none⟩ = some (.int .u64 sy) := box_cell HR.out.h8 3
          have c74 : wc.cell? ⟨b7, 4, none⟩ = some (.int .i64 px) := box_cell HR.out.h7 4
          have c84 : wc.cell? ⟨b8, 4, none⟩ = some (.int .i64 py) := box_cell HR.out.h8 4
          have c75 : wc.cell? ⟨b7, 5, none⟩ = some (.slice ax wl cx) := box_cell HR.out.h7 5
          have c85 : wc.cell? ⟨b8, 5, none⟩ = some (.slice ay wy cy) := box_cell HR.out.h8 5
          by_cases ht : tx = ty
          · subst ht
            have hwy := HWL.out rfl
            have HWY := hideIt hwy
            go_upto_if 64 with fail
            go_cut [5, 11] from 11 to 141 (fun v5 v11 wx => v11 = .int .i64 (k : Int) ∧ Dfr w wx v5 (l0 ++ nt bx by9 ⟨k, 2, 0, bx, by9⟩) b7 b8 #[.int .u32 gx, .int .u8 tx, .int .u64 bx, .int .u64 sx, .int .i64 px, .slice ax wl cx] #[.int .u32 gy, .int .u8 tx, .int .u64 by9, .int .u64 sy, .int .i64 py, .slice ay wy cy])
            case first =>
              by_cases hq : bx = by9
              · have HE : Hid (nt bx by9 ⟨k, 2, 0, bx, by9⟩ = []) := by show _ = _; unfold nt; rw [if_pos (by rw [hq])]
                have hqb : (bx != by9) = false := by rw [hq]; simp
                go_wp2_with fail
                go_meet
                rw [HE.out, List.append_nil]
                exact ⟨rfl, HR.out⟩
              · have HE : Hid (nt bx by9 ⟨k, 2, 0, bx, by9⟩ = [⟨k, 2, 0, bx, by9⟩]) := by show _ = _; unfold nt; rw [if_neg (fun z => hq (by omega))]
                have hqb : (bx != by9) = true := by rw [bne_iff_ne]; exact hq
                go_wp2_with (at_builtin; refine wpList_append_own_at _ rfl (.tmp 65) (.tmp 72) 83 rfl w.heap.size 88 i8 (.agg #[.int .u16 0, .int .u8 0, .int .u16 0, .int .u64 0, .int .u64 0]) 5 24 Tryz.underlying83 hi8 hz8 hs8 hb8 rfl (by decide) _ _ _ rfl (World.ownsRow.alloc HR.out.own _) ⟨wc.heap.size, 0, none⟩ 1 1 [.int .u16 (k : Int), .int .u8 2, .int .u16 0, .int .u64 bx, .int .u64 by9] rfl rfl (new_rowD wc _ 88) (ones5 _ _ _ _ _) (by have := HLl.out; unfold maxLen; omega) (by have := HLl.out; omega) (by have := HR.out.bel.size; simp; omega) ?_; intro v' w8 hown8 hgrow8 _ hwh8; have HR8 := hideIt (HR.out.app (d := ⟨k, 2, 0, bx, by9⟩) hown8 hgrow8 hwh8); clear hown8 hgrow8 hwh8)
                go_meet
                rw [HE.out]
                exact ⟨rfl, HR8.out⟩
            case rest =>
              have HL2 : Hid ((l0 ++ nt bx by9 ⟨k, 2, 0, bx, by9⟩).length ≤ 40000 - 200 + 2 * 10 + 10) := by
                have := HLl.out
                have := nt_le bx by9 ⟨k, 2, 0, bx, by9⟩
                show _ ≤ _
                rw [List.length_append]
                omega
              clear HR c70 c71 c72 c73 c74 c75 c80 c81 c82 c83 c84 c85 HLl
              have HR := hideIt hcut.2
              obtain ⟨rfl, _⟩ := hcut
              have HLl := HL2
              clear HL2
              obtain ⟨l2, hl2⟩ : ∃ l, l = l0 ++ nt bx by9 ⟨k, 2, 0, bx, by9⟩ := ⟨_, rfl⟩
              rw [← hl2] at HR HLl
              have HQ2 := hideIt hl2
              clear hl2
              have c70 : wc.cell? ⟨b7, 0, none⟩ = some (.int .u32 gx) := box_cell HR.out.h7 0
              have c80 : wc.cell? ⟨b8, 0, none⟩ = some (.int .u32 gy) := box_cell HR.out.h8 0
              have c71 : wc.cell? ⟨b7, 1, none⟩ = some (.int .u8 tx) := box_cell HR.out.h7 1
              have c81 : wc.cell? ⟨b8, 1, none⟩ = some (.int .u8 tx) := box_cell HR.out.h8 1
              have c72 : wc.cell? ⟨b7, 2, none⟩ = some (.int .u64 bx) := box_cell HR.out.h7 2
              have c82 : wc.cell? ⟨b8, 2, none⟩ = some (.int .u64 by9) := box_cell HR.out.h8 2
              have c73 : wc.cell? ⟨b7, 3, none⟩ = some (.int .u64 sx) := box_cell HR.out.h7 3
              have c83 : wc.cell? ⟨b8, 3, none⟩ = some (.int .u64 sy) := box_cell HR.out.h8 3
              have c74 : wc.cell? ⟨b7, 4, none⟩ = some (.int .i64 px) := box_cell HR.out.h7 4
              have c84 : wc.cell? ⟨b8, 4, none⟩ = some (.int .i64 py) := box_cell HR.out.h8 4
              have c75 : wc.cell? ⟨b7, 5, none⟩ = some (.slice ax wl cx) := box_cell HR.out.h7 5
              have c85 : wc.cell? ⟨b8, 5, none⟩ = some (.slice ay wy cy) := box_cell HR.out.h8 5
              go_upto_if 78 with fail
              go_cut [5, 11] from 11 to 141 (fun v5 v11 wx => v11 = .int .i64 (k : Int) ∧ Dfr w wx v5 (l2 ++ nt sx sy ⟨k, 3, 0, sx, sy⟩) b7 b8 #[.int .u32 gx, .int .u8 tx, .int .u64 bx, .int .u64 sx, .int .i64 px, .slice ax wl cx] #[.int .u32 gy, .int .u8 tx, .int .u64 by9, .int .u64 sy, .int .i64 py, .slice ay wy cy])
              case first =>
                by_cases hq : sx = sy
                · have HE : Hid (nt sx sy ⟨k, 3, 0, sx, sy⟩ = []) := by show _ = _; unfold nt; rw [if_pos (by rw [hq])]
                  have hqb : (sx != sy) = false := by rw [hq]; simp
                  go_wp2_with fail
                  go_meet
                  rw [HE.out, List.append_nil]
                  exact ⟨rfl, HR.out⟩
                · have HE : Hid (nt sx sy ⟨k, 3, 0, sx, sy⟩ = [⟨k, 3, 0, sx, sy⟩]) := by show _ = _; unfold nt; rw [if_neg (fun z => hq (by omega))]
                  have hqb : (sx != sy) = true := by rw [bne_iff_ne]; exact hq
                  go_wp2_with (at_builtin; refine wpList_append_own_at _ rfl (.tmp 79) (.tmp 86) 83 rfl w.heap.size 88 i8 (.agg #[.int .u16 0, .int .u8 0, .int .u16 0, .int .u64 0, .int .u64 0]) 5 24 Tryz.underlying83 hi8 hz8 hs8 hb8 rfl (by decide) _ _ _ rfl (World.ownsRow.alloc HR.out.own _) ⟨wc.heap.size, 0, none⟩ 1 1 [.int .u16 (k : Int), .int .u8 3, .int .u16 0, .int .u64 sx, .int .u64 sy] rfl rfl (new_rowD wc _ 88) (ones5 _ _ _ _ _) (by have := HLl.out; unfold maxLen; omega) (by have := HLl.out; omega) (by have := HR.out.bel.size; simp; omega) ?_; intro v' w8 hown8 hgrow8 _ hwh8; have HR8 := hideIt (HR.out.app (d := ⟨k, 3, 0, sx, sy⟩) hown8 hgrow8 hwh8); clear hown8 hgrow8 hwh8)
                  go_meet
                  rw [HE.out]
                  exact ⟨rfl, HR8.out⟩
              case rest =>
                have HL2 : Hid ((l2 ++ nt sx sy ⟨k, 3, 0, sx, sy⟩).length ≤ 40000 - 200 + 3 * 10 + 10) := by
                  have := HLl.out
                  have := nt_le sx sy ⟨k, 3, 0, sx, sy⟩
                  show _ ≤ _
                  rw [List.length_append]
                  omega
                clear HR c70 c71 c72 c73 c74 c75 c80 c81 c82 c83 c84 c85 HLl
                have HR := hideIt hcut.2
                obtain ⟨rfl, _⟩ := hcut
                have HLl := HL2
                clear HL2
                obtain ⟨l3, hl3⟩ : ∃ l, l = l2 ++ nt sx sy ⟨k, 3, 0, sx, sy⟩ := ⟨_, rfl⟩
                rw [← hl3] at HR HLl
                have HQ3 := hideIt hl3
                clear hl3
                have c70 : wc.cell? ⟨b7, 0, none⟩ = some (.int .u32 gx) := box_cell HR.out.h7 0
                have c80 : wc.cell? ⟨b8, 0, none⟩ = some (.int .u32 gy) := box_cell HR.out.h8 0
                have c71 : wc.cell? ⟨b7, 1, none⟩ = some (.int .u8 tx) := box_cell HR.out.h7 1
                have c81 : wc.cell? ⟨b8, 1, none⟩ = some (.int .u8 tx) := box_cell HR.out.h8 1
                have c72 : wc.cell? ⟨b7, 2, none⟩ = some (.int .u64 bx) := box_cell HR.out.h7 2
                have c82 : wc.cell? ⟨b8, 2, none⟩ = some (.int .u64 by9) := box_cell HR.out.h8 2
                have c73 : wc.cell? ⟨b7, 3, none⟩ = some (.int .u64 sx) := box_cell HR.out.h7 3
                have c83 : wc.cell? ⟨b8, 3, none⟩ = some (.int .u64 sy) := box_cell HR.out.h8 3
                have c74 : wc.cell? ⟨b7, 4, none⟩ = some (.int .i64 px) := box_cell HR.out.h7 4
                have c84 : wc.cell? ⟨b8, 4, none⟩ = some (.int .i64 py) := box_cell HR.out.h8 4
                have c75 : wc.cell? ⟨b7, 5, none⟩ = some (.slice ax wl cx) := box_cell HR.out.h7 5
                have c85 : wc.cell? ⟨b8, 5, none⟩ = some (.slice ay wy cy) := box_cell HR.out.h8 5
                go_upto_if 92 with fail
                go_cut [5, 11] from 11 to 141 (fun v5 v11 wx => v11 = .int .i64 (k : Int) ∧ Dfr w wx v5 (l3 ++ nt (px + 1) (py + 1) ⟨k, 4, 0, (px + 1), (py + 1)⟩) b7 b8 #[.int .u32 gx, .int .u8 tx, .int .u64 bx, .int .u64 sx, .int .i64 px, .slice ax wl cx] #[.int .u32 gy, .int .u8 tx, .int .u64 by9, .int .u64 sy, .int .i64 py, .slice ay wy cy])
                case first =>
                  by_cases hq : px = py
                  · have HE : Hid (nt (px + 1) (py + 1) ⟨k, 4, 0, (px + 1), (py + 1)⟩ = []) := by show _ = _; unfold nt; rw [if_pos (by rw [hq])]
                    have hqb : (px != py) = false := by rw [hq]; simp
                    go_wp2_with fail
                    go_meet
                    rw [HE.out, List.append_nil]
                    exact ⟨rfl, HR.out⟩
                  · have HE : Hid (nt (px + 1) (py + 1) ⟨k, 4, 0, (px + 1), (py + 1)⟩ = [⟨k, 4, 0, (px + 1), (py + 1)⟩]) := by show _ = _; unfold nt; rw [if_neg (fun z => hq (by omega))]
                    have hqb : (px != py) = true := by rw [bne_iff_ne]; exact hq
                    go_wp2_with (at_builtin; refine wpList_append_own_at _ rfl (.tmp 93) (.tmp 104) 83 rfl w.heap.size 88 i8 (.agg #[.int .u16 0, .int .u8 0, .int .u16 0, .int .u64 0, .int .u64 0]) 5 24 Tryz.underlying83 hi8 hz8 hs8 hb8 rfl (by decide) _ _ _ rfl (World.ownsRow.alloc HR.out.own _) ⟨wc.heap.size, 0, none⟩ 1 1 [.int .u16 (k : Int), .int .u8 4, .int .u16 0, .int .u64 (px + 1), .int .u64 (py + 1)] rfl rfl (new_rowD wc _ 88) (ones5 _ _ _ _ _) (by have := HLl.out; unfold maxLen; omega) (by have := HLl.out; omega) (by have := HR.out.bel.size; simp; omega) ?_; intro v' w8 hown8 hgrow8 _ hwh8; have HR8 := hideIt (HR.out.app (d := ⟨k, 4, 0, (px + 1), (py + 1)⟩) hown8 hgrow8 hwh8); clear hown8 hgrow8 hwh8)
                    go_meet
                    rw [HE.out]
                    exact ⟨rfl, HR8.out⟩
                case rest =>
                  have HL2 : Hid ((l3 ++ nt (px + 1) (py + 1) ⟨k, 4, 0, (px + 1), (py + 1)⟩).length ≤ 40000 - 200 + 4 * 10 + 10) := by
                    have := HLl.out
                    have := nt_le (px + 1) (py + 1) ⟨k, 4, 0, (px + 1), (py + 1)⟩
                    show _ ≤ _
                    rw [List.length_append]
                    omega
                  clear HR c70 c71 c72 c73 c74 c75 c80 c81 c82 c83 c84 c85 HLl
                  have HR := hideIt hcut.2
                  obtain ⟨rfl, _⟩ := hcut
                  have HLl := HL2
                  clear HL2
                  obtain ⟨l4, hl4⟩ : ∃ l, l = l3 ++ nt (px + 1) (py + 1) ⟨k, 4, 0, (px + 1), (py + 1)⟩ := ⟨_, rfl⟩
                  rw [← hl4] at HR HLl
                  have HQ4 := hideIt hl4
                  clear hl4
                  have c70 : wc.cell? ⟨b7, 0, none⟩ = some (.int .u32 gx) := box_cell HR.out.h7 0
                  have c80 : wc.cell? ⟨b8, 0, none⟩ = some (.int .u32 gy) := box_cell HR.out.h8 0
                  have c71 : wc.cell? ⟨b7, 1, none⟩ = some (.int .u8 tx) := box_cell HR.out.h7 1
                  have c81 : wc.cell? ⟨b8, 1, none⟩ = some (.int .u8 tx) := box_cell HR.out.h8 1
                  have c72 : wc.cell? ⟨b7, 2, none⟩ = some (.int .u64 bx) := box_cell HR.out.h7 2
                  have c82 : wc.cell? ⟨b8, 2, none⟩ = some (.int .u64 by9) := box_cell HR.out.h8 2
                  have c73 : wc.cell? ⟨b7, 3, none⟩ = some (.int .u64 sx) := box_cell HR.out.h7 3
                  have c83 : wc.cell? ⟨b8, 3, none⟩ = some (.int .u64 sy) := box_cell HR.out.h8 3
                  have c74 : wc.cell? ⟨b7, 4, none⟩ = some (.int .i64 px) := box_cell HR.out.h7 4
                  have c84 : wc.cell? ⟨b8, 4, none⟩ = some (.int .i64 py) := box_cell HR.out.h8 4
                  have c75 : wc.cell? ⟨b7, 5, none⟩ = some (.slice ax wl cx) := box_cell HR.out.h7 5
                  have c85 : wc.cell? ⟨b8, 5, none⟩ = some (.slice ay wy cy) := box_cell HR.out.h8 5
                  go_wp2_with fail
                  go_loopw [5, 109] (fun v5 v109 wr => ∃ f : Nat, f ≤ wl ∧ v109 = .int .i64 (f : Int) ∧ Dfr w wr v5 (l4 ++ dfW M N k f) b7 b8 #[.int .u32 gx, .int .u8 tx, .int .u64 bx, .int .u64 sx, .int .i64 px, .slice ax wl cx] #[.int .u32 gy, .int .u8 tx, .int .u64 by9, .int .u64 sy, .int .i64 py, .slice ay wy cy]) (fun _ j _ => wl - (intOf j).toNat)
                  case atStart => exact ⟨0, Nat.zero_le _, rfl, by rw [show dfW M N k 0 = [] from rfl, List.append_nil]; exact HR.out⟩
                  case round =>
                    obtain ⟨f, hf, rfl, hr⟩ := hrel
                    have HLf : Hid ((l4 ++ dfW M N k f).length ≤ 39990) := by
                      have := HLl.out
                      have := dfW_le M N k f
                      show _ ≤ _
                      rw [List.length_append]
                      omega
                    by_cases hfl : f < wl
                    · have hfl' : (f : Int) < (wl : Int) := by omega
                      have hfy' : (f : Int) < (wy : Int) := by have := HWY.out; omega
                      have hfw : IntKind.u16.wrap (f : Int) = (f : Int) := by unfold IntKind.wrap; simp [IntKind.bits, IntKind.signed]; omega
                      obtain ⟨X, hX⟩ : ∃ X, (M k).wds[f]? = some X := ⟨_, List.getElem?_eq_getElem (by rw [HWx.out]; exact hfl)⟩
                      obtain ⟨Y, hY⟩ : ∃ Y, (N k).wds[f]? = some Y := ⟨_, List.getElem?_eq_getElem (by rw [HWz.out]; have := HWY.out; omega)⟩
                      obtain ⟨_, ex, hcx, hlx⟩ := HDx.out.at hX
                      obtain ⟨_, ey, hcy, hly⟩ := HDy.out.at hY
                      have eax : ax = some ⟨wb k, 0, none⟩ := by injection ex
                      have eay : ay = some ⟨wn k, 0, none⟩ := by injection ey
                      have gX : (M k).wds.getD f 0 = X := by rw [List.getD_eq_getElem?_getD, hX]; rfl
                      have gY : (N k).wds.getD f 0 = Y := by rw [List.getD_eq_getElem?_getD, hY]; rfl
                      have HDw := hideIt (dfW_succ M N k f)
                      rw [gX, gY] at HDw
                      have KS : Hid (∀ w' : World, Below w.heap.size w w' → w'.heap[b7]? = some (.cells #[.int .u32 gx, .int .u8 tx, .int .u64 bx, .int .u64 sx, .int .i64 px, .slice (some ⟨wb k, 0, none⟩) wl cx] 147 (0, 0)) → w'.heap[b8]? = some (.cells #[.int .u32 gy, .int .u8 tx, .int .u64 by9, .int .u64 sy, .int .i64 py, .slice (some ⟨wn k, 0, none⟩) wy cy] 147 (0, 0)) → w'.cell? ⟨b7, 5, none⟩ = some (.slice (some ⟨wb k, 0, none⟩) wl cx) ∧ w'.cell? ⟨b8, 5, none⟩ = some (.slice (some ⟨wn k, 0, none⟩) wy cy) ∧ w'.cell? ⟨wb k, f, none⟩ = some (.int .u64 X) ∧ w'.cell? ⟨wn k, f, none⟩ = some (.int .u64 Y)) := fun w' hb q7 q8 => ⟨box_cell q7 5, box_cell q8 5, (hb.cell (p := ⟨wb k, f, none⟩) hlx).trans hcx, (hb.cell (p := ⟨wn k, f, none⟩) hly).trans hcy⟩
                      subst eax eay
                      obtain ⟨s1, s2, s3, s4⟩ := KS.out _ hr.bel hr.h7 hr.h8
                      have HRq := hideIt hr
                      clear hr hX hY ex ey hcx hcy gX gY
                      by_cases hq : X = Y
                      · have HE : Hid (dfW M N k (f + 1) = dfW M N k f) := by show _ = _; rw [HDw.out]; unfold nt; rw [if_pos hq, List.append_nil]
                        have hqb : (X != Y) = false := by rw [hq]; simp
                        go_wp2_with fail
                        go_quiet (fail)
                        go_wp2_with fail
                        go_roundw
                        case rel => exact ⟨f + 1, by omega, by go_num, by rw [HE.out]; exact HRq.out.below (belowN _ _)⟩
                        case measure => simp [intOf]; omega
                      · have HE : Hid (l4 ++ dfW M N k (f + 1) = l4 ++ dfW M N k f ++ [⟨k, 5, f, X, Y⟩]) := by show _ = _; rw [HDw.out]; unfold nt; rw [if_neg hq, List.append_assoc]
                        have hqb : (X != Y) = true := by rw [bne_iff_ne]; exact hq
                        go_wp2_with fail
                        go_quiet (fail)
                        have HRf := hideIt (HRq.out.below (belowN wr nq))
                        have t1 : (wr.drewN nq).cell? ⟨b7, 5, none⟩ = _ := s1
                        have t2 : (wr.drewN nq).cell? ⟨b8, 5, none⟩ = _ := s2
                        have t3 : (wr.drewN nq).cell? ⟨wb k, f, none⟩ = _ := s3
                        have t4 : (wr.drewN nq).cell? ⟨wn k, f, none⟩ = _ := s4
                        clear HRq s1 s2 s3 s4
                        generalize wr.drewN nq = w2 at *
                        have HOw := hideIt (fun (W' : World) (hb : Below w2.heap.size w2 W') => (HRf.out.below hb).own)
                        have KS2 : Hid (∀ W' : World, Below w2.heap.size w2 W' → W'.cell? ⟨b7, 5, none⟩ = some (.slice (some ⟨wb k, 0, none⟩) wl cx) ∧ W'.cell? ⟨b8, 5, none⟩ = some (.slice (some ⟨wn k, 0, none⟩) wy cy) ∧ W'.cell? ⟨wb k, f, none⟩ = some (.int .u64 X) ∧ W'.cell? ⟨wn k, f, none⟩ = some (.int .u64 Y)) := fun W' hb => KS.out W' (Below.thr HRf.out.bel hb) (HRf.out.below hb).h7 (HRf.out.below hb).h8
                        go_wp2_with fail
                        go_region_held3 (fun w' => w'.cell? ⟨b7, 5, none⟩ = some (.slice (some ⟨wb k, 0, none⟩) wl cx) ∧ w'.cell? ⟨b8, 5, none⟩ = some (.slice (some ⟨wn k, 0, none⟩) wy cy) ∧ w'.cell? ⟨wb k, f, none⟩ = some (.int .u64 X) ∧ w'.cell? ⟨wn k, f, none⟩ = some (.int .u64 Y)) (first | exact HS8 | exact KS2.out _ (below_d _) | exact KS2.out _ (Below.thr (alloc_below _) (below_d _)) | go_keep)
                          ((refine step_append_lies _ rfl _ _ 83 rfl w.heap.size 88 i8 (.agg #[.int .u16 0, .int .u8 0, .int .u16 0, .int .u64 0, .int .u64 0]) 5 24 Tryz.underlying83 hi8 hz8 hs8 hb8 rfl (by decide) u5 _ _ (by first | rfl | simp [Act.eval] | simp [Act.eval, Act.put]) (HOw.out _ (by first | exact Below.thr (alloc_below _) (below_d _) | exact Below.thr (below_d _) (alloc_below _))) ⟨w2.heap.size, 0, none⟩ 1 1 [.int .u16 (k : Int), .int .u8 5, .int .u16 (f : Int), .int .u64 X, .int .u64 Y] (by first | rfl | simp [Act.eval] | simp [Act.eval, Act.put]) rfl (fun j u hu => new_rowD w2 _ 88 j u hu) (ones5 _ _ _ _ _) (by decide) (by have := HLf.out; unfold maxLen; omega) (by have := HLf.out; omega) (by have := HRf.out.bel.size; simp; omega) _ rfl ?_; intro g9 c9 w8 hown8 hgrow8 hg8 hlt8; have HR8 := hideIt (HRf.out.app (d := ⟨k, 5, f, X, Y⟩) (o := .cells #[.int .u16 (k : Int), .int .u8 5, .int .u16 (f : Int), .int .u64 X, .int .u64 Y] 88) hown8 ⟨hgrow8.os, hgrow8.tape, hgrow8.output, hgrow8.size, hgrow8.block⟩ (hg8.imp (fun q => q.symm) (fun q => by rw [q]; rfl))); have HS8 := KS.out _ HR8.out.bel HR8.out.h7 HR8.out.h8; clear hown8 hgrow8 hg8 hlt8))
                        go_wp2_with fail
                        go_roundw
                        case rel => exact ⟨f + 1, by omega, by go_num, by rw [HE.out]; have h9 := HR8.out; rw [List.length_append] at h9; exact h9⟩
                        case measure => simp [intOf]; omega
                    · have hfe : f = wl := by omega
                      have HRq := hideIt hr
                      have HFe := hideIt hfe
                      clear hr
                      go_wp2_with fail
                      go_roundw
                      case rel =>
                        refine ⟨k + 1, by omega, by go_num, ?_, HRq.out.bel⟩
                        have e : dfL M N (k + 1) = l4 ++ dfW M N k f := by
                          rw [HDE.out, HD2.out (by trivial), HFe.out, HQ4.out, HQ3.out, HQ2.out, HQ0.out]
                          simp only [List.append_assoc]
                        rw [e]
                        exact HRq.out.own
                      case measure => simp [intOf]; omega
          · have htb : (tx != ty) = true := by rw [bne_iff_ne]; exact ht
            have HT := hideIt ht
            go_wp2_with (at_builtin; refine wpList_append_own_at _ rfl (.tmp 49) (.tmp 58) 83 rfl w.heap.size 88 i8 (.agg #[.int .u16 0, .int .u8 0, .int .u16 0, .int .u64 0, .int .u64 0]) 5 24 Tryz.underlying83 hi8 hz8 hs8 hb8 rfl (by decide) _ _ _ rfl (World.ownsRow.alloc HR.out.own _) ⟨wc.heap.size, 0, none⟩ 1 1 [.int .u16 (k : Int), .int .u8 1, .int .u16 0, .int .u64 tx, .int .u64 ty] rfl rfl (new_rowD wc _ 88) (ones5 _ _ _ _ _) (by have := HLl.out; unfold maxLen; omega) (by have := HLl.out; omega) (by have := HR.out.bel.size; simp; omega) ?_; intro v' w8 hown8 hgrow8 _ hwh8; have HR8 := hideIt (HR.out.app (d := ⟨k, 1, 0, tx, ty⟩) hown8 hgrow8 hwh8); clear hown8 hgrow8 hwh8)
            go_roundw
            case rel =>
              refine ⟨k + 1, by omega, by go_num, ?_, HR8.out.bel⟩
              rw [HDE.out, HD1.out HT.out, ← List.append_assoc, ← HQ0.out]
              exact HR8.out.own
            case measure => simp [intOf]; omega
    · have hk3 : k = 320 := by omega
      subst hk3
      have HO := hideIt hown
      have HB := hideIt hbr
      clear hown hbr
      go_wp2_with fail
      go_ret
      exact ⟨_, rfl, HO.out, HB.out⟩
end
end Go.Proofs.Qxb6500847aGreatDoor.Os
