/-
  disjoint on the model of a sound state.
-/
import Derived.Test.Qxb6500847aGreatDoorRtA
import Derived.Test.Qxb6500847aGreatDoorRtB
import Derived.Test.Qxb6500847aGreatDoorMdSs
import Derived.Test.Qxb6500847aGreatDoorMdSx
import Derived.Test.Qxb6500847aGreatDoorDfB
import Derived.Deep.CutRange
import Derived.Deep.RegionHeld3
namespace Go.Proofs.Qxb6500847aGreatDoor.Os
open Go.RowKit FloorA
set_option maxRecDepth 100000
/-- The live entries among the first k. -/
def lvI (M : Nat → En) (k : Nat) : List Nat := (List.range k).filter (fun i => decide ((M i).typ ≠ 0))
theorem lvI_succ (M : Nat → En) (k : Nat) : lvI M (k + 1) = lvI M k ++ if (M k).typ = 0 then [] else [k] := by
  unfold lvI
  rw [List.range_succ, List.filter_append]
  congr 1
  by_cases h : (M k).typ = 0 <;> simp [h]
theorem lvI_le (M : Nat → En) (k : Nat) : (lvI M k).length ≤ k := by
  unfold lvI
  exact Nat.le_trans (List.length_filter_le _ _) (by simp)
theorem lvI_mem {M : Nat → En} {k i : Nat} (h : i ∈ lvI M k) : i < k ∧ (M i).typ ≠ 0 := by
  unfold lvI at h
  rw [List.mem_filter] at h
  exact ⟨List.mem_range.1 h.1, by simpa using h.2⟩
def inL (l : List Nat) : List Value := l.map (fun (i : Nat) => Value.int .i64 (i : Int))
theorem one_int (a : Int) : ∀ u ∈ [Value.int .i64 a], u.oneCell' = true := by
  intro u hu
  simp at hu
  subst hu
  rfl
theorem inL_get {l : List Nat} {n : Nat} (h : n < l.length) : (inL l)[n]? = some (.int .i64 ((l[n] : Nat) : Int)) := by
  unfold inL
  rw [List.getElem?_map, List.getElem?_eq_getElem h]
  rfl
section
variable {w w' : World} {B : Nat} {wb : Nat → Nat} {M : Nat → En}
set_option maxHeartbeats 16000000 in
theorem disjoint_m (h : Md w B wb M) (hM : Mk M) (hG : Geo2 M) :
    Calls Tryz.prog 22 #[.pointer (some ⟨B, 0, none⟩)] w fun e w' => e = .returned (.bool true) ∧ Below w.heap.size w w' := by
  obtain ⟨i3, hi3, hz3, hs3, hb3⟩ := info_parts inf3
  have HM := hideIt h
  have HMk := hideIt hM
  have HGe := hideIt hG
  obtain ⟨vs, hvs, hrg⟩ := h.rng
  have HVs := hideIt hvs
  have HRg := hideIt hrg
  have HI8 : Hid ((Tryz.prog.info? 148).map (·.size) = some (csM M vs).length) := by show _ = _; rw [csM_len]; exact inf148
  have HIx := hideIt (fun k (hk : k < 320) w => idx148 M vs hk w)
  clear h hM hG hrg hvs
  generalize hcs : csM M vs = cs at *
  clear hcs
  go_enter Tryz.func22, Tryz.ntmps22
  go_wp2_with (refine wpList_load_mid rfl 148 (.tmp 16) rfl B 0 rfl cs _ HRg.out Tryz.underlying148 rfl HI8.out ?_)
  go_loopw [3, 18] (fun v3 v18 wr => ∃ k : Nat, k ≤ 320 ∧ v18 = .int .i64 (k : Int) ∧ wr.ownsRow w.heap.size 3 1 v3 (lvI M k).length (inL (lvI M k)) ∧ Below w.heap.size w wr) (fun _ i _ => 320 - (intOf i).toNat)
  case atStart => exact ⟨0, by omega, rfl, ⟨rfl, Or.inl ⟨rfl, rfl⟩⟩, Below.refl _ _⟩
  case round =>
    obtain ⟨k, hk, rfl, hown, hbr⟩ := hrel
    by_cases hlt : k < 320
    · have hlt' : (k : Int) < 320 := by omega
      have hix : ∀ w, (Instr.index 148 (.agg cs.toArray) (.int .i64 (k : Int))).run Tryz.prog w = .ok (.agg #[.int .u32 (M k).gen, .int .u8 (M k).typ, .int .u64 (M k).bas, .int .u64 (M k).siz, .int .i64 (pz (M k).par), vs k]) w := fun w => HIx.out k hlt w
      obtain ⟨av, nv, cv, hvf⟩ : ∃ a n c, vs k = .slice a n c := by obtain ⟨a, c, e⟩ := (HVs.out k hlt).form; exact ⟨a, _, c, e⟩
      rw [hvf] at hix
      have HLs := hideIt (lvI_succ M k)
      have HLk := hideIt (lvI_le M k)
      have hbE := alloc_below (w := wr) (.cells #[.int .u32 (M k).gen, .int .u8 (M k).typ, .int .u64 (M k).bas, .int .u64 (M k).siz, .int .i64 (pz (M k).par), .slice av nv cv] 147)
      have hnE := heap_new wr (.cells #[.int .u32 (M k).gen, .int .u8 (M k).typ, .int .u64 (M k).bas, .int .u64 (M k).siz, .int .i64 (pz (M k).par), .slice av nv cv] 147)
      have HO2 := hideIt (World.ownsRow.alloc hown (.cells #[.int .u32 (M k).gen, .int .u8 (M k).typ, .int .u64 (M k).bas, .int .u64 (M k).siz, .int .i64 (pz (M k).par), .slice av nv cv] 147))
      have HB2 := hideIt (Below.thr hbr hbE)
      have HOl : Hid (∀ q, Value.ownBlock u3 = some q → q < wr.heap.size) := fun q hq => (owns_lt hown q hq).2
      obtain ⟨a3, c3, hf3⟩ := own_formD hown
      subst hf3
      clear hown hbr hbE hvf
      obtain ⟨hsb, hsc, hsd⟩ := HMk.out.bas k hlt
      have HPar := hideIt (HMk.out.par k hlt)
      have HLv := hideIt (HGe.out.lv k)
      have HIn := hideIt (HGe.out.ins k)
      have HU3 := hideIt (HMk.out.bas)
      have HUv : Hid (∀ p : Nat, p < 320 → ∃ a n c, ∀ W, Below w.heap.size w W → W.cell? ⟨B, p * 6 + 5, none⟩ = some (.slice a n c)) := fun p hp => by
        obtain ⟨v, h1, h2⟩ := HM.out.wrd p hp
        obtain ⟨a, c, e⟩ := h2.form
        subst e
        exact ⟨a, _, c, fun W hW => (hW.cell (p := ⟨B, p * 6 + 5, none⟩) (cell_lt h1)).trans h1⟩
      by_cases h0 : (M k).typ = 0
      · have HE : Hid (lvI M (k + 1) = lvI M k) := by show _ = _; rw [HLs.out, if_pos h0, List.append_nil]
        rw [h0] at hix hnE
        rw [h0] at HO2 HB2
        have y1 := box_cell hnE 1
        simp only [List.getElem?_toArray, List.getElem?_cons_zero, List.getElem?_cons_succ] at y1
        clear HLs h0 hnE HLv HIn HPar HU3 HUv
        generalize (M k).gen = ge at *
        generalize (M k).bas = ba at *
        generalize (M k).siz = si at *
        generalize pz (M k).par = pa at *
        go_wp2_with fail
        go_roundw
        case rel => exact ⟨k + 1, by omega, by go_num, by rw [HE.out]; exact HO2.out, HB2.out⟩
        case measure => simp [intOf]; omega
      · have HE : Hid (lvI M (k + 1) = lvI M k ++ [k]) := by show _ = _; rw [HLs.out, if_neg h0]
        have k0 : ((M k).typ == 0) = false := by rw [beq_eq_false_iff_ne]; exact h0
        have HT0 : Hid ((M k).typ ≠ 0) := h0
        have HEc : Hid (∀ W : World, W.heap[wr.heap.size]? = some (.cells #[.int .u32 (M k).gen, .int .u8 (M k).typ, .int .u64 (M k).bas, .int .u64 (M k).siz, .int .i64 (pz (M k).par), .slice av nv cv] 147 (0, 0)) → W.cell? ⟨wr.heap.size, 1, none⟩ = some (.int .u8 (M k).typ) ∧ W.cell? ⟨wr.heap.size, 2, none⟩ = some (.int .u64 (M k).bas) ∧ W.cell? ⟨wr.heap.size, 3, none⟩ = some (.int .u64 (M k).siz) ∧ W.cell? ⟨wr.heap.size, 4, none⟩ = some (.int .i64 (pz (M k).par))) := fun W hW => ⟨box_cell hW 1, box_cell hW 2, box_cell hW 3, box_cell hW 4⟩
        obtain ⟨y1, y2, y3, y4⟩ := HEc.out _ hnE
        have HnE := hideIt hnE
        have HZ2 : Hid (w.heap.size ≤ (wr.alloc (.cells #[.int .u32 (M k).gen, .int .u8 (M k).typ, .int .u64 (M k).bas, .int .u64 (M k).siz, .int .i64 (pz (M k).par), .slice av nv cv] 147)).heap.size) := HB2.out.size
        have HNx : Hid (wr.heap.size < (wr.alloc (.cells #[.int .u32 (M k).gen, .int .u8 (M k).typ, .int .u64 (M k).bas, .int .u64 (M k).siz, .int .i64 (pz (M k).par), .slice av nv cv] 147)).heap.size) := by show _ < _; simp
        clear HLs h0 hnE
        generalize (M k).gen = ge at *
        generalize (M k).typ = ty at *
        generalize hba : (M k).bas = ba at *
        generalize hsi : (M k).siz = si at *
        generalize hpa : (M k).par = pa at *
        have Hba := hideIt hba
        have Hsi := hideIt hsi
        have Hpa := hideIt hpa
        clear hba hsi hpa
        go_upto_region 6 with fail
        generalize wr.alloc (.cells #[.int .u32 ge, .int .u8 ty, .int .u64 ba, .int .u64 si, .int .i64 (pz pa), .slice av nv cv] 147) = w2 at *
        generalize wr.heap.size = E at *
        go_upto_region 7 with (at_builtin; refine wpList_append_own_at _ rfl (.tmp 25) (.tmp 27) 209 rfl w.heap.size 3 i3 (.int .i64 0) 1 8 Tryz.underlying209 hi3 hz3 hs3 hb3 rfl (by decide) _ _ _ rfl (World.ownsRow.alloc HO2.out _) ⟨w2.heap.size, 0, none⟩ 1 1 [.int .i64 (k : Int)] rfl rfl (cell_one_new w2 _ _) (one_int _) (by have := HLk.out; unfold maxLen; omega) (by have := HLk.out; omega) (by have := HZ2.out; simp; omega) ?_; intro v5 w5 hown5 hgrow5 _ hwh5; have hE5 : w5.heap[E]? = _ := (hgrow5.block E (by have := HNx.out; simp; omega) (fun e => by have := HOl.out E e.symm; omega)).trans ((heap_alloc_old _ _ HNx.out).trans HnE.out); have hb5 : Below w.heap.size w w5 := (HB2.out.trans ((alloc_below (w := w2) (.cells #[.int .i64 (k : Int)] 3)).mono HZ2.out)).trans ⟨hgrow5.os, hgrow5.tape, hgrow5.output, hgrow5.size, fun q hq => hgrow5.block q (by have := HZ2.out; simp; omega) (fun e => by have := (owns_lt HO2.out q e.symm).1; omega)⟩; obtain ⟨a5, c5, hf5⟩ := own_formD hown5; subst hf5; have HE5 := hideIt hE5; have HB5 := hideIt hb5; have HO5 : Hid (w5.ownsRow w.heap.size 3 1 (.slice a5 ((lvI M k).length + 1) c5) (lvI M (k + 1)).length (inL (lvI M (k + 1)))) := (by show World.ownsRow _ _ _ _ _ _ _; rw [HE.out, List.length_append]; unfold inL; rw [List.map_append]; exact hown5); clear hown5 hgrow5 hwh5 hE5 hb5)
        obtain ⟨x1, x2, x3, x4⟩ := HEc.out w5 HE5.out
        clear y1 y2 y3 y4 HO2 HB2 HnE HOl
        rcases HPar.out with hp | ⟨p, p3, hp⟩
        · subst hp
          have hpz : pz 65535 = -1 := rfl
          rw [hpz] at x4
          clear hpz HLv HIn HPar HU3 HUv HEc
          go_wp2_with fail
          go_roundw
          case rel => exact ⟨k + 1, by omega, by go_num, HO5.out, HB5.out⟩
          case measure => simp [intOf]; omega
        · subst hp
          have hpz : pz (p : Int) = (p : Int) := by unfold pz; rw [if_neg (by omega)]
          rw [hpz] at x4
          have hne : ((p : Int) == -1) = false := by rw [beq_eq_false_iff_ne]; omega
          have p4 : (p : Int) < 320 := by omega
          obtain ⟨_, tp⟩ := HLv.out p hlt HT0.out p3 rfl
          have hin := HIn.out p hlt HT0.out p3 rfl
          unfold Ins at hin
          rw [Hba.out, Hsi.out] at hin
          obtain ⟨pu1, pu2, pu3⟩ := HU3.out p p3
          obtain ⟨pav, pnv, pcv, hpv⟩ := HUv.out p p3
          have KP : Hid (∀ W, Below w.heap.size w W → W.cell? ⟨B, p * 6, none⟩ = some (.int .u32 (M p).gen) ∧ W.cell? ⟨B, p * 6 + 1, none⟩ = some (.int .u8 1) ∧ W.cell? ⟨B, p * 6 + 2, none⟩ = some (.int .u64 (M p).bas) ∧ W.cell? ⟨B, p * 6 + 3, none⟩ = some (.int .u64 (M p).siz) ∧ W.cell? ⟨B, p * 6 + 4, none⟩ = some (.int .i64 (pz (M p).par)) ∧ W.cell? ⟨B, p * 6 + 5, none⟩ = some (.slice pav pnv pcv)) := fun W hW => by
            have hm := HM.out.below hW
            have t1 := hm.typ p3
            rw [tp] at t1
            exact ⟨hm.gen p3, t1, hm.bas p3, hm.siz p3, hm.par p3, hpv W hW⟩
          obtain ⟨q0, q1, q2, q3, q4, q5⟩ := KP.out w5 HB5.out
          have hl1 : ¬ ba < (M p).bas := by omega
          have hw1 : IntKind.u64.wrap (ba + si) = ba + si := u64_same (by omega) (by omega)
          have hw2 : IntKind.u64.wrap ((M p).bas + (M p).siz) = (M p).bas + (M p).siz := u64_same (by omega) (by omega)
          have hl2 : ¬ ba + si > (M p).bas + (M p).siz := by omega
          have HKE : Hid (E < w5.heap.size) := heap_lt HE5.out
          clear HLv HIn HPar HU3 HUv hin tp hpv pu1 pu2 pu3 hsb hsc hsd hpz
          generalize (M p).gen = pge at *
          generalize (M p).bas = pba at *
          generalize (M p).siz = psi at *
          generalize pz (M p).par = ppa at *
          go_wp2_with fail
          go_region_held3 (fun w' => w'.cell? ⟨E, 4, none⟩ = some (.int .i64 (p : Int)) ∧ w'.cell? ⟨B, p * 6, none⟩ = some (.int .u32 pge) ∧ w'.cell? ⟨B, p * 6 + 1, none⟩ = some (.int .u8 1) ∧ w'.cell? ⟨B, p * 6 + 2, none⟩ = some (.int .u64 pba) ∧ w'.cell? ⟨B, p * 6 + 3, none⟩ = some (.int .u64 psi) ∧ w'.cell? ⟨B, p * 6 + 4, none⟩ = some (.int .i64 ppa) ∧ w'.cell? ⟨B, p * 6 + 5, none⟩ = some (.slice pav pnv pcv)) (go_keep) (fail)
          all_goals
            have hb6 := alloc_below (w := w5) (.cells #[.int .u32 pge, .int .u8 1, .int .u64 pba, .int .u64 psi, .int .i64 ppa, .slice pav pnv pcv] 147)
            have hn6 := heap_new w5 (.cells #[.int .u32 pge, .int .u8 1, .int .u64 pba, .int .u64 psi, .int .i64 ppa, .slice pav pnv pcv] 147)
            obtain ⟨x1', x2', x3', x4'⟩ := HEc.out _ ((hb6.block E HKE.out).trans HE5.out)
            have n1 := box_cell hn6 1
            have n2 := box_cell hn6 2
            have n3 := box_cell hn6 3
            simp only [List.getElem?_toArray, List.getElem?_cons_zero, List.getElem?_cons_succ] at n1 n2 n3
            have HB7 := hideIt (Below.thr (Below.thr HB5.out hb6) (below_d _))
            have HO7 := hideIt (owns_keep HO5.out (fun q hq => (Below.thr hb6 (below_d _)).block q (owns_lt HO5.out q hq).2))
            clear hb6 hn6
            go_wp2_with fail
            go_roundw
            case rel => exact ⟨k + 1, by omega, by go_num, HO7.out, HB7.out⟩
            case measure => simp [intOf]; omega
    · have hk3 : (k : Int) = 320 := by omega
      have hk4 : k = 320 := by omega
      rw [hk4] at hown
      rw [hk3]
      clear hk3 hk4
      obtain ⟨wq, hwq⟩ : ∃ wq, wq = wr := ⟨_, rfl⟩
      subst hwq
      obtain ⟨a3, c3, hf3⟩ := own_formD hown
      subst hf3
      have hcap : (lvI M 320).length ≤ c3 ∧ (0 < (lvI M 320).length → ∃ g, a3 = some ⟨g, 0, none⟩ ∧ ∀ n (hn : n < (lvI M 320).length), wq.cell? ⟨g, n, none⟩ = some (.int .i64 (((lvI M 320)[n] : Nat) : Int))) := by
        rcases hown.2 with ⟨e1, e2⟩ | ⟨g, cc, cur, e1, _, _, e4, _⟩
        · exact ⟨by omega, fun q => by omega⟩
        · injection e1 with e1a _ e1c
          refine ⟨by rw [e1c]; exact e4, fun _ => ⟨g, e1a, fun n hn => ?_⟩⟩
          have := World.ownsRow.cells hown (g := g) (by rw [e1a]; rfl) n _ (inL_get hn)
          have ead : (⟨g, 0, none⟩ : Addr).add n = ⟨g, n, none⟩ := by unfold Addr.add; by_cases e : n = 0 <;> simp [e]
          rwa [ead] at this
      have HMem : Hid (∀ n (hn : n < (lvI M 320).length), (lvI M 320)[n] < 320 ∧ (M (lvI M 320)[n]).typ ≠ 0) := fun n hn => lvI_mem (List.getElem_mem hn)
      have HLL := hideIt (lvI_le M 320)
      have hcc := hcap.1
      have HCa := hideIt hcap.2
      have HBq := hideIt hbr
      clear hown hbr hcap HVs HRg HI8 HIx
      generalize lvI M 320 = l at *
      go_wp2_with fail
      go_loopw [65] (fun v65 wr => ∃ n : Nat, n ≤ l.length ∧ v65 = .int .i64 (n : Int) ∧ Below wq.heap.size wq wr) (fun i _ => l.length - (intOf i).toNat)
      case atStart => exact ⟨0, Nat.zero_le _, rfl, Below.refl _ _⟩
      case round =>
        obtain ⟨n, hn, rfl, hbr⟩ := hrel
        by_cases hln : n < l.length
        · have hln' : (n : Int) < (l.length : Int) := by omega
          have hln3 : n < 320 := by have := HLL.out; omega
          obtain ⟨g, rfl, hgc⟩ := HCa.out (by omega)
          have xi := (hbr.cell (p := ⟨g, n, none⟩) (cell_lt (hgc n hln))).trans (hgc n hln)
          obtain ⟨il, it⟩ := HMem.out n hln
          have HBR := hideIt hbr
          have HGC := hideIt hgc
          have kn1 : (n : Int) + 1 ≤ (l.length : Int) := by omega
          have kn2 : (l.length : Int) ≤ (c3 : Int) := by omega
          have kn3 : (0 : Int) ≤ (n : Int) + 1 := by omega
          clear hbr hgc
          generalize l[n] = i at *
          by_cases hnx : n + 1 < l.length
          · have hcn : ¬ c3 - (n + 1) = 0 := by omega
            have hcn2 : ¬ c3 = n + 1 := by omega
            have hcn3 : ¬ c3 ≤ n + 1 := by omega
            obtain ⟨ia, inn, ic, hic⟩ : ∃ a n c, ∀ W, Below w.heap.size w W → W.cell? ⟨B, i * 6 + 5, none⟩ = some (.slice a n c) := by
              obtain ⟨v, h1, h2⟩ := HM.out.wrd i il
              obtain ⟨a, c, e⟩ := h2.form
              subst e
              exact ⟨a, _, c, fun W hW => (hW.cell (p := ⟨B, i * 6 + 5, none⟩) (cell_lt h1)).trans h1⟩
            have HIc := hideIt hic
            clear hic
            go_wp2_with fail
            go_loopw [75] (fun v75 wr => ∃ m : Nat, m ≤ l.length - (n + 1) ∧ v75 = .int .i64 (m : Int) ∧ Below wq.heap.size wq wr) (fun i _ => l.length - (n + 1) - (intOf i).toNat)
            case atStart => exact ⟨0, Nat.zero_le _, rfl, HBR.out⟩
            case round =>
              clear xi HBR
              obtain ⟨m, hm, rfl, hbr⟩ := hrel
              by_cases hlm : m < l.length - (n + 1)
              · have hlm' : (m : Int) < ((l.length - (n + 1) : Nat) : Int) := by omega
                have hm3 : m < 320 := by have := HLL.out; omega
                have xj := (hbr.cell (p := ⟨g, n + 1 + m, none⟩) (cell_lt (HGC.out (n + 1 + m) (by omega)))).trans (HGC.out (n + 1 + m) (by omega))
                obtain ⟨jl, jt⟩ := HMem.out (n + 1 + m) (by omega)
                have HBR := hideIt hbr
                have HBW := hideIt (Below.thr HBq.out hbr)
                clear hbr
                generalize l[n + 1 + m] = j at *
                obtain ⟨ja, jn, jc, hjc⟩ : ∃ a n c, ∀ W, Below w.heap.size w W → W.cell? ⟨B, j * 6 + 5, none⟩ = some (.slice a n c) := by
                  obtain ⟨v, h1, h2⟩ := HM.out.wrd j jl
                  obtain ⟨a, c, e⟩ := h2.form
                  subst e
                  exact ⟨a, _, c, fun W hW => (hW.cell (p := ⟨B, j * 6 + 5, none⟩) (cell_lt h1)).trans h1⟩
                have hmw := HM.out.below HBW.out
                have i0 := hmw.gen il
                have i1 := hmw.typ il
                have i2 := hmw.bas il
                have i3' := hmw.siz il
                have i4 := hmw.par il
                have i5 := HIc.out _ HBW.out
                have j0 := hmw.gen jl
                have j1 := hmw.typ jl
                have j2 := hmw.bas jl
                have j3 := hmw.siz jl
                have j4 := hmw.par jl
                have j5 := hjc _ HBW.out
                have il' : (i : Int) < 320 := by omega
                have jl' : (j : Int) < 320 := by omega
                obtain ⟨ib1, ib2, ib3⟩ := HMk.out.bas i il
                obtain ⟨jb1, jb2, jb3⟩ := HMk.out.bas j jl
                have wi : IntKind.u64.wrap ((M i).bas + (M i).siz) = (M i).bas + (M i).siz := u64_same (by omega) (by omega)
                have wj : IntKind.u64.wrap ((M j).bas + (M j).siz) = (M j).bas + (M j).siz := u64_same (by omega) (by omega)
                obtain ⟨li, hli⟩ := HGe.out.up i il it
                obtain ⟨lj, hlj⟩ := HGe.out.up j jl jt
                have HMain := hideIt (HGe.out.main li i j lj il jl it jt hli hlj)
                have HRi : Hid (∀ W, Below w.heap.size w W → Calls Tryz.prog 97 #[.pointer (some ⟨B, 0, none⟩), .int .i64 (i : Int), .int .i64 (j : Int)] W fun e w' => e = .returned (.bool (decide (j ∈ i :: li))) ∧ w' = W) := fun W hW => by
                  have := related_m (HM.out.below hW) (x0 := (i : Int)) (l0 := i :: li) ⟨rfl, il, hli⟩ j
                  rwa [show pz (i : Int) = (i : Int) from by unfold pz; rw [if_neg (by omega)]] at this
                have HRj : Hid (∀ W, Below w.heap.size w W → Calls Tryz.prog 97 #[.pointer (some ⟨B, 0, none⟩), .int .i64 (j : Int), .int .i64 (i : Int)] W fun e w' => e = .returned (.bool (decide (i ∈ j :: lj))) ∧ w' = W) := fun W hW => by
                  have := related_m (HM.out.below hW) (x0 := (j : Int)) (l0 := j :: lj) ⟨rfl, jl, hlj⟩ i
                  rwa [show pz (j : Int) = (j : Int) from by unfold pz; rw [if_neg (by omega)]] at this
                clear hmw hjc hli hlj
                go_upto_region 18 with fail
                go_cut [11, 12, 75] from 75 to 124 (fun v11 v12 v75 wx => v75 = .int .i64 (m : Int) ∧ ∃ b7 b8, v11 = .pointer (some ⟨b7, 0, none⟩) ∧ v12 = .pointer (some ⟨b8, 0, none⟩) ∧ Below wr.heap.size wr wx ∧ wx.heap[b7]? = some (.cells #[.int .u32 (M i).gen, .int .u8 (M i).typ, .int .u64 (M i).bas, .int .u64 (M i).siz, .int .i64 (pz (M i).par), .slice ia inn ic] 147 (0, 0)) ∧ wx.heap[b8]? = some (.cells #[.int .u32 (M j).gen, .int .u8 (M j).typ, .int .u64 (M j).bas, .int .u64 (M j).siz, .int .i64 (pz (M j).par), .slice ja jn jc] 147 (0, 0)))
                case first =>
                  go_region_held3 (fun w' => w'.cell? ⟨B, i * 6, none⟩ = some (.int .u32 (M i).gen) ∧ w'.cell? ⟨B, i * 6 + 1, none⟩ = some (.int .u8 (M i).typ) ∧ w'.cell? ⟨B, i * 6 + 2, none⟩ = some (.int .u64 (M i).bas) ∧ w'.cell? ⟨B, i * 6 + 3, none⟩ = some (.int .u64 (M i).siz) ∧ w'.cell? ⟨B, i * 6 + 4, none⟩ = some (.int .i64 (pz (M i).par)) ∧ w'.cell? ⟨B, i * 6 + 5, none⟩ = some (.slice ia inn ic) ∧ w'.cell? ⟨B, j * 6, none⟩ = some (.int .u32 (M j).gen) ∧ w'.cell? ⟨B, j * 6 + 1, none⟩ = some (.int .u8 (M j).typ) ∧ w'.cell? ⟨B, j * 6 + 2, none⟩ = some (.int .u64 (M j).bas) ∧ w'.cell? ⟨B, j * 6 + 3, none⟩ = some (.int .u64 (M j).siz) ∧ w'.cell? ⟨B, j * 6 + 4, none⟩ = some (.int .i64 (pz (M j).par)) ∧ w'.cell? ⟨B, j * 6 + 5, none⟩ = some (.slice ja jn jc)) (go_keep) (fail)
                  all_goals (try go_wp2_with fail)
                  all_goals go_meet
                  all_goals first
                    | exact ⟨rfl, _, _, rfl, rfl, Below.thr (two_below _ _) (below_d _), (heap_alloc_old _ _ (by simp)).trans (heap_new _ _), new_at _ _ (by simp)⟩
                    | exact ⟨rfl, _, _, rfl, rfl, Below.thr (two_below _ _) (below_d _), new_at _ _ (by simp), (heap_alloc_old _ _ (by simp)).trans (heap_new _ _)⟩
                case rest =>
                  obtain ⟨rfl, b7, b8, rfl, rfl, hbx, h7, h8⟩ := hcut
                  have r2 := box_cell h7 2
                  have r3 := box_cell h7 3
                  have s2 := box_cell h8 2
                  have s3 := box_cell h8 3
                  simp only [List.getElem?_toArray, List.getElem?_cons_zero, List.getElem?_cons_succ] at r2 r3 s2 s3
                  have HBX := hideIt (Below.thr HBR.out hbx)
                  have HBY := hideIt (Below.thr HBW.out hbx)
                  have HR1 := hideIt (HRi.out wc HBY.out)
                  have HR2 := hideIt (HRj.out wc HBY.out)
                  clear hbx h7 h8 HRi HRj i0 i1 i2 i3' i4 i5 j0 j1 j2 j3 j4 j5
                  unfold Apt at HMain
                  generalize (M i).bas = bi at *
                  generalize (M i).siz = si at *
                  generalize (M j).bas = bj at *
                  generalize (M j).siz = sj at *
                  by_cases m1 : bi < bj + sj
                  · by_cases m2 : bj < bi + si
                    · by_cases rm : j ∈ i :: li
                      · have rd : decide (j ∈ i :: li) = true := decide_eq_true rm
                        rw [rd] at HR1
                        clear rm rd HMain
                        go_wp2_with (go_at_call 97; refine HR1.out.mono ?_; rintro e w' ⟨rfl, hw'⟩; obtain rfl := hw'.symm)
                        go_roundw
                        case rel => exact ⟨m + 1, by omega, by go_num, HBX.out⟩
                        case measure => simp [intOf]; omega
                      · have rm2 : i ∈ j :: lj := by
                          rcases HMain.out with q | q | q
                          · omega
                          · exact absurd (List.mem_cons.2 q) rm
                          · exact List.mem_cons.2 q
                        have rd : decide (j ∈ i :: li) = false := decide_eq_false rm
                        have rd2 : decide (i ∈ j :: lj) = true := decide_eq_true rm2
                        rw [rd] at HR1
                        rw [rd2] at HR2
                        clear rm rm2 rd rd2 HMain
                        go_wp2_with (go_at_call 97; first | (refine HR1.out.mono ?_; rintro e w' ⟨rfl, hw'⟩; obtain rfl := hw'.symm; clear HR1 hw') | (refine HR2.out.mono ?_; rintro e w' ⟨rfl, hw'⟩; obtain rfl := hw'.symm))
                        go_roundw
                        case rel => exact ⟨m + 1, by omega, by go_num, HBX.out⟩
                        case measure => simp [intOf]; omega
                    · clear HMain
                      go_wp2_with fail
                      go_roundw
                      case rel => exact ⟨m + 1, by omega, by go_num, HBX.out⟩
                      case measure => simp [intOf]; omega
                  · clear HMain
                    go_wp2_with fail
                    go_roundw
                    case rel => exact ⟨m + 1, by omega, by go_num, HBX.out⟩
                    case measure => simp [intOf]; omega
              · obtain rfl : m = l.length - (n + 1) := by omega
                have HBR := hideIt hbr
                clear hbr
                go_wp2_with fail
                go_roundw
                case rel => exact ⟨n + 1, by omega, by go_num, HBR.out⟩
                case measure => simp [intOf]; omega
          have hz : ((l.length - (n + 1) : Nat) : Int) = 0 := by omega
          have hz2 : l.length - (n + 1) = 0 := by omega
          by_cases hcz : c3 = n + 1
          · subst hcz
            go_wp2_with fail
            go_loopw [75] (fun v75 wr' => v75 = .int .i64 0 ∧ wr' = wr) (fun _ _ => 0)
            case atStart => exact ⟨rfl, rfl⟩
            case round =>
              obtain ⟨rfl, hwr⟩ := hrel
              subst hwr
              go_wp2_with fail
              go_roundw
              case rel => exact ⟨n + 1, by omega, by go_num, HBR.out⟩
              case measure => simp [intOf]; omega
          · have hcn : ¬ c3 - (n + 1) = 0 := by omega
            have hcn3 : ¬ c3 ≤ n + 1 := by omega
            go_wp2_with fail
            go_loopw [75] (fun v75 wr' => v75 = .int .i64 0 ∧ wr' = wr) (fun _ _ => 0)
            case atStart => exact ⟨rfl, rfl⟩
            case round =>
              obtain ⟨rfl, hwr⟩ := hrel
              subst hwr
              go_wp2_with fail
              go_roundw
              case rel => exact ⟨n + 1, by omega, by go_num, HBR.out⟩
              case measure => simp [intOf]; omega
        · obtain rfl : n = l.length := by omega
          have HF := hideIt (Below.thr HBq.out hbr)
          clear hbr
          go_wp2_with fail
          go_ret
          exact ⟨rfl, HF.out⟩
end
end Go.Proofs.Qxb6500847aGreatDoor.Os
