/-
  The abstract model: children.
-/
import Derived.Test.Qxb6500847aGreatDoorMdC
namespace Go.Proofs.Qxb6500847aGreatDoor.Os
open Go.RowKit FloorA
set_option maxRecDepth 100000
/-- The live entries below k whose parent is p. -/
def chl (M : Nat → En) (p k : Nat) : List Nat := (List.range k).filter (fun j => decide ((M j).typ ≠ 0 ∧ (M j).par = (p : Int)))
theorem chl_succ (M : Nat → En) (p k : Nat) : chl M p (k + 1) = if (M k).typ ≠ 0 ∧ (M k).par = (p : Int) then chl M p k ++ [k] else chl M p k := by
  unfold chl
  rw [List.range_succ, List.filter_append]
  by_cases h : (M k).typ ≠ 0 ∧ (M k).par = (p : Int)
  · rw [if_pos h, List.filter_cons_of_pos (by simpa using h)]; simp
  · rw [if_neg h, List.filter_cons_of_neg (by simpa using h)]; simp
theorem chl_le (M : Nat → En) (p k : Nat) : (chl M p k).length ≤ k := by
  unfold chl
  exact Nat.le_trans (List.length_filter_le _ _) (by simp)
theorem chl_mem (M : Nat → En) (p k c : Nat) : c ∈ chl M p k ↔ c < k ∧ (M c).typ ≠ 0 ∧ (M c).par = (p : Int) := by
  unfold chl
  rw [List.mem_filter, List.mem_range]
  simp
/-- Sorted by address they are the children. -/
theorem chl_kds {M : Nat → En} {p : Nat} {l : List Nat} (hK : ∃ l, IsK M p l) (hp : l.Perm (chl M p 320)) (hs : l.Pairwise (fun x y => (M x).bas ≤ (M y).bas)) : l = kdsM M p := by
  obtain ⟨l1, h1⟩ := hK
  rw [kds_eq h1]
  have nd : l.Nodup := hp.nodup_iff.2 (List.nodup_range.filter _)
  have mem : ∀ c, c ∈ l ↔ c ∈ l1 := fun c => by rw [hp.mem_iff, chl_mem, h1.1]
  have ne : ∀ x y, x ∈ l → y ∈ l → x ≠ y → (M x).bas ≠ (M y).bas := fun x y hx hy hxy e => by
    have hx1 := (mem x).1 hx
    have hy1 := (mem y).1 hy
    obtain ⟨i, hi, ei⟩ := List.getElem_of_mem hx1
    obtain ⟨j, hj, ej⟩ := List.getElem_of_mem hy1
    have pw := List.pairwise_iff_getElem.1 h1.2
    rcases Nat.lt_trichotomy i j with q | q | q
    · have := pw i j hi hj q; rw [ei, ej] at this; omega
    · subst q; exact hxy (ei.symm.trans ej)
    · have := pw j i hj hi q; rw [ei, ej] at this; omega
  refine IsK.uniq (M := M) (p := p) ⟨fun c => by rw [mem, h1.1], ?_⟩ h1
  rw [List.pairwise_iff_getElem] at hs ⊢
  intro i j hi hj hij
  have e := hs i j hi hj hij
  have e2 := ne _ _ (List.getElem_mem hi) (List.getElem_mem hj) (List.pairwise_iff_getElem.1 nd i j hi hj hij)
  omega
theorem pz_eq {M : Nat → En} (hM : Mk M) {k p : Nat} (hk : k < 320) (hp : p < 320) : pz (M k).par = (p : Int) ↔ (M k).par = (p : Int) := by
  unfold pz
  rcases hM.par k hk with e | ⟨q, hq, e⟩
  · rw [if_pos e, e]; omega
  · rw [if_neg (by omega)]
section
variable {w : World} {B : Nat} {wb : Nat → Nat} {M : Nat → En}
set_option maxHeartbeats 8000000 in
theorem children_m (h : Md w B wb M) (hM : Mk M) {p : Nat} (hp : p < 320) (hK : ∃ l, IsK M p l) :
    Calls Tryz.prog 212 #[.pointer (some ⟨B, 0, none⟩), .int .i64 (p : Int)] w fun e w' => ∃ v, e = .returned v ∧ IOwn w.heap.size w' v (kdsM M p) ∧ Below w.heap.size w w' := by
  obtain ⟨i3, hi3, hz3, hs3, hb3⟩ := info_parts inf3
  have HM := hideIt h
  have HMk := hideIt hM
  have HK := hideIt hK
  clear h hM hK
  go_enter Tryz.func212, Tryz.ntmps212
  go_wp2_with fail
  go_loopw [5, 9] (fun v5 v9 wr => ∃ k : Nat, k ≤ 320 ∧ v9 = .int .i64 (k : Int) ∧ IOwn w.heap.size wr v5 (chl M p k) ∧ Below w.heap.size w wr) (fun _ i _ => 320 - (intOf i).toNat)
  case atStart => exact ⟨0, by omega, rfl, IOwn.nil _ _, Below.refl _ _⟩
  case round =>
    obtain ⟨k, hk, rfl, hown, hbr⟩ := hrel
    have HO := hideIt hown
    have HB := hideIt hbr
    by_cases hlt : k < 320
    · have hlt' : (k : Int) < 320 := by omega
      have hm := HM.out.below hbr
      have HL := hideIt (live_m hm hlt)
      have hg := hm.par hlt
      have hs := chl_succ M p k
      have hpz := pz_eq HMk.out hlt hp
      clear hown hbr hm
      by_cases ht : (M k).typ = 0
      · have hd : decide ((M k).typ ≠ 0) = false := by simp [ht]
        rw [hd] at HL
        rw [if_neg (fun q => q.1 ht)] at hs
        have HS := hideIt hs
        clear hs hd ht hpz
        go_wp2_with (go_at_call 203; refine HL.out.mono ?_; rintro e w' ⟨rfl, hw'⟩; obtain rfl := hw'.symm)
        go_roundw
        case rel => exact ⟨k + 1, by omega, by go_num, by rw [HS.out]; exact HO.out, HB.out⟩
        case measure => simp [intOf]; omega
      · have hd : decide ((M k).typ ≠ 0) = true := by simp [ht]
        rw [hd] at HL
        by_cases hge : (M k).par = (p : Int)
        · rw [if_pos ⟨ht, hge⟩] at hs
          rw [hpz.2 hge] at hg
          have HS := hideIt hs
          have HLn := hideIt (chl_le M p k)
          have HBw := hideIt HB.out.size
          clear hs hd ht hpz hge
          go_wp2_with (first | (go_at_call 203; refine HL.out.mono ?_; rintro e w' ⟨rfl, hw'⟩; obtain rfl := hw'.symm) | (at_builtin; refine wpList_append_own_at _ rfl (.tmp 26) (.tmp 28) 209 rfl w.heap.size 3 i3 (.int .i64 0) 1 8 Tryz.underlying209 hi3 hz3 hs3 hb3 rfl (by decide) _ _ _ rfl (World.ownsRow.alloc HO.out _) ⟨wr.heap.size, 0, none⟩ 1 1 [.int .i64 (k : Int)] rfl rfl (cell_one_new wr _ _) (one_i _) (by have := HLn.out; unfold maxLen; omega) (by have := HLn.out; omega) (by have := HBw.out; simp; omega) ?_; intro v' w8 hown8 hgrow8 _ hwh8; have HB8 := hideIt (HB.out.trans (Grown.below HBw.out hgrow8 (fun b hb => (owns_lt HO.out b hb).1))); have HO8 := hideIt hown8; clear hown8 hgrow8 hwh8))
          go_roundw
          case rel => exact ⟨k + 1, by omega, by go_num, by rw [HS.out]; unfold IOwn; rw [ILs_snoc, List.length_append]; exact HO8.out, HB8.out⟩
          case measure => simp [intOf]; omega
        · have hne : (pz (M k).par == (p : Int)) = false := by rw [beq_eq_false_iff_ne]; exact fun q => hge (hpz.1 q)
          rw [if_neg (fun q => hge q.2)] at hs
          have HS := hideIt hs
          clear hs hd ht hpz hge
          go_wp2_with (go_at_call 203; refine HL.out.mono ?_; rintro e w' ⟨rfl, hw'⟩; obtain rfl := hw'.symm)
          go_roundw
          case rel => exact ⟨k + 1, by omega, by go_num, by rw [HS.out]; exact HO.out, HB.out⟩
          case measure => simp [intOf]; omega
    · have hkh : (k : Int) = 320 := by omega
      have hk3 : k = 320 := by omega
      rw [hkh]
      rw [hk3] at HO
      obtain ⟨l0, hl0⟩ : ∃ l, l = chl M p 320 := ⟨_, rfl⟩
      have HL3 : Hid (∀ c ∈ l0, c < 320) := fun c hc => by rw [hl0, chl_mem] at hc; exact hc.1
      have HLn : Hid (l0.length ≤ 320) := by show _ ≤ _; rw [hl0]; exact chl_le M p 320
      rw [← hl0] at HO
      have HL0 := hideIt hl0
      obtain ⟨ad, cp, rfl⟩ := HO.out.form
      clear hown hbr hl0 hk hlt hkh hk3
      go_wp2_with fail
      go_loopw [33] (fun v33 wr => ∃ (a : Nat) (l : List Nat), a ≤ l0.length ∧ v33 = .int .i64 (a : Int) ∧ l.length = l0.length ∧ IOwn w.heap.size wr (.slice ad l0.length cp) l ∧ Srt (fun x => (M x).bas) l0 l a (a + 1) ∧ Below w.heap.size w wr) (fun i _ => l0.length - (intOf i).toNat)
      case atStart => exact ⟨0, l0, by omega, rfl, rfl, HO.out, Srt.start _ _, HB.out⟩
      case round =>
        obtain ⟨a, l, ha, rfl, hll, hown, hsr, hbr⟩ := hrel
        have HO2 := hideIt hown
        have HS2 := hideIt hsr
        have HB2 := hideIt hbr
        have HLL := hideIt hll
        clear hown hsr hbr hll
        by_cases hla : a < l0.length
        · have hla' : (a : Int) < (l0.length : Int) := by omega
          have hln := HLn.out
          go_wp2_with fail
          go_loopw [8] (fun v8 wr => ∃ (b : Nat) (l : List Nat), a + 1 ≤ b ∧ b ≤ l0.length ∧ v8 = .int .i64 (b : Int) ∧ l.length = l0.length ∧ IOwn w.heap.size wr (.slice ad l0.length cp) l ∧ Srt (fun x => (M x).bas) l0 l a b ∧ Below w.heap.size w wr) (fun i _ => l0.length - (intOf i).toNat)
          case atStart => exact ⟨a + 1, l, by omega, by omega, by go_num, HLL.out, HO2.out, HS2.out, HB2.out⟩
          case round =>
            obtain ⟨b, m, hab, hb, rfl, hml, hown, hsr, hbr⟩ := hrel
            have HOm := hideIt hown
            have HSm := hideIt hsr
            have HBm := hideIt hbr
            have HML := hideIt hml
            by_cases hlb : b < l0.length
            · have hlb' : (b : Int) < (l0.length : Int) := by omega
              obtain ⟨g, cg, eg, hg0, hg1, hfz, hcl⟩ := hown.at (by omega)
              obtain ⟨rfl, rfl⟩ : ad = some ⟨g, 0, none⟩ ∧ cp = cg := by
                injection eg with e1 e2 e3
                exact ⟨e1, e3⟩
              obtain ⟨u, hu⟩ : ∃ u, m[a]? = some u := ⟨_, List.getElem?_eq_getElem (by omega)⟩
              obtain ⟨v, hv⟩ : ∃ v, m[b]? = some v := ⟨_, List.getElem?_eq_getElem (by omega)⟩
              have hu3 : u < 320 := HL3.out u (hsr.prm.mem_iff.1 (List.mem_of_getElem? hu))
              have hv3 : v < 320 := HL3.out v (hsr.prm.mem_iff.1 (List.mem_of_getElem? hv))
              have hu4 : (u : Int) < 320 := by omega
              have hv4 : (v : Int) < 320 := by omega
              have cu := hcl a u hu
              have cv := hcl b v hv
              have hm := HM.out.below hbr
              have bu := hm.bas hu3
              have bv := hm.bas hv3
              have fa := hfz a
              have fb := hfz b
              have HU := hideIt hu
              have HV := hideIt hv
              have HG0 := hideIt hg0
              clear hu hv hm hcl hfz eg hown hsr hbr hml hg0 hg1
              by_cases hlt : (M v).bas < (M u).bas
              · have HLT := hideIt hlt
                go_wp2_with fail
                go_quiet (fail)
                go_wp2_with fail
                go_region
                all_goals
                  have HFO : Hid (IOwn w.heap.size (((wr.drewN nq).drew.setCell ⟨g, a, none⟩ (.int .i64 (v : Int))).setCell ⟨g, b, none⟩ (.int .i64 (u : Int))) (.slice (some ⟨g, 0, none⟩) l0.length cp) ((m.set a v).set b u)) := by
                    have o1 : IOwn w.heap.size ((wr.drewN nq).drew) (.slice (some ⟨g, 0, none⟩) m.length cp) m := by rw [HML.out]; exact HOm.out
                    have o2 := o1.set (a := a) (x := v)
                    have o3 := IOwn.set (l := m.set a v) (g := g) (c := cp) (a := b) (x := u) (by rw [List.length_set]; exact o2)
                    rw [List.length_set, HML.out] at o3
                    exact o3
                  have HFB : Hid (Below w.heap.size w (((wr.drewN nq).drew.setCell ⟨g, a, none⟩ (.int .i64 (v : Int))).setCell ⟨g, b, none⟩ (.int .i64 (u : Int)))) := ((Below.thr HBm.out (Below.thr (belowN wr nq) (below_d _))).setCell (p := ⟨g, a, none⟩) HG0.out _).setCell (p := ⟨g, b, none⟩) HG0.out _
                  go_wp2_with fail
                  go_roundw
                  case rel => exact ⟨b + 1, (m.set a v).set b u, by omega, by omega, by go_num, by rw [List.length_set, List.length_set, HML.out], HFO.out, HSm.out.swap (by omega) HU.out HV.out HLT.out, HFB.out⟩
                  case measure => simp [intOf]; omega
              · have HLT := hideIt hlt
                go_wp2_with fail
                go_quiet (fail)
                go_wp2_with fail
                go_roundw
                case rel => exact ⟨b + 1, m, by omega, by omega, by go_num, HML.out, HOm.out, HSm.out.keep HU.out HV.out (by have := HLT.out; omega), Below.thr HBm.out (belowN _ _)⟩
                case measure => simp [intOf]; omega
            · have hbl : b = l0.length := by omega
              clear hown hsr hbr
              go_wp2_with fail
              go_roundw
              case rel => exact ⟨a + 1, m, by omega, by go_num, hml, HOm.out, by have := HSm.out; rw [hbl, ← hml] at this; exact this.next, HBm.out⟩
              case measure => simp [intOf]; omega
        · have hal : a = l0.length := by omega
          go_wp2_with fail
          go_ret
          refine ⟨_, rfl, ?_, HB2.out⟩
          have hs := HS2.out
          rw [hal, ← HLL.out] at hs
          have e : l = kdsM M p := chl_kds HK.out (by rw [← HL0.out]; exact hs.prm) hs.done
          rw [← e]
          unfold IOwn
          rw [HLL.out]
          have := HO2.out
          unfold IOwn at this
          rw [HLL.out] at this
          exact this
end
end Go.Proofs.Qxb6500847aGreatDoor.Os
