/-
  AddRegion, exactly.
-/
import Derived.Test.Qxb6500847aGreatDoorOxT
import Derived.Test.Qxb6500847aGreatDoorOxB
import Derived.Test.Qxb6500847aGreatDoorOsX
namespace Go.Proofs.Qxb6500847aGreatDoor.Os
open Go.RowKit FloorA
set_option maxRecDepth 100000
/-- AddRegion. -/
noncomputable def addX (M : Nat → En) (b z : Int) : Rs × (Nat → En) := open Classical in
  if z = 0 ∨ 281474976710656 ≤ b ∨ 281474976710656 - b < z then (bad 10, M)
  else if ∃ i, i < 320 ∧ (M i).typ ≠ 0 ∧ (M i).par = 65535 ∧ b < (M i).bas + (M i).siz ∧ (M i).bas < b + z then (bad 11, M)
  else match (spr M 256 320).head? with
    | none => (bad 8, M)
    | some c => (⟨0, [(c, (M c).gen)], []⟩, updM M c ⟨(M c).gen, 1, b, z, 65535, []⟩)
theorem addX_rng {M : Nat → En} {b z : Nat} (h : z = 0 ∨ 281474976710656 ≤ b ∨ 281474976710656 - b < z) : addX M (b : Int) (z : Int) = (bad 10, M) := by
  unfold addX
  rw [if_pos (by omega)]
theorem addX_ovl {M : Nat → En} {b z : Nat} (h : ¬ (z = 0 ∨ 281474976710656 ≤ b ∨ 281474976710656 - b < z)) (h2 : ∃ i, i < 320 ∧ (M i).typ ≠ 0 ∧ (M i).par = 65535 ∧ (b : Int) < (M i).bas + (M i).siz ∧ (M i).bas < (b : Int) + (z : Int)) : addX M (b : Int) (z : Int) = (bad 11, M) := by
  unfold addX
  rw [if_neg (by omega), if_pos h2]
/-- The place is free among the roots, at p. -/
structure Nov (s : Av) (n p : Nat) (b z : Int) : Prop where
  lo : ∀ i d : Nat, i < p → s.rts i = (d : Int) → (s.hd d).bas + (s.hd d).siz ≤ b
  hi : ∀ i d : Nat, p ≤ i → i < n → s.rts i = (d : Int) → b + z ≤ (s.hd d).bas
section
variable {s : Av} {tl : Nat → List Int} {ws : Nat → Nat → Nat → Int} {L : Nat → List Nat} {n p c : Nat}
theorem nov_of {b z : Int} (hI : IV s tl L n) (hX : IX s tl L n) (hp : p ≤ n) (h1 : p = 0 ∨ ∃ d : Nat, s.rts (p - 1) = (d : Int) ∧ (s.hd d).bas + (s.hd d).siz ≤ b) (h2 : n ≤ p ∨ ∃ d : Nat, p < n ∧ s.rts p = (d : Int) ∧ b + z ≤ (s.hd d).bas) : Nov s n p b z := by
  refine ⟨fun i d hi e => ?_, fun i d hi hn e => ?_⟩
  · rcases h1 with q | ⟨d', e', q⟩
    · omega
    · by_cases z : i = p - 1
      · subst z
        have : d = d' := by omega
        subst this
        exact q
      · have := hX.gm.rts i (p - 1) d d' (by omega) (by omega) e e'
        obtain ⟨r1, r2, _, r4, r5, _⟩ := hI.ro.reg (p - 1) d' (by omega) e'
        omega
  · rcases h2 with q | ⟨d', e0, e', q⟩
    · omega
    · by_cases z : i = p
      · subst z
        have : d = d' := by omega
        subst this
        exact q
      · have := hX.gm.rts p i d' d (by omega) hn e' e
        obtain ⟨r1, r2, _, r4, r5, _⟩ := hI.ro.reg p d' e0 e'
        omega
theorem Nov.none {b z : Int} (h : Nov s n p b z) (hI : IV s tl L n) : ¬ ∃ i, i < 320 ∧ (ob s ws i).typ ≠ 0 ∧ (ob s ws i).par = 65535 ∧ b < (ob s ws i).bas + (ob s ws i).siz ∧ (ob s ws i).bas < b + z := by
  rintro ⟨i, hi, a1, a2, a3, a4⟩
  rw [ob_at _ _ hi] at a1 a2 a3 a4
  have a3' : b < (s.hd i).bas + (s.hd i).siz := a3
  have a4' : (s.hd i).bas < b + z := a4
  obtain ⟨j, hj, e⟩ := hI.ro.all i hi a1 a2
  rcases Nat.lt_or_ge j p with q | q
  · have := h.lo j i q e
    omega
  · have := h.hi j i q hj e
    omega
theorem spr_none (hI : IV s tl L n) (hno : ∀ j, 256 ≤ j → j < 320 → ¬ Idl s j) (hX : IX s tl L n) : (spr (ob s ws) 256 320).head? = none := by
  rw [List.head?_eq_none_iff]
  refine List.eq_nil_iff_forall_not_mem.2 (fun i hi => ?_)
  obtain ⟨a1, a2, a3, a4⟩ := (mem_spr _).1 hi
  rw [ob_at _ _ a1] at a3 a4
  exact hno i a2 a1 ((idl_iff hX hI a1).2 ⟨a3, a4⟩)
/-- The lowest spare entry heads the list. -/
theorem spr_head {lo hi : Nat} (hI : IV s tl L n) (hX : IX s tl L n) (h3 : hi ≤ 320) (c1 : lo ≤ c) (c2 : c < hi) (hic : Idl s c) (hf : ∀ j, lo ≤ j → j < c → ¬ Idl s j) : (spr (ob s ws) lo hi).head? = some c := by
  have hm : c ∈ spr (ob s ws) lo hi := by
    rw [mem_spr, ob_at _ _ (by omega)]
    exact ⟨c2, c1, (idl_iff hX hI (by omega)).1 hic⟩
  have hp : (spr (ob s ws) lo hi).Pairwise (· < ·) := by
    unfold spr
    exact (List.pairwise_lt_range).filter _
  cases hl : spr (ob s ws) lo hi with
  | nil => rw [hl] at hm; simp at hm
  | cons a r =>
    rw [hl] at hm hp
    rcases List.mem_cons.1 hm with e | e
    · rw [e]; rfl
    · have h1 := (List.pairwise_cons.1 hp).1 c e
      have ha : a ∈ spr (ob s ws) lo hi := by rw [hl]; simp
      obtain ⟨a1, a2, a3, a4⟩ := (mem_spr _).1 ha
      rw [ob_at _ _ (by omega)] at a3 a4
      exact absurd ((idl_iff hX hI (by omega)).2 ⟨a3, a4⟩) (hf a a2 h1)
theorem addX_slots {b z : Nat} (hI : IV s tl L n) (hX : IX s tl L n) (h : ¬ (z = 0 ∨ 281474976710656 ≤ b ∨ 281474976710656 - b < z)) (_hp : p ≤ n) (hn : Nov s n p (b : Int) (z : Int)) (hno : ∀ j, 256 ≤ j → j < 320 → ¬ Idl s j) : addX (ob s ws) (b : Int) (z : Int) = (bad 8, ob s ws) := by
  unfold addX
  rw [if_neg (by omega), if_neg (hn.none hI), spr_none hI hno hX]
theorem addX_ok {b z : Nat} (hI : IV s tl L n) (hX : IX s tl L n) (h : ¬ (z = 0 ∨ 281474976710656 ≤ b ∨ 281474976710656 - b < z)) (_hp : p ≤ n) (hn : Nov s n p (b : Int) (z : Int)) (c1 : 256 ≤ c) (c2 : c < 320) (hic : Idl s c) (hf : ∀ j, 256 ≤ j → j < c → ¬ Idl s j) : addX (ob s ws) (b : Int) (z : Int) = (⟨0, [(c, (s.hd c).gen)], []⟩, updM (ob s ws) c ⟨(s.hd c).gen, 1, (b : Int), (z : Int), 65535, []⟩) := by
  unfold addX
  rw [if_neg (by omega), if_neg (hn.none hI), spr_head hI hX (Nat.le_refl _) c1 c2 hic hf]
  simp only [ob_at s ws c2]
theorem IX.addRoot {b z : Int} (hX : IX s tl L n) (hI : IV s tl L n) (c1 : 256 ≤ c) (c2 : c < 320) (hic : Idl s c) (hp : p ≤ n) (hb : 0 ≤ b ∧ 0 < z ∧ b + z ≤ 281474976710656) (hn : Nov s n p b z) : IX (insS (occS s c 1 b z 65535) p c n) tl (updL L c []) (n + 1) := by
  have h0 := hI.ge.idl c c2 hic
  have nD : ¬ Lv s c := fun q => q h0
  have nr : ∀ i, i < n → s.rts i ≠ (c : Int) := fun i hi q => nD (hI.ro.reg i c hi q).2.1
  have hh := occ_hd s c 1 b z 65535
  have hcc := hh c
  rw [if_pos rfl] at hcc
  have er : (occS s c 1 b z 65535).rts = s.rts := (occ_same s c 1 b z 65535).1
  have ho : ∀ y, y ≠ c → (occS s c 1 b z 65535).hd y = s.hd y := fun y e => by rw [hh, if_neg e]
  have gen := (idl_iff hX hI c2).1 hic
  have g1 := Gm.occ_core (k := 1) (row := 65535) (b := b) (z := z) (L' := updL L c []) hX.gm hI.tr (by decide) h0 hb nr (fun q hq => updL_ne (fun e => by have := hq.2.2; rw [e, h0] at this; exact absurd this (by decide))) (fun _ => ⟨updL_at _ _ _, c1⟩) (s.ti 0) 0
  rw [setTi_same] at g1
  have k1 := Ct.occ (k := 1) (row := 65535) (b := b) (z := z) (tl' := tl) hX.ct c2 h0 (hX.gm.fre c c2 h0).2.1 (by have := gen.2; omega) nD (by omega) (by omega) ⟨fun _ => c1, fun _ => rfl⟩ (fun t _ => by rw [one_neg (by omega)]; omega) (s.ti 0) 0
  rw [setTi_same] at k1
  refine ⟨g1.ins hp (fun i d hi e => ?_) (fun i d hi hi2 e => ?_), (k1.ins (q := p) (n := n) c2 (by rw [hcc]) nD).congrD (fun x hx => ?_)⟩
  · rw [er] at e
    rw [hcc, ho d (fun q => nr i (by omega) (by rw [e, q]))]
    exact hn.lo i d hi e
  · rw [er] at e
    rw [hcc, ho d (fun q => nr i hi2 (by rw [e, q]))]
    exact hn.hi i d hi hi2 e
  · show Lv s x ∨ x = c ↔ ((occS s c 1 b z 65535).hd x).typ ≠ 0
    rw [hh]
    by_cases e : x = c
    · rw [if_pos e]; exact ⟨fun _ => by show ((1 : Nat) : Int) ≠ 0; decide, fun _ => Or.inr e⟩
    · rw [if_neg e]; exact ⟨fun q => q.resolve_right e, fun q => Or.inl q⟩
theorem ob_addRoot (s : Av) (ws : Nat → Nat → Nat → Int) (c2 : c < 320) (b z : Int) (p n : Nat) : ob (insS (occS s c 1 b z 65535) p c n) ws = updM (ob s ws) c ⟨(s.hd c).gen, 1, b, z, 65535, []⟩ := by
  have hh : ∀ x, (insS (occS s c 1 b z 65535) p c n).hd x = if x = c then ⟨(s.hd c).gen, ((1 : Nat) : Int), 65535, 65535, 65535, 65535, b, z⟩ else s.hd x := fun x => occ_hd s c 1 b z 65535 x
  funext x
  unfold updM
  by_cases e : x = c
  · subst e
    rw [if_pos rfl, ob_at _ _ c2, hh, if_pos rfl]
    rfl
  · rw [if_neg e]
    by_cases hx : x < 320
    · rw [ob_at _ _ hx, ob_at _ _ hx, hh, if_neg e]
    · rw [ob_out _ _ hx, ob_out _ _ hx]
end
section
variable {A : Nat} {rb sb : Nat → Nat} {s : Av} {tl : Nat → List Int} {ws : Nat → Nat → Nat → Int} {w : World} {L : Nat → List Nat} {n p c i : Nat}
def AdXP (A : Nat) (rb sb : Nat → Nat) (s : Av) (ws : Nat → Nat → Nat → Int) (X : Rs × (Nat → En)) (w : World) (e : Ending) (w' : World) : Prop :=
  (∃ v c, X = (bad c, ob s ws) ∧ e = .returned (.tuple #[.agg #[.int .u16 0, .int .u32 0], v]) ∧ Refu w v w' c) ∨ (∃ (c : Nat) (g : Int) (M : Nat → En), X = (⟨0, [(c, g)], []⟩, M) ∧ e = .returned (.tuple #[.agg #[.int .u16 (c : Int), .int .u32 g], .nilIface]) ∧ SuX A rb sb M w w')
set_option maxHeartbeats 8000000 in
theorem AddRegion_x (h : Ms w A rb sb s tl ws) (hI : IV s tl L n) (hX : IX s tl L n) (hW : Wr ws) (hg : Gd tabC w) (gl : 3 < w.heap.size) {b z : Nat} (hb : b < 18446744073709551616) (hz : z < 18446744073709551616) :
    Calls Tryz.prog 49 #[.pointer (some ⟨A, 0, none⟩), .int .u64 (b : Int), .int .u64 (z : Int)] w (AdXP A rb sb s ws (addX (ob s ws) (b : Int) (z : Int)) w) := by
  have bB := alloc_below (w := w) (.cells #[.int .u16 0, .int .u32 0] 32)
  have hzc : (w.alloc (.cells #[.int .u16 0, .int .u32 0] 32)).heap[w.heap.size]? = some (.cells #[.int .u16 0, .int .u32 0] 32 (0, 0)) := heap_new _ _
  have HM := hideIt (h.below bB)
  have HB := hideIt bB
  have HI := hideIt hI
  have HW : Hid (Wr ws) := hW
  have HXx := hideIt hX
  have HG : Hid (Gd tabC w) := hg
  have HN := hideIt h.ntz
  clear h hI bB hW hg hX
  by_cases h1 : z = 0 ∨ 281474976710656 ≤ b ∨ 281474976710656 - b < z
  · have hc : ((z : Int) == 0) = true ∨ (((z : Int) == 0) = false ∧ (b : Int) ≥ 281474976710656) ∨ (((z : Int) == 0) = false ∧ ¬ (b : Int) ≥ 281474976710656 ∧ (z : Int) > 281474976710656 - (b : Int)) := by
      by_cases q1 : z = 0
      · left; rw [beq_iff_eq]; omega
      · right
        have q2 : ((z : Int) == 0) = false := by rw [beq_eq_false_iff_ne]; omega
        by_cases q3 : 281474976710656 ≤ b
        · left; exact ⟨q2, by omega⟩
        · right; exact ⟨q2, by omega, by omega⟩
    have HXE := hideIt (addX_rng (M := ob s ws) h1)
    clear h1
    rcases hc with q1 | ⟨q1, q2⟩ | ⟨q1, q2, q3⟩
    all_goals
      go_enter Tryz.func49, Tryz.ntmps49
      go_wp2_with (go_at_call 123; refine (refuse_walk _ _ _ _ _ _).mono ?_; rintro e w2 ⟨v, rfl, hv, hb⟩; obtain ⟨hz2, hp2, hp3⟩ := refu_two (Nat.le_refl _) HB.out hzc hv (by omega) hb; obtain ⟨x0, x1, f0, f1⟩ := two_cells hz2; have HP2 := hideIt hp2; have HP3 := hideIt hp3; clear hv hb hp2 hp3 hz2)
      exact bodyPost_ret (results_two (by exact Tryz.results49) _ _ w.heap.size _ v (by rfl) (by rfl) (load32 HP2.out)) rfl (Or.inl ⟨v, _, HXE.out, rfl, HP3.out⟩)
  · have k0 : ((z : Int) == 0) = false := by rw [beq_eq_false_iff_ne]; omega
    have c1 : ¬ (b : Int) ≥ 281474976710656 := by omega
    have i1 : IntKind.u64.wrap (281474976710656 - (b : Int)) = 281474976710656 - (b : Int) := by unfold IntKind.wrap; simp [IntKind.bits, IntKind.signed]; omega
    have c2 : ¬ (z : Int) > 281474976710656 - (b : Int) := by omega
    have hbz : 0 ≤ (b : Int) ∧ 0 < (z : Int) ∧ (b : Int) + (z : Int) ≤ 281474976710656 := by omega
    have HRA := hideIt (rootAbove_walk HM.out.am HI.out.ro.rts (b : Int))
    have HUL := hideIt (upTo_le s n (b : Int))
    have HUS := hideIt (upTo_spec HI.out.ro.rts (b : Int))
    have n64 := HI.out.ro.rts.n64
    have hp := upTo_le s n (b : Int)
    generalize hpe : upTo s n (b : Int) = p at *
    clear hpe
    go_enter Tryz.func49, Tryz.ntmps49
    go_wp2_with fail
    go_at_call 126
    refine HRA.out.mono ?_
    rintro e w1 ⟨rfl, hb1⟩
    have HB1 := hideIt (Below.thr HB.out hb1)
    have HM1 := hideIt (HM.out.below hb1)
    have HZ1 : Hid (w1.heap[w.heap.size]? = some (.cells #[.int .u16 0, .int .u32 0] 32 (0, 0))) := (hb1.block w.heap.size (heap_lt hzc)).trans hzc
    clear hb1 hzc
    -- the root below
    have hcase : (∃ d : Nat, 0 < p ∧ d < 320 ∧ s.rts (p - 1) = (d : Int) ∧ (b : Int) < IntKind.u64.wrap ((s.hd d).bas + (s.hd d).siz)) ∨ ((∀ i, i < p → rbas s i < (b : Int)) ∧ (p = 0 ∨ ∃ d : Nat, 0 < p ∧ d < 320 ∧ s.rts (p - 1) = (d : Int) ∧ ¬ (b : Int) < IntKind.u64.wrap ((s.hd d).bas + (s.hd d).siz))) := by
      by_cases hp0 : p = 0
      · exact Or.inr ⟨fun i hi => by omega, Or.inl hp0⟩
      · obtain ⟨d, hd, ed⟩ := HI.out.ro.rts.lt (p - 1) (by omega)
        obtain ⟨_, _, _, r4, r5, r6⟩ := HI.out.ro.reg (p - 1) d (by omega) ed
        have hw : IntKind.u64.wrap ((s.hd d).bas + (s.hd d).siz) = (s.hd d).bas + (s.hd d).siz := by unfold IntKind.wrap; simp [IntKind.bits, IntKind.signed]; omega
        by_cases he : (b : Int) < IntKind.u64.wrap ((s.hd d).bas + (s.hd d).siz)
        · exact Or.inl ⟨d, by omega, hd, ed, he⟩
        · refine Or.inr ⟨fun i hi => ?_, Or.inr ⟨d, by omega, hd, ed, he⟩⟩
          rw [hw] at he
          have e1 : rbas s (p - 1) = (s.hd d).bas := by unfold rbas; rw [ed]; rfl
          rcases Nat.lt_or_ge i (p - 1) with k | k
          · have := HI.out.ro.rts.sorted i (p - 1) k (by omega)
            omega
          · have : i = p - 1 := by omega
            subst this
            omega
    have HH1 := hideIt h1
    have HLO2 : Hid ((p = 0 ∨ ∃ d : Nat, 0 < p ∧ d < 320 ∧ s.rts (p - 1) = (d : Int) ∧ ¬ (b : Int) < IntKind.u64.wrap ((s.hd d).bas + (s.hd d).siz)) → p = 0 ∨ ∃ d : Nat, s.rts (p - 1) = (d : Int) ∧ (s.hd d).bas + (s.hd d).siz ≤ (b : Int)) := fun q => q.imp id (fun ⟨d, a1, a2, a3, a4⟩ => ⟨d, a3, by
      obtain ⟨_, _, _, r4, r5, r6⟩ := HI.out.ro.reg (p - 1) d (by omega) a3
      rw [u64_same (by omega) (by omega)] at a4
      omega⟩)
    rcases hcase with ⟨d, hp0, hd, ed, he⟩ | ⟨hlo, hcase⟩
    · have HXE := hideIt (addX_ovl (M := ob s ws) h1 ⟨d, hd, by
        obtain ⟨r1, r2, r3, r4, r5, r6⟩ := HI.out.ro.reg (p - 1) d (by omega) ed
        rw [u64_same (by omega) (by omega)] at he
        rw [ob_at _ _ hd]
        have hq := HUS.out.1 (p - 1) (by omega)
        have e1 : rbas s (p - 1) = (s.hd d).bas := by unfold rbas; rw [ed]; rfl
        exact ⟨r2, r3, he, by show (s.hd d).bas < _; omega⟩⟩)
      have e1 := HM1.out.am.rtc (i := p - 1) (by omega)
      rw [ed] at e1
      have l1 : (p : Int) > 0 := by omega
      have l2 : wrap64 ((p : Int) - 1) = (p : Int) - 1 := by unfold wrap64; omega
      have l3 : ((p : Int) - 1).toNat = p - 1 := by omega
      have l4 : (0 : Int) ≤ (p : Int) - 1 := by omega
      have l5 : (p : Int) - 1 < 64 := by omega
      have d' : (d : Int) < 320 := by omega
      have HE := hideIt (fun q => end_walk (w := w1.drewN q) (A := A) (s := s) ⟨HM1.out.am.cell, HM1.out.am.free⟩ hd)
      have HRf := hideIt (fun q => refOf_walk (w := w1.drewN q) (A := A) (s := s) ⟨HM1.out.am.cell, HM1.out.am.free⟩ hd)
      generalize IntKind.u64.wrap ((s.hd d).bas + (s.hd d).siz) = en at *
      have he' : en > (b : Int) := he
      clear ed
      go_wp2_with fail
      go_quiet ((go_at_call 47; exact Calls.quiet_of ((HE.out _).mono (fun e w' q => ⟨q.1, 1, q.2⟩))))
      go_wp2_with (first | (go_at_call 124; refine (HRf.out _).mono ?_; rintro e w2 ⟨rfl, hb2⟩) | (go_at_call 123; refine (refuse_walk _ _ _ _ _ _).mono ?_; rintro e w3 ⟨v, rfl, hv, hb3⟩; obtain ⟨hz2, hp2, hp3⟩ := refu_two (R := w.heap.size) (Nat.le_refl _) (Below.thr HB1.out (below_drewN (Below.refl _ _) nq)) (by exact HZ1.out) hv (by omega) (Below.thr hb2 hb3); obtain ⟨x0, x1, f0, f1⟩ := two_cells hz2; have HP2 := hideIt hp2; have HP3 := hideIt hp3; clear hv hb3 hp2 hp3 hz2))
      exact bodyPost_ret (results_two (by exact Tryz.results49) _ _ w.heap.size _ v (by rfl) (by rfl) (load32 HP2.out)) rfl (Or.inl ⟨v, _, HXE.out, rfl, HP3.out⟩)
    · -- the root above
      have HLO : Hid (∀ i, i < p → rbas s i < (b : Int)) := hlo
      have HHI : Hid (∀ i, p ≤ i → i < n → (b : Int) < rbas s i) := HUS.out.2
      have hcas2 : (∃ d : Nat, p < n ∧ d < 320 ∧ s.rts p = (d : Int) ∧ (s.hd d).bas < (b : Int) + (z : Int)) ∨ ((n : Int) ≤ (p : Int) ∨ ∃ d : Nat, p < n ∧ d < 320 ∧ s.rts p = (d : Int) ∧ (b : Int) + (z : Int) ≤ (s.hd d).bas) := by
        by_cases hpn : p < n
        · obtain ⟨d, hd, ed⟩ := HI.out.ro.rts.lt p hpn
          by_cases q : (s.hd d).bas < (b : Int) + (z : Int)
          · exact Or.inl ⟨d, hpn, hd, ed, q⟩
          · exact Or.inr (Or.inr ⟨d, hpn, hd, ed, by omega⟩)
        · exact Or.inr (Or.inl (by omega))
      have HC2 := hideIt hcas2
      clear hcas2
      have HLO3 := hideIt (HLO2.out hcase)
      have e2 := HM1.out.am.nrc
      rw [HI.out.ro.rts.nrt] at e2
      have HNX := hideIt (fun q => next_walk (w := w1.drewN q) (A := A) (s := s) ⟨HM1.out.am.cell, HM1.out.am.free⟩ HI.out.ge.wd ((HG.out.below HB1.out gl : Gd tabC w1)) (f := 256) (lim := 320) (by omega) (by omega))
      have i9 : IntKind.u64.wrap ((b : Int) + (z : Int)) = (b : Int) + (z : Int) := by unfold IntKind.wrap; simp [IntKind.bits, IntKind.signed]; omega
      have HOC : Hid (∀ (q c : Nat), 256 ≤ c → c < 320 → Idl s c → (∀ j, 256 ≤ j → j < c → ¬ Idl s j) → Nov s n p (b : Int) (z : Int) → Calls Tryz.prog 128 #[.pointer (some ⟨A, 0, none⟩), .int .u16 (c : Int), .int .u8 1, .int .u64 (b : Int), .int .u64 (z : Int)] (w1.drewN q) (fun e w2 => e = .returned (.tuple #[]) ∧ w.heap.size < w2.heap.size ∧ Calls Tryz.prog 129 #[.pointer (some ⟨A, 0, none⟩), .int .i64 (p : Int), .int .u16 (c : Int)] w2 (fun e w3 => e = .returned (.tuple #[]) ∧ w.heap.size < w3.heap.size ∧ Calls Tryz.prog 124 #[.pointer (some ⟨A, 0, none⟩), .int .u16 (c : Int)] w3 (fun e w4 => e = .returned (.agg #[.int .u16 (c : Int), .int .u32 (s.hd c).gen]) ∧ w4.heap[w.heap.size]? = some (.cells #[.int .u16 0, .int .u32 0] 32 (0, 0)) ∧ ((w4.setCell ⟨w.heap.size, 0, none⟩ (.int .u16 (c : Int))).setCell ⟨w.heap.size, 1, none⟩ (.int .u32 (s.hd c).gen)).heap[w.heap.size]? = some (.cells #[.int .u16 (c : Int), .int .u32 (s.hd c).gen] 32 (0, 0)) ∧ AdXP A rb sb s ws (addX (ob s ws) (b : Int) (z : Int)) w (.returned (.tuple #[.agg #[.int .u16 (c : Int), .int .u32 (s.hd c).gen], .nilIface])) ((w4.setCell ⟨w.heap.size, 0, none⟩ (.int .u16 (c : Int))).setCell ⟨w.heap.size, 1, none⟩ (.int .u32 (s.hd c).gen)))))) := fun q c c1 c2 hic hfst hnv => by
        obtain ⟨n1, hIV⟩ := HI.out.addRoot c2 c1 hic hp (b := (b : Int)) (z := (z : Int)) hbz HLO.out HHI.out
        have h0 := HI.out.ge.idl c c2 hic
        have hM0 : Ms (w1.drewN q) A rb sb s tl ws := HM1.out.below (below_drewN (Below.refl _ _) q)
        have hZ0 : (w1.drewN q).heap[w.heap.size]? = some (.cells #[.int .u16 0, .int .u32 0] 32 (0, 0)) := HZ1.out
        refine (occupy_one hM0 HI.out.ge.wd c1 c2 (b : Int) (z : Int)).mono ?_
        rintro e w2 ⟨rfl, m2, x2⟩
        have z2 := (x2.block w.heap.size (heap_lt hZ0) HN.out).trans hZ0
        refine ⟨rfl, heap_lt z2, (insertRoot_walk m2 c2 (n := n) (p := p) (by rw [(occ_same s c 1 b z 65535).2]; exact HI.out.ro.rts.nrt) n1 hp).mono ?_⟩
        rintro e w3 ⟨rfl, m3, x3⟩
        have z3 := (x3.block w.heap.size (heap_lt z2) HN.out).trans z2
        have hg3 : ((insS (occS s c 1 b z 65535) p c n).hd c).gen = (s.hd c).gen := by
          show ((occS s c 1 b z 65535).hd c).gen = _
          rw [occ_hd, if_pos rfl]
        have rf := refOf_walk m3.am c2
        rw [hg3] at rf
        refine ⟨rfl, heap_lt z3, rf.mono ?_⟩
        rintro e w4 ⟨rfl, b4⟩
        have z4 := (b4.block w.heap.size (heap_lt z3)).trans z3
        have m4 := m3.below b4
        have hE : Ext w.heap.size (Tz A rb sb) w w4 := ((((Ext.of_below HB1.out (Tz A rb sb)).dr q).trans x2 (by show w.heap.size ≤ w1.heap.size; exact HB1.out.size) (fun _ _ q => q)).trans x3 (Nat.le_of_lt (heap_lt z2)) (fun _ _ q => q)).andThen b4 (Nat.le_of_lt (heap_lt z3))
        refine ⟨rfl, z4, two_set z4 _ _, Or.inr ⟨c, (s.hd c).gen, _, addX_ok HI.out HXx.out HH1.out hp hnv c1 c2 hic hfst, rfl, _, tl, ws, updL L c [], n + 1, ?_, ?_, hIV, HXx.out.addRoot HI.out c1 c2 hic hp hbz hnv, HW.out, ob_addRoot s ws c2 (b : Int) (z : Int) p n⟩⟩
        · exact m4.ext (T := fun b => b = w.heap.size) (((Ext.refl w4.heap.size (fun b => b = w.heap.size) w4).setCell (p := ⟨w.heap.size, 0, none⟩) (Or.inr rfl) _).setCell (p := ⟨w.heap.size, 1, none⟩) (Or.inr rfl) _) (fun x hx e => HN.out (by rw [← e]; exact hx))
        · exact (hE.setCell (p := ⟨w.heap.size, 0, none⟩) (Or.inl (Nat.le_refl _)) _).setCell (p := ⟨w.heap.size, 1, none⟩) (Or.inl (Nat.le_refl _)) _
      clear hlo
      have HF6 : Hid (∀ d : Nat, p < n → d < 320 → s.rts p = (d : Int) → w1.cell? ⟨A, 2821 + p, none⟩ = some (.int .u16 (d : Int)) ∧ w1.cell? ⟨A, d * 8 + 6, none⟩ = some (.int .u64 (s.hd d).bas) ∧ ∀ q, Calls Tryz.prog 124 #[.pointer (some ⟨A, 0, none⟩), .int .u16 (d : Int)] (w1.drewN q) fun e w' => e = .returned (.agg #[.int .u16 (d : Int), .int .u32 (s.hd d).gen]) ∧ Below (w1.drewN q).heap.size (w1.drewN q) w') := fun d hpn hd ed => by
        have e1 := HM1.out.am.rtc (i := p) (by omega)
        rw [ed] at e1
        exact ⟨e1, HM1.out.am.bas hd, fun q => refOf_walk (w := w1.drewN q) (A := A) (s := s) ⟨HM1.out.am.cell, HM1.out.am.free⟩ hd⟩
      have p64 : (p : Int) ≤ 64 := by omega
      rcases hcase with hp0 | ⟨d, hp0, hd, ed, he⟩
      rotate_left
      · have e1 := HM1.out.am.rtc (i := p - 1) (by omega)
        rw [ed] at e1
        have l1 : (p : Int) > 0 := by omega
        have l2 : wrap64 ((p : Int) - 1) = (p : Int) - 1 := by unfold wrap64; omega
        have l3 : ((p : Int) - 1).toNat = p - 1 := by omega
        have l4 : (0 : Int) ≤ (p : Int) - 1 := by omega
        have l5 : (p : Int) - 1 < 64 := by omega
        have d' : (d : Int) < 320 := by omega
        have HE := hideIt (fun q => end_walk (w := w1.drewN q) (A := A) (s := s) ⟨HM1.out.am.cell, HM1.out.am.free⟩ hd)
        generalize IntKind.u64.wrap ((s.hd d).bas + (s.hd d).siz) = en at *
        have he' : decide (en > (b : Int)) = false := decide_eq_false he
        have he2 : decide ((b : Int) < en) = false := decide_eq_false he
        clear ed
        go_wp2_with fail
        go_quiet ((go_at_call 47; exact Calls.quiet_of ((HE.out _).mono (fun e w' q => ⟨q.1, 1, q.2⟩))))
        have HQ : Hid (nq = nq) := rfl
        clear e1 l1 l2 l3 l4 l5 d' HE he' he2 he hp0 hd
        go_wp2_with fail
        rcases HC2.out with ⟨f, hpn, hf, ef, hlt⟩ | hcas3
        · have HXE := hideIt (addX_ovl (M := ob s ws) HH1.out ⟨f, hf, by
            obtain ⟨r1, r2, r3, r4, r5, r6⟩ := HI.out.ro.reg p f hpn ef
            have hq := HHI.out p (Nat.le_refl _) hpn
            have e1 : rbas s p = (s.hd f).bas := by unfold rbas; rw [ef]; rfl
            rw [ob_at _ _ hf]
            exact ⟨r2, r3, by show (b : Int) < (s.hd f).bas + (s.hd f).siz; omega, hlt⟩⟩)
          obtain ⟨r1, r2, r3⟩ := HF6.out f hpn hf ef
          have HRf := hideIt r3
          have f' : (f : Int) < 320 := by omega
          have pn' : (p : Int) < (n : Int) := by omega
          have p63 : (p : Int) < 64 := by omega
          clear r3 ef
          go_quiet (fail)
          go_wp2_with (first | (go_at_call 124; refine (HRf.out _).mono ?_; rintro e w2 ⟨rfl, hb2⟩) | (go_at_call 123; refine (refuse_walk _ _ _ _ _ _).mono ?_; rintro e w3 ⟨v, rfl, hv, hb3⟩; obtain ⟨hz2, hp2, hp3⟩ := refu_two (R := w.heap.size) (Nat.le_refl _) (Below.thr HB1.out (below_drewN (Below.refl _ _) _)) (by exact HZ1.out) hv (by omega) (Below.thr hb2 hb3); obtain ⟨x0, x1, f0, f1⟩ := two_cells hz2; have HP2 := hideIt hp2; have HP3 := hideIt hp3; clear hv hb3 hp2 hp3 hz2))
          exact bodyPost_ret (results_two (by exact Tryz.results49) _ _ w.heap.size _ v (by rfl) (by rfl) (load32 HP2.out)) rfl (Or.inl ⟨v, _, HXE.out, rfl, HP3.out⟩)
        · have HNV := hideIt (nov_of HI.out HXx.out hp HLO3.out (hcas3.imp (fun q => by omega) (fun ⟨d, a1, a2, a3, a4⟩ => ⟨d, a1, a3, a4⟩)))
          have hpn : decide (p < n) = false ∨ ∃ f : Nat, p < n ∧ f < 320 ∧ s.rts p = (f : Int) ∧ (b : Int) + (z : Int) ≤ (s.hd f).bas := hcas3.imp (fun q => decide_eq_false (by omega)) id
          clear hcas3
          rcases hpn with hpn | ⟨f, hpn, hf, ef, hlt⟩
          rotate_left
          · obtain ⟨r1, r2, _⟩ := HF6.out f hpn hf ef
            have f' : (f : Int) < 320 := by omega
            have pn' : (p : Int) < (n : Int) := by omega
            have p63 : (p : Int) < 64 := by omega
            clear ef
            generalize (s.hd f).bas = fb at *
            have hd6 : decide (fb < (b : Int) + (z : Int)) = false := decide_eq_false (by omega)
            clear hlt
            go_quiet (fail)
            clear r1 r2 f' p63 pn' hf hpn
            go_wp2_with fail
            go_at_call 127
            refine (HNX.out _).mono ?_
            rintro e w2 ⟨hw2, hh⟩
            obtain rfl := hw2.symm
            clear hw2
            rcases hh with ⟨rfl, hno⟩ | ⟨c, rfl, c1', c2', hic, hfst⟩
            · have HXE := hideIt (addX_slots (ws := ws) HI.out HXx.out HH1.out hp HNV.out hno)
              clear hno
              go_wp2_with (go_at_call 123; refine (refuse_walk _ _ _ _ _ _).mono ?_; rintro e w3 ⟨v, rfl, hv, hb3⟩; obtain ⟨hz2, hp2, hp3⟩ := refu_two (R := w.heap.size) (Nat.le_refl _) (Below.thr HB1.out (below_drewN (Below.refl _ _) _)) (by exact HZ1.out) hv (by omega) hb3; obtain ⟨x0, x1, f0, f1⟩ := two_cells hz2; have HP2 := hideIt hp2; have HP3 := hideIt hp3; clear hv hb3 hp2 hp3 hz2)
              exact bodyPost_ret (results_two (by exact Tryz.results49) _ _ w.heap.size _ v (by rfl) (by rfl) (load32 HP2.out)) rfl (Or.inl ⟨v, _, HXE.out, rfl, HP3.out⟩)
            · have HOC2 := hideIt (fun q => HOC.out q c c1' c2' hic hfst HNV.out)
              have kn : ((c : Int) == 65535) = false := by rw [beq_eq_false_iff_ne]; omega
              clear hic HOC hfst
              go_wp2_with fail
              go_at_call 128
              refine (HOC2.out _).mono ?_
              rintro e w3 ⟨rfl, lw3, hn3⟩
              have H3 := hideIt hn3
              clear hn3
              go_wp2_with fail
              go_at_call 129
              refine H3.out.mono ?_
              rintro e w4 ⟨rfl, lw4, hn4⟩
              have H4 := hideIt hn4
              clear hn4
              go_wp2_with fail
              go_at_call 124
              refine H4.out.mono ?_
              rintro e w5 ⟨rfl, hz5, hz6, hp6⟩
              obtain ⟨x0, x1, f0, f1⟩ := two_cells hz5
              have HP2 := hideIt hz6
              have HP3 := hideIt hp6
              clear hz5 hz6 hp6
              go_wp2_with fail
              exact bodyPost_ret (results_two (by exact Tryz.results49) _ _ w.heap.size _ .nilIface (by rfl) (by rfl) (load32 HP2.out)) rfl HP3.out
          · go_quiet (fail)
            go_wp2_with fail
            go_at_call 127
            refine (HNX.out _).mono ?_
            rintro e w2 ⟨hw2, hh⟩
            obtain rfl := hw2.symm
            clear hw2
            rcases hh with ⟨rfl, hno⟩ | ⟨c, rfl, c1', c2', hic, hfst⟩
            · have HXE := hideIt (addX_slots (ws := ws) HI.out HXx.out HH1.out hp HNV.out hno)
              clear hno
              go_wp2_with (go_at_call 123; refine (refuse_walk _ _ _ _ _ _).mono ?_; rintro e w3 ⟨v, rfl, hv, hb3⟩; obtain ⟨hz2, hp2, hp3⟩ := refu_two (R := w.heap.size) (Nat.le_refl _) (Below.thr HB1.out (below_drewN (Below.refl _ _) _)) (by exact HZ1.out) hv (by omega) hb3; obtain ⟨x0, x1, f0, f1⟩ := two_cells hz2; have HP2 := hideIt hp2; have HP3 := hideIt hp3; clear hv hb3 hp2 hp3 hz2)
              exact bodyPost_ret (results_two (by exact Tryz.results49) _ _ w.heap.size _ v (by rfl) (by rfl) (load32 HP2.out)) rfl (Or.inl ⟨v, _, HXE.out, rfl, HP3.out⟩)
            · have HOC2 := hideIt (fun q => HOC.out q c c1' c2' hic hfst HNV.out)
              have kn : ((c : Int) == 65535) = false := by rw [beq_eq_false_iff_ne]; omega
              clear hic HOC hfst
              go_wp2_with fail
              go_at_call 128
              refine (HOC2.out _).mono ?_
              rintro e w3 ⟨rfl, lw3, hn3⟩
              have H3 := hideIt hn3
              clear hn3
              go_wp2_with fail
              go_at_call 129
              refine H3.out.mono ?_
              rintro e w4 ⟨rfl, lw4, hn4⟩
              have H4 := hideIt hn4
              clear hn4
              go_wp2_with fail
              go_at_call 124
              refine H4.out.mono ?_
              rintro e w5 ⟨rfl, hz5, hz6, hp6⟩
              obtain ⟨x0, x1, f0, f1⟩ := two_cells hz5
              have HP2 := hideIt hz6
              have HP3 := hideIt hp6
              clear hz5 hz6 hp6
              go_wp2_with fail
              exact bodyPost_ret (results_two (by exact Tryz.results49) _ _ w.heap.size _ .nilIface (by rfl) (by rfl) (load32 HP2.out)) rfl HP3.out
      · have l1 : decide (0 < p) = false := decide_eq_false (by omega)
        clear hp0
        go_wp2_with fail
        go_quiet (fail)
        clear l1
        go_wp2_with fail
        rcases HC2.out with ⟨f, hpn, hf, ef, hlt⟩ | hcas3
        · have HXE := hideIt (addX_ovl (M := ob s ws) HH1.out ⟨f, hf, by
            obtain ⟨r1, r2, r3, r4, r5, r6⟩ := HI.out.ro.reg p f hpn ef
            have hq := HHI.out p (Nat.le_refl _) hpn
            have e1 : rbas s p = (s.hd f).bas := by unfold rbas; rw [ef]; rfl
            rw [ob_at _ _ hf]
            exact ⟨r2, r3, by show (b : Int) < (s.hd f).bas + (s.hd f).siz; omega, hlt⟩⟩)
          obtain ⟨r1, r2, r3⟩ := HF6.out f hpn hf ef
          have HRf := hideIt r3
          have f' : (f : Int) < 320 := by omega
          have pn' : (p : Int) < (n : Int) := by omega
          have p63 : (p : Int) < 64 := by omega
          clear r3 ef
          go_quiet (fail)
          go_wp2_with (first | (go_at_call 124; refine (HRf.out _).mono ?_; rintro e w2 ⟨rfl, hb2⟩) | (go_at_call 123; refine (refuse_walk _ _ _ _ _ _).mono ?_; rintro e w3 ⟨v, rfl, hv, hb3⟩; obtain ⟨hz2, hp2, hp3⟩ := refu_two (R := w.heap.size) (Nat.le_refl _) (Below.thr HB1.out (below_drewN (Below.refl _ _) _)) (by exact HZ1.out) hv (by omega) (Below.thr hb2 hb3); obtain ⟨x0, x1, f0, f1⟩ := two_cells hz2; have HP2 := hideIt hp2; have HP3 := hideIt hp3; clear hv hb3 hp2 hp3 hz2))
          exact bodyPost_ret (results_two (by exact Tryz.results49) _ _ w.heap.size _ v (by rfl) (by rfl) (load32 HP2.out)) rfl (Or.inl ⟨v, _, HXE.out, rfl, HP3.out⟩)
        · have HNV := hideIt (nov_of HI.out HXx.out hp HLO3.out (hcas3.imp (fun q => by omega) (fun ⟨d, a1, a2, a3, a4⟩ => ⟨d, a1, a3, a4⟩)))
          have hpn : decide (p < n) = false ∨ ∃ f : Nat, p < n ∧ f < 320 ∧ s.rts p = (f : Int) ∧ (b : Int) + (z : Int) ≤ (s.hd f).bas := hcas3.imp (fun q => decide_eq_false (by omega)) id
          clear hcas3
          rcases hpn with hpn | ⟨f, hpn, hf, ef, hlt⟩
          rotate_left
          · obtain ⟨r1, r2, _⟩ := HF6.out f hpn hf ef
            have f' : (f : Int) < 320 := by omega
            have pn' : (p : Int) < (n : Int) := by omega
            have p63 : (p : Int) < 64 := by omega
            clear ef
            generalize (s.hd f).bas = fb at *
            have hd6 : decide (fb < (b : Int) + (z : Int)) = false := decide_eq_false (by omega)
            clear hlt
            go_quiet (fail)
            clear r1 r2 f' p63 pn' hf hpn
            go_wp2_with fail
            go_at_call 127
            refine (HNX.out _).mono ?_
            rintro e w2 ⟨hw2, hh⟩
            obtain rfl := hw2.symm
            clear hw2
            rcases hh with ⟨rfl, hno⟩ | ⟨c, rfl, c1', c2', hic, hfst⟩
            · have HXE := hideIt (addX_slots (ws := ws) HI.out HXx.out HH1.out hp HNV.out hno)
              clear hno
              go_wp2_with (go_at_call 123; refine (refuse_walk _ _ _ _ _ _).mono ?_; rintro e w3 ⟨v, rfl, hv, hb3⟩; obtain ⟨hz2, hp2, hp3⟩ := refu_two (R := w.heap.size) (Nat.le_refl _) (Below.thr HB1.out (below_drewN (Below.refl _ _) _)) (by exact HZ1.out) hv (by omega) hb3; obtain ⟨x0, x1, f0, f1⟩ := two_cells hz2; have HP2 := hideIt hp2; have HP3 := hideIt hp3; clear hv hb3 hp2 hp3 hz2)
              exact bodyPost_ret (results_two (by exact Tryz.results49) _ _ w.heap.size _ v (by rfl) (by rfl) (load32 HP2.out)) rfl (Or.inl ⟨v, _, HXE.out, rfl, HP3.out⟩)
            · have HOC2 := hideIt (fun q => HOC.out q c c1' c2' hic hfst HNV.out)
              have kn : ((c : Int) == 65535) = false := by rw [beq_eq_false_iff_ne]; omega
              clear hic HOC hfst
              go_wp2_with fail
              go_at_call 128
              refine (HOC2.out _).mono ?_
              rintro e w3 ⟨rfl, lw3, hn3⟩
              have H3 := hideIt hn3
              clear hn3
              go_wp2_with fail
              go_at_call 129
              refine H3.out.mono ?_
              rintro e w4 ⟨rfl, lw4, hn4⟩
              have H4 := hideIt hn4
              clear hn4
              go_wp2_with fail
              go_at_call 124
              refine H4.out.mono ?_
              rintro e w5 ⟨rfl, hz5, hz6, hp6⟩
              obtain ⟨x0, x1, f0, f1⟩ := two_cells hz5
              have HP2 := hideIt hz6
              have HP3 := hideIt hp6
              clear hz5 hz6 hp6
              go_wp2_with fail
              exact bodyPost_ret (results_two (by exact Tryz.results49) _ _ w.heap.size _ .nilIface (by rfl) (by rfl) (load32 HP2.out)) rfl HP3.out
          · go_quiet (fail)
            go_wp2_with fail
            go_at_call 127
            refine (HNX.out _).mono ?_
            rintro e w2 ⟨hw2, hh⟩
            obtain rfl := hw2.symm
            clear hw2
            rcases hh with ⟨rfl, hno⟩ | ⟨c, rfl, c1', c2', hic, hfst⟩
            · have HXE := hideIt (addX_slots (ws := ws) HI.out HXx.out HH1.out hp HNV.out hno)
              clear hno
              go_wp2_with (go_at_call 123; refine (refuse_walk _ _ _ _ _ _).mono ?_; rintro e w3 ⟨v, rfl, hv, hb3⟩; obtain ⟨hz2, hp2, hp3⟩ := refu_two (R := w.heap.size) (Nat.le_refl _) (Below.thr HB1.out (below_drewN (Below.refl _ _) _)) (by exact HZ1.out) hv (by omega) hb3; obtain ⟨x0, x1, f0, f1⟩ := two_cells hz2; have HP2 := hideIt hp2; have HP3 := hideIt hp3; clear hv hb3 hp2 hp3 hz2)
              exact bodyPost_ret (results_two (by exact Tryz.results49) _ _ w.heap.size _ v (by rfl) (by rfl) (load32 HP2.out)) rfl (Or.inl ⟨v, _, HXE.out, rfl, HP3.out⟩)
            · have HOC2 := hideIt (fun q => HOC.out q c c1' c2' hic hfst HNV.out)
              have kn : ((c : Int) == 65535) = false := by rw [beq_eq_false_iff_ne]; omega
              clear hic HOC hfst
              go_wp2_with fail
              go_at_call 128
              refine (HOC2.out _).mono ?_
              rintro e w3 ⟨rfl, lw3, hn3⟩
              have H3 := hideIt hn3
              clear hn3
              go_wp2_with fail
              go_at_call 129
              refine H3.out.mono ?_
              rintro e w4 ⟨rfl, lw4, hn4⟩
              have H4 := hideIt hn4
              clear hn4
              go_wp2_with fail
              go_at_call 124
              refine H4.out.mono ?_
              rintro e w5 ⟨rfl, hz5, hz6, hp6⟩
              obtain ⟨x0, x1, f0, f1⟩ := two_cells hz5
              have HP2 := hideIt hz6
              have HP3 := hideIt hp6
              clear hz5 hz6 hp6
              go_wp2_with fail
              exact bodyPost_ret (results_two (by exact Tryz.results49) _ _ w.heap.size _ .nilIface (by rfl) (by rfl) (load32 HP2.out)) rfl HP3.out
end
end Go.Proofs.Qxb6500847aGreatDoor.Os
