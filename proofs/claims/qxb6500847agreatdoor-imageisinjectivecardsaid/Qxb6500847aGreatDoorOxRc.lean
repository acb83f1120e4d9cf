/-
  Retype, exactly.
-/
import Derived.Test.Qxb6500847aGreatDoorOsRc
import Derived.Test.Qxb6500847aGreatDoorOxRp
namespace Go.Proofs.Qxb6500847aGreatDoor.Os
open Go.RowKit FloorA
set_option maxRecDepth 100000
section
variable {A : Nat} {rb sb : Nat → Nat} {s : Av} {tl : Nat → List Int} {ws : Nat → Nat → Nat → Int} {w : World} {L : Nat → List Nat} {n p c i : Nat}
def RtXP (A : Nat) (rb sb : Nat → Nat) (s : Av) (ws : Nat → Nat → Nat → Int) (X : Rs × (Nat → En)) (w : World) (e : Ending) (w' : World) : Prop :=
  (∃ v c, X = (bad c, ob s ws) ∧ e = .returned (.tuple #[.slice none 0 0, v]) ∧ Refu w v w' c) ∨
  (∃ (R : Nat) (refs : List (Nat × Int)) (M : Nat → En), X = (⟨0, refs, []⟩, M) ∧ e = .returned (.tuple #[.slice (some ⟨R, 0, none⟩) refs.length refs.length, .nilIface]) ∧ w.heap.size ≤ R ∧ refs.length ≤ 32 ∧ w'.rangeAt R 0 (refL refs) ∧ SuX A rb sb M w w')
/-- Between two rounds, exactly. -/
structure Rtx (s : Av) (ws : Nat → Nat → Nat → Int) (tl1 : Nat → List Int) (n p t lim q T E st : Nat) (j x : Nat) (refs : List (Nat × Int)) (s1 : Av) (ws1 : Nat → Nat → Nat → Int) (L1 : Nat → List Nat) : Prop where
  ix : IX s1 tl1 L1 n
  obs : ob s1 ws1 = grw p t (2 ^ q) (ob s ws) st (refs.map Prod.fst)
  top : (s1.rg (p - 256)).top ≤ ((st + j * 2 ^ q : Nat) : Int)
  en : (s1.hd p).bas + (s1.hd p).siz = (E : Int)
  spr : spr (ob s ws) (loT t) lim = refs.map Prod.fst ++ spr (ob s ws) x lim
  gen : ∀ r ∈ refs, r.2 = (ob s ws r.1).gen
theorem Rtx.step {t lim q T E st j x : Nat} {refs : List (Nat × Int)} {s1 s2 : Av} {tl1 tl2 : Nat → List Int} {ws1 ws2 : Nat → Nat → Nat → Int} {L1 L2 : Nat → List Nat} (h : Rtx s ws tl1 n p t lim q T E st j x refs s1 ws1 L1) (hlen : refs.length = j) (xc : x ≤ c) (cl : c < lim) (l320 : lim ≤ 320)
    (hnew : ∀ r ∈ refs, r.1 < x) (hoth : ∀ y, (∀ r ∈ refs, r.1 ≠ y) → (s1.hd y).gen = (s.hd y).gen ∧ (s1.hd y).typ = (s.hd y).typ) (hI1 : IV s1 tl1 L1 n) (hic : Idl s1 c) (hno : ∀ y, x ≤ y → y < c → ¬ Idl s1 y) (ix2 : IX s2 tl2 L2 n) (gx : Gx s1 s2 ws1 ws2 c t p ((st + j * 2 ^ q : Nat) : Int) ((2 ^ q : Nat) : Int)) :
    Rtx s ws tl2 n p t lim q T E st (j + 1) (c + 1) (refs ++ [(c, (s1.hd c).gen)]) s2 ws2 L2 := by
  have same : ∀ y, x ≤ y → y < 320 → (((ob s ws y).typ = 0 ∧ (ob s ws y).gen < 4294967295) ↔ Idl s1 y) := fun y hy h3 => by
    obtain ⟨a, b⟩ := hoth y (fun r hr => by have := hnew r hr; omega)
    rw [idl_iff h.ix hI1 h3, ob_at _ _ h3, a, b]
  obtain ⟨ca, cb⟩ := hoth c (fun r hr => by have := hnew r hr; omega)
  have c3 : c < 320 := by omega
  have hgen : (grw p t (2 ^ q) (ob s ws) st (refs.map Prod.fst) c).gen = (s1.hd c).gen := by rw [← h.obs, ob_at _ _ c3]
  refine ⟨ix2, ?_, ?_, ?_, ?_, fun r hr => ?_⟩
  · rw [gx.obs, h.obs, List.map_append, List.map_cons, List.map_nil, grw_snoc, hgen, List.length_map, hlen]
  · rw [gx.top, Nat.succ_mul]
    omega
  · rw [gx.en.1, gx.en.2]
    exact h.en
  · rw [h.spr, spr_next xc cl ((same c xc c3).2 hic) (fun y hy hc k => hno y hy hc ((same y hy (by omega)).1 k)), List.map_append, List.append_assoc]
    rfl
  · rcases List.mem_append.1 hr with k | k
    · exact h.gen r k
    · have : r = (c, (s1.hd c).gen) := by simpa using k
      subst this
      rw [ob_at _ _ c3]
      exact ca
theorem refs_of {refs : List (Nat × Int)} {M : Nat → En} (h : ∀ r ∈ refs, r.2 = (M r.1).gen) : refs = (refs.map Prod.fst).map (fun c => (c, (M c).gen)) := by
  rw [List.map_map]
  conv => lhs; rw [← List.map_id refs]
  exact List.map_congr_left (fun r hr => by
    show r = (r.1, (M r.1).gen)
    rw [← h r hr])
set_option maxHeartbeats 16000000 in
theorem Retype_x (h : Ms w A rb sb s tl ws) (hI : IV s tl L n) (hX : IX s tl L n) (hW : Wr ws) (hg : Gd tabC w) (gl : 3 < w.heap.size) (gz : ¬ Tz A rb sb 3) (hK : Kd w) (kl : 1 < w.heap.size) (i : Nat) (g : Int) {t bt k : Nat} (ht : t < 256) (hbt : bt < 256) (hk : k < 65536) :
    Calls Tryz.prog 51 #[.pointer (some ⟨A, 0, none⟩), .agg #[.int .u16 (i : Int), .int .u32 g], .int .u8 (t : Int), .int .u8 (bt : Int), .int .i64 (k : Int)] w (RtXP A rb sb s ws (retX (ob s ws) i g t bt k) w) := by
  have bB := alloc_below (w := w) (.cells #[.int .u16 (i : Int), .int .u32 g] 32)
  have hz : (w.alloc (.cells #[.int .u16 (i : Int), .int .u32 g] 32)).heap[w.heap.size]? = some (.cells #[.int .u16 (i : Int), .int .u32 g] 32 (0, 0)) := heap_new _ _
  have HM := hideIt (h.below bB)
  have HTL := hideIt h.tzlt
  have HB := hideIt bB
  have HI := hideIt hI
  have HW : Hid (Wr ws) := hW
  have HG : Hid (Gd tabC w) := hg
  have HGZ := hideIt gz
  have HK0 := hideIt (hK.below bB kl)
  have l1 : (w.alloc (.cells #[.int .u16 (i : Int), .int .u32 g] 32)).heap.size = w.heap.size + 1 := Deep.nblk_alloc _ _
  have HP := hideIt (fun c => place_x HM.out hI hX HK0.out (by omega) i g ht hbt c)
  have HXx := hideIt hX
  clear h hI bB hW hg gz hK hX
  go_enter Tryz.func51, Tryz.ntmps51
  go_wp2_with fail
  go_at_call 130
  refine (HP.out _).mono ?_
  rintro e w1 ⟨hb1, hh⟩
  have HB1 := hideIt (Below.thr HB.out hb1)
  have HM1 := hideIt (HM.out.below hb1)
  have l0 : w.heap.size < w1.heap.size := Nat.lt_of_lt_of_le (heap_lt hz) hb1.size
  obtain ⟨x0, x1, _, _⟩ := two_cells ((hb1.block w.heap.size (heap_lt hz)).trans hz)
  have HK1 := hideIt (HK0.out.below hb1 (by omega))
  clear hb1 hz l1 HP
  rcases hh with ⟨hl, h1, hz0, t1, t7, T, E, hT, hE, q47, q4, rfl⟩ | ⟨v, code, rfl, hc, hv, hs⟩
  · have HL := hideIt hl
    have H1 : Hid ((s.hd i).typ = 1) := h1
    have i1 : 256 ≤ i := by
      obtain ⟨k, ek, k7, kk⟩ := HI.out.ge.typ i hl.1
      have : k = 1 := by omega
      exact (kk (by omega)).1 this
    have i2 : i < 320 := hl.1
    have hreg : IsReg s i := ⟨i1, i2, h1⟩
    have HPC : Hid (plC s i g t bt = 0) := by
      show plC s i g t bt = 0
      unfold plC
      rw [if_pos ⟨hl, h1⟩]
      exact hz0
    have HQ4 := hideIt q4
    have HQ5 : Hid (t ≠ 1 → szQ t bt = kBits t) := fun q => by unfold szQ; rw [if_neg q]
    have HSM := hideIt (spM_eq (ws := ws) (t := t) (bt := bt) HXx.out HI.out hreg hT hE)
    have HTM := hideIt (stM_eq (ws := ws) (t := t) (bt := bt) HXx.out HI.out hreg hT)
    have HE0 := hideIt hE
    have HTp : Hid ((s.rg (i - 256)).top = (T : Int)) := hT
    have HEL : Hid (E ≤ 281474976710656) := by
      show E ≤ 281474976710656
      have := HXx.out.gm.lim i i2 hl.2.2.1
      omega
    clear hl h1 hreg hz0 q4 hE hT
    obtain ⟨Q, hQe⟩ : ∃ Q, szQ t bt = Q := ⟨_, rfl⟩
    have HQE := hideIt hQe
    rw [hQe] at HQ4 HQ5 HSM HTM q47 ⊢
    clear hQe
    obtain ⟨zN, hzN⟩ : ∃ x, x = 2 ^ Q := ⟨_, rfl⟩
    obtain ⟨stN, hstN⟩ : ∃ x, x = alU T (2 ^ Q) := ⟨_, rfl⟩
    obtain ⟨spc, hspN⟩ : ∃ x, x = spN E (alU T (2 ^ Q)) (2 ^ Q) := ⟨_, rfl⟩
    have HAL := hideIt (alU_facts (x := T) (Nat.two_pow_pos Q))
    rw [← hspN, ← hstN, ← hzN]
    have HZN := hideIt hzN
    have HSN := hideIt hstN
    have HPN := hideIt hspN
    have z2 : zN ≤ 140737488355328 := by
      rw [hzN, show (140737488355328 : Nat) = 2 ^ 47 from rfl]
      exact Nat.pow_le_pow_right (by decide) q47
    have hTE : T ≤ E := by
      have := HXx.out.gm.chn i ⟨i1, i2, H1.out⟩
      have h2 := HTp.out
      have h3 := HE0.out
      omega
    have z0 : 0 ≤ (zN : Int) := by omega
    have z1 : (zN : Int) < 18446744073709551616 := by omega
    have s0 : 0 ≤ (stN : Int) := by omega
    have s1 : (stN : Int) < 18446744073709551616 := by
      have h1 := HAL.out.2.1
      rw [← hstN, ← hzN] at h1
      have h2 := HEL.out
      omega
    clear hzN hstN hspN
    have sEL := HEL.out
    have p1 : (spc : Int) < 18446744073709551616 := by
      have e := HPN.out
      have : spc ≤ E := by
        rw [e]
        unfold spN
        split
        · exact Nat.le_trans (Nat.div_le_self _ _) (Nat.sub_le _ _)
        · omega
      omega
    have p0 : 0 ≤ (spc : Int) := by omega
    obtain ⟨z, hz⟩ : ∃ z : Int, z = (zN : Int) := ⟨_, rfl⟩
    obtain ⟨st, hst⟩ : ∃ z : Int, z = (stN : Int) := ⟨_, rfl⟩
    obtain ⟨sp, hsp⟩ : ∃ z : Int, z = (spc : Int) := ⟨_, rfl⟩
    rw [← hz] at z0 z1 ⊢
    rw [← hst] at s0 s1 ⊢
    rw [← hsp] at p0 p1 ⊢
    have HZe := hideIt hz
    have HSe := hideIt hst
    have HPe := hideIt hsp
    clear hz hst hsp hTE z2
    have HRf : Hid (∀ (w2 w3 : World) (v : Value) (code : Int), Below w1.heap.size w1 w2 → Below w2.heap.size w2 w3 → IsErr w3 v code → code ≠ 0 → retX (ob s ws) i g t bt k = (bad code, ob s ws) → RtXP A rb sb s ws (retX (ob s ws) i g t bt k) w (.returned (.tuple #[.slice none 0 0, v])) w3) := fun w2 w3 v code a1 a2 a3 a4 a5 => Or.inl ⟨v, code, a5, rfl, a3, a4, Below.thr HB1.out (Below.thr a1 a2)⟩
    obtain ⟨lo, lim, hll, h320, ht1, hfe, hir⟩ : ∃ lo lim : Nat, lo ≤ lim ∧ lim ≤ 320 ∧ ((t = 1 ∧ lo = 256 ∧ lim = 320) ∨ (t ≠ 1 ∧ lo = 0 ∧ lim = 256)) ∧ (∀ w2 : World, Am w2 A s → Calls Tryz.prog 131 #[.pointer (some ⟨A, 0, none⟩), .int .u8 (t : Int)] w2 fun e w' => e = .returned (.int .i64 (cnI s lo lim : Int)) ∧ w' = w2) ∧ (∀ w2 : World, Calls Tryz.prog 134 #[.int .u8 (t : Int)] w2 fun e w' => e = .returned (.tuple #[.int .u16 (lo : Int), .int .u16 (lim : Int)]) ∧ w' = w2) := by
      by_cases q : t = 1
      · refine ⟨256, 320, by omega, by omega, Or.inl ⟨q, rfl, rfl⟩, fun w2 a => ?_, fun w2 => ?_⟩
        · have := freeEntries_walk a HI.out.ge.wd t
          rw [if_pos q] at this
          exact this
        · have := indexRange_walk t w2
          rw [if_pos q, if_pos q] at this
          exact this
      · refine ⟨0, 256, by omega, by omega, Or.inr ⟨q, rfl, rfl⟩, fun w2 a => ?_, fun w2 => ?_⟩
        · have := freeEntries_walk a HI.out.ge.wd t
          rw [if_neg q] at this
          exact this
        · have := indexRange_walk t w2
          rw [if_neg q, if_neg q] at this
          exact this
    have HLT : Hid (lo = loT t ∧ lim = hiT t) := by
      show lo = loT t ∧ lim = hiT t
      unfold loT hiT
      rcases ht1 with ⟨a, b, d⟩ | ⟨a, b, d⟩
      · rw [if_pos a, if_pos a]; exact ⟨b, d⟩
      · rw [if_neg a, if_neg a]; exact ⟨b, d⟩
    obtain ⟨rm, hrm, hrx, htr⟩ : ∃ rm : Nat, (t ≠ 1 → rm = (tl (t - 2)).length) ∧ rmM (ob s ws) t = (rm : Int) ∧ ∀ w2 : World, Ms w2 A rb sb s tl ws → Calls Tryz.prog 132 #[.pointer (some ⟨A, 0, none⟩), .int .u8 (t : Int)] w2 fun e w' => e = .returned (.int .i64 (rm : Int)) ∧ w' = w2 := by
      by_cases q : t = 1
      · subst q
        exact ⟨64, fun q => absurd rfl q, rfl, fun w2 _ => tableRoom_one A w2⟩
      · exact ⟨(tl (t - 2)).length, fun _ => rfl, rmM_eq HXx.out q t1 t7, fun w2 a => tableRoom_walk a (by omega) t7⟩
    have HFE := hideIt hfe
    have HIR := hideIt hir
    have HTR := hideIt htr
    have HT1 := hideIt ht1
    have HRM := hideIt hrm
    have HRX := hideIt hrx
    clear hfe hir htr ht1 hrm hrx
    obtain ⟨fe, hfe⟩ : ∃ q, q = cnI s lo lim := ⟨_, rfl⟩
    have HCN := hideIt hfe
    rw [← hfe] at HFE
    clear hfe
    have HFX : Hid ((spr (ob s ws) (loT t) (hiT t)).length = fe) := by
      show (spr (ob s ws) (loT t) (hiT t)).length = fe
      rw [fe_eq HXx.out HI.out t, HCN.out, HLT.out.1, HLT.out.2]
    have HC6 : Hid (((k : Int) < 1 ∨ (k : Int) > 32) → retX (ob s ws) i g t bt k = (bad 6, ob s ws)) := fun q => retX_cnt HPC.out (by omega)
    have HC7 : Hid (¬ (k : Int) < 1 → ¬ (k : Int) > 32 → (k : Int) > sp → retX (ob s ws) i g t bt k = (bad 7, ob s ws)) := fun q1 q2 q3 => retX_spc HPC.out (by omega) (by rw [HSM.out, ← HPN.out]; have := HPe.out; omega)
    have HC8 : Hid (¬ (k : Int) < 1 → ¬ (k : Int) > 32 → ¬ (k : Int) > sp → (k : Int) > (fe : Int) → retX (ob s ws) i g t bt k = (bad 8, ob s ws)) := fun q1 q2 q3 q4 => retX_slo HPC.out (by omega) (by rw [HSM.out, ← HPN.out]; have := HPe.out; omega) (by rw [HFX.out]; omega)
    have HC9 : Hid (¬ (k : Int) < 1 → ¬ (k : Int) > 32 → ¬ (k : Int) > sp → ¬ (k : Int) > (fe : Int) → (k : Int) > (rm : Int) → retX (ob s ws) i g t bt k = (bad 9, ob s ws)) := fun q1 q2 q3 q4 q5 => retX_tab HPC.out (by omega) (by rw [HSM.out, ← HPN.out]; have := HPe.out; omega) (by rw [HFX.out]; omega) (by rw [HRX.out]; omega)
    have HC0 : Hid (¬ (k : Int) < 1 → ¬ (k : Int) > 32 → ¬ (k : Int) > sp → ¬ (k : Int) > (fe : Int) → ¬ (k : Int) > (rm : Int) → retX (ob s ws) i g t bt k = (⟨0, ((spr (ob s ws) (loT t) (hiT t)).take k).map (fun c => (c, (ob s ws c).gen)), []⟩, grw i t (2 ^ Q) (ob s ws) stN ((spr (ob s ws) (loT t) (hiT t)).take k))) := fun q1 q2 q3 q4 q5 => by
      rw [retX_ok HPC.out (by omega) (by rw [HSM.out, ← HPN.out]; have := HPe.out; omega) (by rw [HFX.out]; omega) (by rw [HRX.out]; omega), HTM.out, HQE.out, ← HSN.out]
    have HB2 := hideIt (alloc_below (w := w1) (.cells #[.int .u16 (i : Int), .int .u8 (t : Int), .int .u64 z, .int .u64 st, .int .u64 sp] 267))
    have HM2 := hideIt (HM1.out.below HB2.out)
    have hcase : ((k : Int) < 1) ∨ (¬ (k : Int) < 1 ∧ (k : Int) > 32) ∨ (¬ (k : Int) < 1 ∧ ¬ (k : Int) > 32 ∧ (k : Int) > sp) ∨ (¬ (k : Int) < 1 ∧ ¬ (k : Int) > 32 ∧ ¬ (k : Int) > sp ∧ (k : Int) > (fe : Int)) ∨ (¬ (k : Int) < 1 ∧ ¬ (k : Int) > 32 ∧ ¬ (k : Int) > sp ∧ ¬ (k : Int) > (fe : Int) ∧ (k : Int) > (rm : Int)) ∨ (¬ (k : Int) < 1 ∧ ¬ (k : Int) > 32 ∧ ¬ (k : Int) > sp ∧ ¬ (k : Int) > (fe : Int) ∧ ¬ (k : Int) > (rm : Int)) := by omega
    rcases hcase with q1 | ⟨q1, q2⟩ | ⟨q1, q2, q3⟩ | ⟨q1, q2, q3, q4⟩ | ⟨q1, q2, q3, q4, q5⟩ | ⟨q1, q2, q3, q4, q5⟩
    rotate_right
    · obtain ⟨cs, hcs, hmk⟩ := make_refs k (by omega)
      have hz1 : ((w1.alloc (.cells #[.int .u16 (i : Int), .int .u8 (t : Int), .int .u64 z, .int .u64 st, .int .u64 sp] 267)).alloc (.cells cs 32)).heap[w1.heap.size]? = some (.cells #[.int .u16 (i : Int), .int .u8 (t : Int), .int .u64 z, .int .u64 st, .int .u64 sp] 267 (0, 0)) := (heap_alloc_old _ _ (by simp)).trans (heap_new _ _)
      have hz2 : ((w1.alloc (.cells #[.int .u16 (i : Int), .int .u8 (t : Int), .int .u64 z, .int .u64 st, .int .u64 sp] 267)).alloc (.cells cs 32)).heap[w1.heap.size + 1]? = some (.cells cs 32 (0, 0)) := new_at _ _ (Deep.nblk_alloc _ _)
      have hb3 := two_below (w := w1) (.cells #[.int .u16 (i : Int), .int .u8 (t : Int), .int .u64 z, .int .u64 st, .int .u64 sp] 267) (.cells cs 32)
      have HB3 := hideIt (Below.thr HB1.out hb3)
      have HM3 := hideIt (HM1.out.below hb3)
      have HZ1 := hideIt hz1
      have HZ2 := hideIt hz2
      have HCS := hideIt hcs
      clear hz1 hz2 hb3 hcs
      go_wp2_with (first | (go_at_call 131; refine (HFE.out _ HM2.out.am).mono ?_; rintro e w' ⟨rfl, hw'⟩; obtain rfl := hw'.symm) | (go_at_call 132; refine (HTR.out _ HM2.out).mono ?_; rintro e w' ⟨rfl, hw'⟩; obtain rfl := hw'.symm) | (go_at_call 134; refine (HIR.out _).mono ?_; rintro e w' ⟨rfl, hw'⟩; obtain rfl := hw'.symm))
      clear x0 x1 hmk
      generalize (w1.alloc (.cells #[.int .u16 (i : Int), .int .u8 (t : Int), .int .u64 z, .int .u64 st, .int .u64 sp] 267)).alloc (.cells cs 32) = w3 at *
      have lz1 := heap_lt HZ1.out
      have lz2 := heap_lt HZ2.out
      have nz1 : ¬ Tz A rb sb w1.heap.size := fun q => by have := HTL.out _ q; omega
      have nz2 : ¬ Tz A rb sb (w1.heap.size + 1) := fun q => by have := HTL.out _ q; omega
      have hRt : Rt A rb sb s n i t k lim z st sp w3 w1.heap.size (w1.heap.size + 1) 0 lo [] s tl ws L w3 := ⟨HM3.out, Ext.refl _ _ _, HI.out, HW.out, ⟨i1, i2, H1.out⟩, rfl, by omega, hll, by rw [← HCN.out]; omega, fun q => by rw [← HRM.out q]; omega, fun r hr => absurd hr (by simp), fun _ _ => ⟨rfl, rfl⟩, List.nodup_nil, Adv.refl _, fun j v hv => by
        have := box_cell HZ1.out j
        rw [Nat.zero_add, this, ← hv]
        simp [pl5], fun j v hv => by simp [refL] at hv, there_of HZ2.out _ (by rw [HCS.out]; exact Nat.le_refl _)⟩
      have HRt := hideIt hRt
      have HRx : Hid (Rtx s ws tl n i t lim Q T E stN 0 lo [] s ws L) := ⟨HXx.out, rfl, by
        have a := HAL.out.1
        rw [← HSN.out] at a
        have b := HTp.out
        omega, HE0.out, by rw [← HLT.out.1]; rfl, fun r hr => absurd hr (by simp)⟩
      have HSP : Hid (¬ spc < k) := by
        show ¬ spc < k
        have := HPe.out
        omega
      have HN1 := hideIt nz1
      have HN2 := hideIt nz2
      clear hRt nz1 nz2
      go_loopw [15, 17, 76] (fun v15 v17 v76 wr => ∃ (j x : Nat) (ad : Int) (refs : List (Nat × Int)) (s1 : Av) (tl1 : Nat → List Int) (ws1 : Nat → Nat → Nat → Int) (L1 : Nat → List Nat), v76 = .int .i64 (j : Int) ∧ v15 = .int .u16 (x : Int) ∧ v17 = .int .u64 ad ∧ 0 ≤ ad ∧ ad < 18446744073709551616 ∧ lo ≤ x ∧ (j < k → ad = ((stN + j * zN : Nat) : Int)) ∧ Rtx s ws tl1 n i t lim Q T E stN j x refs s1 ws1 L1 ∧ Rt A rb sb s n i t k lim z st sp w3 w1.heap.size (w1.heap.size + 1) j x refs s1 tl1 ws1 L1 wr) (fun _ _ v76 _ => k - (intOf v76).toNat)
      case atStart => exact ⟨0, lo, st, [], s, tl, ws, L, rfl, rfl, rfl, s0, s1, Nat.le_refl _, fun _ => by rw [HSe.out, Nat.zero_mul, Nat.add_zero], HRx.out, HRt.out⟩
      case round =>
        clear HRt HRx
        obtain ⟨j, x, ad, refs, s1', tl1, ws1, L1, rfl, rfl, rfl, ad0, ad1, lox, hadx, hRx, hR⟩ := hrel
        have HRX2 := hideIt hRx
        have HAD : Hid (j < k → ad = ((stN + j * zN : Nat) : Int)) := hadx
        clear hRx hadx
        have HR := hideIt hR
        have jk := hR.jk
        by_cases hjk : j < k
        · have hjk' : (j : Int) < (k : Int) := by omega
          have lw := hR.ext.size
          have HNX := hideIt (next_walk hR.ms.am hR.iv.ge.wd (Gd.ext (w := w3) (Gd.below HG.out HB3.out gl) hR.ext (by have := HB3.out.size; omega) (fun q => q.elim HGZ.out (fun e => by have := HB1.out.size; omega))) hR.xl h320)
          have p0 := hR.pl 0 _ rfl
          have p2 := hR.pl 2 _ rfl
          simp only [Nat.zero_add] at p0 p2
          clear hR
          go_wp2_with fail
          go_at_call 127
          refine HNX.out.mono ?_
          rintro e w4 ⟨hw4, hh⟩
          obtain rfl := hw4.symm
          clear hw4
          rcases hh with ⟨_, hno⟩ | ⟨c, rfl, c1, c2, hic, hno⟩
          · exfalso
            have h1 := cnI_none_lt hno
            have h2 := HR.out.cnt
            omega
          · have tr : t = 1 ↔ 256 ≤ c := by
              rcases HT1.out with ⟨a, b, d⟩ | ⟨a, b, d⟩
              · exact ⟨fun _ => by omega, fun _ => a⟩
              · exact ⟨fun q => absurd q a, fun q => by omega⟩
            obtain ⟨hplc, hjE⟩ := plc_of (s1 := s1') (i := i) (t := t) (k := k) (j := j) (T := T) (E := E) (q := Q) (st := stN) (z := zN) (sp := spc) HZN.out (by rw [HSN.out, HZN.out]) (by rw [HPN.out, HSN.out, HZN.out]) q47 HQ4.out HQ5.out hjk HSP.out (by have := HRX2.out.top; rw [← HZN.out] at this; exact this) HRX2.out.en
            rw [← HAD.out hjk, ← HZe.out] at hplc
            have HGC := hideIt (grow_calls_x HR.out.ms HR.out.iv HRX2.out.ix HR.out.wrd HR.out.reg (c := c) (by omega) hic t1 t7 tr (fun q => by have := HR.out.room q; omega) (b := ad) (z := z) hplc)
            have HJE := hideIt hjE
            clear hplc hjE
            have HIC := hideIt hic
            have HNO : Hid (∀ y, x ≤ y → y < c → ¬ Idl s1' y) := hno
            have lr1 : w1.heap.size < wr.heap.size := by omega
            have lr2 : w1.heap.size + 1 < wr.heap.size := by omega
            clear hno hic tr
            go_wp2_with fail
            go_at_call 128
            refine HGC.out.mono ?_
            rintro e w5 ⟨rfl, x5, hn5⟩
            have p05 := (x5.cell (p := ⟨w1.heap.size, 0, none⟩) lr1 HN1.out).trans p0
            have H5 := hideIt hn5
            clear hn5 x5
            go_wp2_with fail
            go_at_call 135
            refine H5.out.mono ?_
            rintro e w6 ⟨rfl, x6, hn6⟩
            have H6 := hideIt hn6
            clear hn6 x6 p05
            go_wp2_with fail
            go_at_call 124
            refine H6.out.mono ?_
            rintro e w7 ⟨rfl, x7, s2, tl2, ws2, L2, m7, i7, ix7, wd7, gw, gx⟩
            have p27 := (x7.cell (p := ⟨w1.heap.size, 2, none⟩) lr1 HN1.out).trans p2
            obtain ⟨th, hst⟩ := HR.out.step HN1.out HN2.out (by omega) lz1 lz2 hjk c1 c2 h320 HIC.out HNO.out x7 m7 i7 wd7 gw t1
            have hadj : ad = ((stN + j * zN : Nat) : Int) := HAD.out hjk
            have HGX : Hid (Rtx s ws tl2 n i t lim Q T E stN (j + 1) (c + 1) (refs ++ [(c, (s1'.hd c).gen)]) s2 ws2 L2) := HRX2.out.step HR.out.len c1 c2 h320 (fun r hr => (HR.out.new r hr).1) HR.out.oth HR.out.iv HIC.out HNO.out ix7 (by rw [← HZN.out, ← hadj, ← HZe.out]; exact gx)
            have HAN : Hid (j + 1 < k → IntKind.u64.wrap (ad + z) = ((stN + (j + 1) * zN : Nat) : Int)) := fun _ => by
              have a := HJE.out
              rw [hadj, HZe.out, Nat.succ_mul, u64_same (by omega) (by omega)]
              omega
            clear gx ix7 hadj
            obtain ⟨ta, tb⟩ := th (j * 2) (by omega)
            obtain ⟨tc, td⟩ := th (j * 2 + 1) (by omega)
            rw [Nat.zero_add] at ta tb tc td
            obtain ⟨va, hva⟩ := Option.isSome_iff_exists.1 ta
            obtain ⟨vc, hvc⟩ := Option.isSome_iff_exists.1 tc
            obtain ⟨aw0, aw1⟩ := wrap_u64_bd (ad + z)
            have HST := hideIt hst
            have ne1 : ¬ w1.heap.size = w1.heap.size + 1 := by omega
            have ne2 : ¬ w1.heap.size + 1 = w1.heap.size := by omega
            have iu : IntKind.u16.wrap ((c : Int) + 1) = (c : Int) + 1 := by unfold IntKind.wrap; simp [IntKind.bits, IntKind.signed]; omega
            clear hst th ta tc x7 m7 i7 wd7 gw p0 p2
            go_wp2_with fail
            exact ⟨⟨j + 1, c + 1, _, _, s2, tl2, ws2, L2, by go_num, by go_num, rfl, aw0, aw1, by omega, HAN.out, HGX.out, HST.out⟩, by simp [intOf]; omega⟩
        · obtain rfl : j = k := by omega
          have HF : Hid (RtXP A rb sb s ws (retX (ob s ws) i g t bt j) w (.returned (.tuple #[.slice (some ⟨w1.heap.size + 1, 0, none⟩) j j, .nilIface])) wr) := by
            have htk : (spr (ob s ws) (loT t) (hiT t)).take j = refs.map Prod.fst := by
              rw [← HLT.out.2, HRX2.out.spr, List.take_append_of_le_length (by rw [List.length_map, hR.len]; exact Nat.le_refl _), List.take_of_length_le (by rw [List.length_map, hR.len]; exact Nat.le_refl _)]
            refine Or.inr ⟨w1.heap.size + 1, refs, _, ?_, by rw [hR.len], by have := HB1.out.size; omega, by rw [hR.len]; omega, hR.rl, s1', tl1, ws1, L1, n, hR.ms, ?_, hR.iv, HRX2.out.ix, hR.wrd, rfl⟩
            · rw [HC0.out q1 q2 q3 q4 q5, htk, ← refs_of HRX2.out.gen, HRX2.out.obs]
            exact (Ext.of_below HB3.out (Tz A rb sb)).trans hR.ext HB3.out.size (fun b hb q => q.elim id (fun e => by have := HB1.out.size; omega))
          clear hR
          go_wp2_with fail
          exact bodyPost_ret (by simp [results, Tryz.results51]) rfl HF.out
    rotate_right
    · go_wp2_with (first | (go_at_call 131; refine (HFE.out _ HM2.out.am).mono ?_; rintro e w' ⟨rfl, hw'⟩; obtain rfl := hw'.symm) | (go_at_call 132; refine (HTR.out _ HM2.out).mono ?_; rintro e w' ⟨rfl, hw'⟩; obtain rfl := hw'.symm))
      have HK2 : Hid (Kd (w1.alloc (.cells #[.int .u16 (i : Int), .int .u8 (t : Int), .int .u64 z, .int .u64 st, .int .u64 sp] 267)).drew) := (show Kd (w1.alloc _) from HK1.out.below HB2.out (by omega))
      go_region_with (first | (go_at_call 133; refine (TypeName_walk HK2.out ht).mono ?_; rintro e w' ⟨⟨nm, nms, rfl⟩, hw'⟩; obtain rfl := hw'.symm) | (go_at_call 123; refine (refuse_walk _ _ _ _ _ _).mono ?_; rintro e w3 ⟨v, rfl, hv, hb⟩))
      all_goals
        have HF := hideIt (HRf.out _ _ _ _ (Below.thr HB2.out (below_d _)) hb hv (by omega) (HC9.out q1 q2 q3 q4 q5))
        clear hv hb
        go_wp2_with fail
        exact bodyPost_ret (by simp [results, Tryz.results51] <;> (first | rfl | exact ⟨rfl, rfl⟩)) rfl HF.out
    all_goals
      go_wp2_with (first | (go_at_call 131; refine (HFE.out _ HM2.out.am).mono ?_; rintro e w' ⟨rfl, hw'⟩; obtain rfl := hw'.symm) | (go_at_call 123; refine (refuse_walk _ _ _ _ _ _).mono ?_; rintro e w3 ⟨v, rfl, hv, hb⟩; have HF := hideIt (HRf.out _ _ _ _ HB2.out hb hv (by omega) (by first | exact HC6.out (Or.inl q1) | exact HC6.out (Or.inr q2) | exact HC7.out q1 q2 q3 | exact HC8.out q1 q2 q3 q4)); clear hv hb))
      exact bodyPost_ret (by simp [results, Tryz.results51]) rfl HF.out
  · obtain ⟨b, rfl, hbc⟩ := hv
    have HF : Hid (RtXP A rb sb s ws (retX (ob s ws) i g t bt k) w (.returned (.tuple #[.slice none 0 0, .iface 212 (.pointer (some ⟨b, 0, none⟩))])) (w1.alloc (.cells #[.int .u16 0, .int .u8 0, .int .u64 0, .int .u64 0, .int .u64 0] 267))) := Or.inl ⟨_, code, retX_err hs.symm hc, rfl, IsErr.below ⟨b, rfl, hbc⟩ (alloc_below _), hc, Below.thr HB1.out (alloc_below _)⟩
    clear hbc hs hc
    go_wp2_with fail
    exact bodyPost_ret (by simp [results, Tryz.results51]) rfl HF.out
end
end Go.Proofs.Qxb6500847aGreatDoor.Os
