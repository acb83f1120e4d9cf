/-
  Retype.
-/
import Derived.Test.Qxb6500847aGreatDoorOsRa
import Derived.Test.Qxb6500847aGreatDoorOsRb
namespace Go.Proofs.Qxb6500847aGreatDoor.Os
open Go.RowKit FloorA
set_option maxRecDepth 100000
theorem mk32 : (Tryz.prog.info? 32).map (fun i => (i.zero.isSome, decide (i.bytes ≤ 100000), i.size)) = some (true, true, 2) := by kernel_rfl
theorem make_refs (n : Nat) (hn : n ≤ 1000) : ∃ cs : Array Value, cs.size = n * 2 ∧ ∀ w : World, (Instr.makeSlice 55 (.int .i64 (n : Int)) (.int .i64 (n : Int))).run Tryz.prog w = .ok (.slice (some ⟨w.heap.size, 0, none⟩) n n) (w.alloc (.cells cs 32)) := by
  obtain ⟨i, hi1, hi2⟩ := Option.map_eq_some_iff.1 mk32
  simp only [Prod.mk.injEq, decide_eq_true_eq] at hi2
  obtain ⟨hz, hb, hs⟩ := hi2
  obtain ⟨z, hz⟩ := Option.isSome_iff_exists.1 hz
  refine ⟨madeCells z.cells (n * i.size), by rw [size_madeCells, hs], fun w => ?_⟩
  have hm : (i.bytes : Int) * (n : Int) ≤ 281474976710656 := by
    have h1 : i.bytes * n ≤ 100000 * 1000 := Nat.mul_le_mul hb hn
    have h2 : ((i.bytes * n : Nat) : Int) ≤ 281474976710656 := by omega
    rwa [Int.natCast_mul] at h2
  have := run_make (P := Tryz.prog) w 55 32 i z Tryz.underlying55 hi1 hz .i64 .i64 n n (by omega) (Int.le_refl _) hm (by omega)
  simpa using this
def refL (refs : List (Nat × Int)) : List Value := refs.flatMap (fun r => [.int .u16 (r.1 : Int), .int .u32 r.2])
theorem refL_len (refs : List (Nat × Int)) : (refL refs).length = refs.length * 2 := by
  unfold refL
  induction refs with
  | nil => rfl
  | cons a l ih => simp only [List.flatMap_cons, List.length_append, ih, List.length_cons, List.length_nil]; omega
section
variable {A : Nat} {rb sb : Nat → Nat} {s : Av} {tl : Nat → List Int} {ws : Nat → Nat → Nat → Int} {w : World} {L : Nat → List Nat} {n p c i : Nat}
def RtPost (A : Nat) (rb sb : Nat → Nat) (s : Av) (i : Nat) (g : Int) (w : World) (e : Ending) (w' : World) : Prop :=
  (∃ v code, e = .returned (.tuple #[.slice none 0 0, v]) ∧ Refu w v w' code ∧ (¬ Live s i g → code = stale i g)) ∨
  (Live s i g ∧ ∃ (R : Nat) (refs : List (Nat × Int)), e = .returned (.tuple #[.slice (some ⟨R, 0, none⟩) refs.length refs.length, .nilIface]) ∧ w.heap.size ≤ R ∧ refs.length ≤ 32 ∧ w'.rangeAt R 0 (refL refs) ∧ SucR A rb sb s refs w w')
/-- Between two rounds. -/
structure Rt (A : Nat) (rb sb : Nat → Nat) (s : Av) (n p t k lim : Nat) (z st sp : Int) (w1 : World) (R Rs : Nat) (j x : Nat) (refs : List (Nat × Int)) (s1 : Av) (tl1 : Nat → List Int) (ws1 : Nat → Nat → Nat → Int) (L1 : Nat → List Nat) (wr : World) : Prop where
  ms : Ms wr A rb sb s1 tl1 ws1
  ext : Ext w1.heap.size (fun b => Tz A rb sb b ∨ b = Rs) w1 wr
  iv : IV s1 tl1 L1 n
  wrd : Wr ws1
  reg : IsReg s1 p
  len : refs.length = j
  jk : j ≤ k
  xl : x ≤ lim
  cnt : k - j ≤ cnI s1 x lim
  room : t ≠ 1 → k - j ≤ (tl1 (t - 2)).length
  new : ∀ r ∈ refs, r.1 < x ∧ (s.hd r.1).typ = 0 ∧ (s.hd r.1).gen = r.2 ∧ Live s1 r.1 r.2
  oth : ∀ y, (∀ r ∈ refs, r.1 ≠ y) → (s1.hd y).gen = (s.hd y).gen ∧ (s1.hd y).typ = (s.hd y).typ
  nd : (refs.map Prod.fst).Nodup
  adv : Adv s s1
  pl : wr.rangeAt R 0 (pl5 p t z st sp)
  rl : wr.rangeAt Rs 0 (refL refs)
  th : wr.there Rs 0 (k * 2)
theorem Rt.step {t k lim j x R Rs : Nat} {z st sp : Int} {w1 wr w4 : World} {refs : List (Nat × Int)} {s1 s2 : Av} {tl1 tl2 : Nat → List Int} {ws1 ws2 : Nat → Nat → Nat → Int} {L1 L2 : Nat → List Nat}
    (h : Rt A rb sb s n p t k lim z st sp w1 R Rs j x refs s1 tl1 ws1 L1 wr) (hR : ¬ Tz A rb sb R) (hRs : ¬ Tz A rb sb Rs) (ne : R ≠ Rs) (lR : R < w1.heap.size) (lRs : Rs < w1.heap.size) (hjk : j < k)
    (xc : x ≤ c) (cl : c < lim) (l320 : lim ≤ 320) (hic : Idl s1 c) (hnone : ∀ y, x ≤ y → y < c → ¬ Idl s1 y) (h4 : Ext wr.heap.size (Tz A rb sb) wr w4) (m4 : Ms w4 A rb sb s2 tl2 ws2) (i4 : IV s2 tl2 L2 n) (hw4 : Wr ws2) (hg : Gw s1 s2 tl1 tl2 c t p) (t1 : 1 ≤ t) :
    w4.there Rs 0 (k * 2) ∧ Rt A rb sb s n p t k lim z st sp w1 R Rs (j + 1) (c + 1) (refs ++ [(c, (s1.hd c).gen)]) s2 tl2 ws2 L2 ((w4.setCell ⟨Rs, j * 2, none⟩ (.int .u16 (c : Int))).setCell ⟨Rs, j * 2 + 1, none⟩ (.int .u32 (s1.hd c).gen)) := by
  have lr : w1.heap.size ≤ wr.heap.size := h.ext.size
  have lRs' : Rs < wr.heap.size := by omega
  have lR' : R < wr.heap.size := by omega
  have c4 : ∀ o, w4.cell? ⟨Rs, o, none⟩ = wr.cell? ⟨Rs, o, none⟩ := fun o => h4.cell (p := ⟨Rs, o, none⟩) lRs' hRs
  have th4 : w4.there Rs 0 (k * 2) := fun q hq => by
    obtain ⟨a, b⟩ := h.th q hq
    refine ⟨by rw [c4]; exact a, ?_⟩
    unfold World.frozen? at b ⊢
    rw [show w4.heap[(⟨Rs, 0 + q, none⟩ : Addr).block]? = wr.heap[(⟨Rs, 0 + q, none⟩ : Addr).block]? from h4.block Rs lRs' hRs]
    exact b
  have c0 : (s1.hd c).typ = 0 := h.iv.ge.idl c (by omega) hic
  have nin : ∀ r ∈ refs, r.1 ≠ c := fun r hr => by have := (h.new r hr).1; omega
  obtain ⟨o1, o2⟩ := h.oth c nin
  have hT : ∀ b, Tz A rb sb b → b ≠ Rs := fun b hb e => hRs (e ▸ hb)
  have hEs : Ext w4.heap.size (fun b => b = Rs) w4 ((w4.setCell ⟨Rs, j * 2, none⟩ (.int .u16 (c : Int))).setCell ⟨Rs, j * 2 + 1, none⟩ (.int .u32 (s1.hd c).gen)) := ((Ext.refl w4.heap.size (fun b => b = Rs) w4).setCell (p := ⟨Rs, j * 2, none⟩) (Or.inr rfl) _).setCell (p := ⟨Rs, j * 2 + 1, none⟩) (Or.inr rfl) _
  refine ⟨th4, m4.ext hEs hT, ?_, i4, hw4, hg.reg, by rw [List.length_append, h.len]; rfl, by omega, by omega, ?_, fun q => ?_, fun r hr => ?_, fun y hy => ?_, ?_, h.adv.trans (hg.adv c0), ?_, ?_, ?_⟩
  · exact (h.ext.trans h4 h.ext.size (fun _ _ q => Or.inl q)).trans hEs (Nat.le_trans h.ext.size h4.size) (fun _ _ q => Or.inr q)
  · have e1 := cnI_step xc cl hic hnone
    have e2 : cnI s2 (c + 1) lim = cnI s1 (c + 1) lim := cnI_congr (fun y hy _ => by rw [hg.idl]; exact ⟨fun q => q.1, fun q => ⟨q, by omega⟩⟩)
    have := h.cnt
    omega
  · have := h.room q
    have := hg.room q
    omega
  · rcases List.mem_append.1 hr with q | q
    · obtain ⟨a1, a2, a3, a4⟩ := h.new r q
      have e := hg.oth r.1 (nin r q)
      refine ⟨by omega, a2, a3, a4.1, a4.2.1, by rw [e.2]; exact a4.2.2.1, by rw [e.1]; exact a4.2.2.2⟩
    · have : r = (c, (s1.hd c).gen) := by simpa using q
      subst this
      obtain ⟨g0, eg, g1, _⟩ := h.iv.ge.gen c (by omega)
      refine ⟨by show c < c + 1; omega, by rw [← o2]; exact c0, o1.symm, by show c < 320; omega, by show (s1.hd c).gen ≠ 0; omega, ?_, hg.gen⟩
      show (s2.hd c).typ ≠ 0
      rw [hg.typ]
      omega
  · have yc : y ≠ c := fun e => hy (c, (s1.hd c).gen) (by simp) e.symm
    obtain ⟨a1, a2⟩ := h.oth y (fun r hr => hy r (List.mem_append_left _ hr))
    obtain ⟨b1, b2⟩ := hg.oth y yc
    exact ⟨b1.trans a1, b2.trans a2⟩
  · rw [List.map_append, List.nodup_append]
    refine ⟨h.nd, by simp, fun a ha b hb e => ?_⟩
    obtain ⟨r, hr, rfl⟩ := List.mem_map.1 ha
    have : b = c := by simpa using hb
    exact nin r hr (by rw [e, this])
  · intro q v hv
    rw [set_other (fun e => ne (congrArg Addr.block e).symm), set_other (fun e => ne (congrArg Addr.block e).symm), h4.cell (p := ⟨R, 0 + q, none⟩) lR' hR]
    exact h.pl q v hv
  · intro q v hv
    have hll : (refL refs).length = j * 2 := by rw [refL_len, h.len]
    have e : refL (refs ++ [(c, (s1.hd c).gen)]) = refL refs ++ [.int .u16 (c : Int), .int .u32 (s1.hd c).gen] := by unfold refL; simp
    rw [e] at hv
    have t0 := (th4 (j * 2) (by omega)).1
    have t1' := (th4 (j * 2 + 1) (by omega)).1
    rw [Nat.zero_add] at t0 t1'
    obtain ⟨v0, hv0⟩ := Option.isSome_iff_exists.1 t0
    obtain ⟨v1, hv1⟩ := Option.isSome_iff_exists.1 t1'
    rcases Nat.lt_or_ge q (j * 2) with a | a
    · rw [List.getElem?_append_left (by omega)] at hv
      rw [set_other (fun e => by injection e with _ e; omega), set_other (fun e => by injection e with _ e; omega), c4]
      exact h.rl q v hv
    · rw [List.getElem?_append_right (by omega), hll] at hv
      obtain ⟨d, hd⟩ : ∃ d, q = j * 2 + d := ⟨q - j * 2, by omega⟩
      subst hd
      rw [show j * 2 + d - j * 2 = d by omega] at hv
      match d, hv with
      | 0, hv =>
        simp only [List.getElem?_cons_zero, Option.some.injEq] at hv
        subst hv
        rw [set_other (fun e => by injection e with _ e; omega), Nat.zero_add, Nat.add_zero]
        exact set_same hv0
      | 1, hv =>
        simp only [List.getElem?_cons_succ, List.getElem?_cons_zero, Option.some.injEq] at hv
        subst hv
        rw [Nat.zero_add]
        exact set_same (u := v1) (by rw [set_other (fun e => by injection e with _ e; omega)]; exact hv1)
      | d + 2, hv => simp at hv
  · exact fun q hq => by
      have := World.there_setCells th4 Rs (j * 2) [.int .u16 (c : Int), .int .u32 (s1.hd c).gen] q hq
      exact this
theorem Gd.ext {w w' : World} {T : Nat → Prop} (h : Gd tabC w) (e : Ext w.heap.size T w w') (hl : 3 < w.heap.size) (hT : ¬ T 3) : Gd tabC w' := fun j hj => (e.cell (p := ⟨3, j, none⟩) hl hT).trans (h j hj)
set_option maxHeartbeats 16000000 in
theorem Retype_walk (h : Ms w A rb sb s tl ws) (hI : IV s tl L n) (hW : Wr ws) (hg : Gd tabC w) (gl : 3 < w.heap.size) (gz : ¬ Tz A rb sb 3) (hK : Kd w) (kl : 1 < w.heap.size) (i : Nat) (g : Int) {t bt k : Nat} (ht : t < 256) (hbt : bt < 256) (hk : k < 65536) :
    Calls Tryz.prog 51 #[.pointer (some ⟨A, 0, none⟩), .agg #[.int .u16 (i : Int), .int .u32 g], .int .u8 (t : Int), .int .u8 (bt : Int), .int .i64 (k : Int)] w (RtPost A rb sb s i g w) := by
  have bB := alloc_below (w := w) (.cells #[.int .u16 (i : Int), .int .u32 g] 32)
  have hz : (w.alloc (.cells #[.int .u16 (i : Int), .int .u32 g] 32)).heap[w.heap.size]? = some (.cells #[.int .u16 (i : Int), .int .u32 g] 32 (0, 0)) := heap_new _ _
  have HM := hideIt (h.below bB)
  have HTL := hideIt h.tzlt
  have HB := hideIt bB
  have HI := hideIt hI
  have HW : Hid (Wr ws) := hW
  have HG : Hid (Gd tabC w) := hg
  have HGZ := hideIt gz
  have HK0 := hideIt (hK.below bB kl)
  have l1 : (w.alloc (.cells #[.int .u16 (i : Int), .int .u32 g] 32)).heap.size = w.heap.size + 1 := Deep.nblk_alloc _ _
  have HP := hideIt (fun c => place_walk HM.out hI HK0.out (by omega) i g ht hbt c)
  clear h hI bB hW hg gz hK
  go_enter Tryz.func51, Tryz.ntmps51
  go_wp2_with fail
  go_at_call 130
  refine (HP.out _).mono ?_
  rintro e w1 ⟨hb1, hh⟩
  have HB1 := hideIt (Below.thr HB.out hb1)
  have HM1 := hideIt (HM.out.below hb1)
  have l0 : w.heap.size < w1.heap.size := Nat.lt_of_lt_of_le (heap_lt hz) hb1.size
  obtain ⟨x0, x1, _, _⟩ := two_cells ((hb1.block w.heap.size (heap_lt hz)).trans hz)
  have HK1 := hideIt (HK0.out.below hb1 (by omega))
  clear hb1 hz l1 HP
  rcases hh with ⟨hl, h1, t1, t7, z, st, sp, z0, z1, s0, s1, p0, p1, rfl⟩ | ⟨v, code, rfl, hc, hv, hs⟩
  · have HL := hideIt hl
    have H1 : Hid ((s.hd i).typ = 1) := h1
    have i1 : 256 ≤ i := by
      obtain ⟨k, ek, k7, kk⟩ := HI.out.ge.typ i hl.1
      have : k = 1 := by omega
      exact (kk (by omega)).1 this
    have i2 : i < 320 := hl.1
    clear hl h1
    have HRf : Hid (∀ (w2 w3 : World) (v : Value) (code : Int), Below w1.heap.size w1 w2 → Below w2.heap.size w2 w3 → IsErr w3 v code → code ≠ 0 → RtPost A rb sb s i g w (.returned (.tuple #[.slice none 0 0, v])) w3) := fun w2 w3 v code a1 a2 a3 a4 => Or.inl ⟨v, code, rfl, ⟨a3, a4, Below.thr HB1.out (Below.thr a1 a2)⟩, fun q => absurd HL.out q⟩
    obtain ⟨lo, lim, hll, h320, ht1, hfe, hir⟩ : ∃ lo lim : Nat, lo ≤ lim ∧ lim ≤ 320 ∧ ((t = 1 ∧ lo = 256 ∧ lim = 320) ∨ (t ≠ 1 ∧ lo = 0 ∧ lim = 256)) ∧ (∀ w2 : World, Am w2 A s → Calls Tryz.prog 131 #[.pointer (some ⟨A, 0, none⟩), .int .u8 (t : Int)] w2 fun e w' => e = .returned (.int .i64 (cnI s lo lim : Int)) ∧ w' = w2) ∧ (∀ w2 : World, Calls Tryz.prog 134 #[.int .u8 (t : Int)] w2 fun e w' => e = .returned (.tuple #[.int .u16 (lo : Int), .int .u16 (lim : Int)]) ∧ w' = w2) := by
      by_cases q : t = 1
      · refine ⟨256, 320, by omega, by omega, Or.inl ⟨q, rfl, rfl⟩, fun w2 a => ?_, fun w2 => ?_⟩
        · have := freeEntries_walk a HI.out.ge.wd t
          rw [if_pos q] at this
          exact this
        · have := indexRange_walk t w2
          rw [if_pos q, if_pos q] at this
          exact this
      · refine ⟨0, 256, by omega, by omega, Or.inr ⟨q, rfl, rfl⟩, fun w2 a => ?_, fun w2 => ?_⟩
        · have := freeEntries_walk a HI.out.ge.wd t
          rw [if_neg q] at this
          exact this
        · have := indexRange_walk t w2
          rw [if_neg q, if_neg q] at this
          exact this
    obtain ⟨rm, hrm, htr⟩ : ∃ rm : Nat, (t ≠ 1 → rm = (tl (t - 2)).length) ∧ ∀ w2 : World, Ms w2 A rb sb s tl ws → Calls Tryz.prog 132 #[.pointer (some ⟨A, 0, none⟩), .int .u8 (t : Int)] w2 fun e w' => e = .returned (.int .i64 (rm : Int)) ∧ w' = w2 := by
      by_cases q : t = 1
      · subst q
        exact ⟨64, fun q => absurd rfl q, fun w2 _ => tableRoom_one A w2⟩
      · exact ⟨(tl (t - 2)).length, fun _ => rfl, fun w2 a => tableRoom_walk a (by omega) t7⟩
    have HFE := hideIt hfe
    have HIR := hideIt hir
    have HTR := hideIt htr
    have HT1 := hideIt ht1
    have HRM := hideIt hrm
    clear hfe hir htr ht1 hrm
    obtain ⟨fe, hfe⟩ : ∃ q, q = cnI s lo lim := ⟨_, rfl⟩
    have HCN := hideIt hfe
    rw [← hfe] at HFE
    clear hfe
    have HB2 := hideIt (alloc_below (w := w1) (.cells #[.int .u16 (i : Int), .int .u8 (t : Int), .int .u64 z, .int .u64 st, .int .u64 sp] 267))
    have HM2 := hideIt (HM1.out.below HB2.out)
    have hcase : ((k : Int) < 1) ∨ (¬ (k : Int) < 1 ∧ (k : Int) > 32) ∨ (¬ (k : Int) < 1 ∧ ¬ (k : Int) > 32 ∧ (k : Int) > sp) ∨ (¬ (k : Int) < 1 ∧ ¬ (k : Int) > 32 ∧ ¬ (k : Int) > sp ∧ (k : Int) > (fe : Int)) ∨ (¬ (k : Int) < 1 ∧ ¬ (k : Int) > 32 ∧ ¬ (k : Int) > sp ∧ ¬ (k : Int) > (fe : Int) ∧ (k : Int) > (rm : Int)) ∨ (¬ (k : Int) < 1 ∧ ¬ (k : Int) > 32 ∧ ¬ (k : Int) > sp ∧ ¬ (k : Int) > (fe : Int) ∧ ¬ (k : Int) > (rm : Int)) := by omega
    rcases hcase with q1 | ⟨q1, q2⟩ | ⟨q1, q2, q3⟩ | ⟨q1, q2, q3, q4⟩ | ⟨q1, q2, q3, q4, q5⟩ | ⟨q1, q2, q3, q4, q5⟩
    rotate_right
    · obtain ⟨cs, hcs, hmk⟩ := make_refs k (by omega)
      have hz1 : ((w1.alloc (.cells #[.int .u16 (i : Int), .int .u8 (t : Int), .int .u64 z, .int .u64 st, .int .u64 sp] 267)).alloc (.cells cs 32)).heap[w1.heap.size]? = some (.cells #[.int .u16 (i : Int), .int .u8 (t : Int), .int .u64 z, .int .u64 st, .int .u64 sp] 267 (0, 0)) := (heap_alloc_old _ _ (by simp)).trans (heap_new _ _)
      have hz2 : ((w1.alloc (.cells #[.int .u16 (i : Int), .int .u8 (t : Int), .int .u64 z, .int .u64 st, .int .u64 sp] 267)).alloc (.cells cs 32)).heap[w1.heap.size + 1]? = some (.cells cs 32 (0, 0)) := new_at _ _ (Deep.nblk_alloc _ _)
      have hb3 := two_below (w := w1) (.cells #[.int .u16 (i : Int), .int .u8 (t : Int), .int .u64 z, .int .u64 st, .int .u64 sp] 267) (.cells cs 32)
      have HB3 := hideIt (Below.thr HB1.out hb3)
      have HM3 := hideIt (HM1.out.below hb3)
      have HZ1 := hideIt hz1
      have HZ2 := hideIt hz2
      have HCS := hideIt hcs
      clear hz1 hz2 hb3 hcs
      go_wp2_with (first | (go_at_call 131; refine (HFE.out _ HM2.out.am).mono ?_; rintro e w' ⟨rfl, hw'⟩; obtain rfl := hw'.symm) | (go_at_call 132; refine (HTR.out _ HM2.out).mono ?_; rintro e w' ⟨rfl, hw'⟩; obtain rfl := hw'.symm) | (go_at_call 134; refine (HIR.out _).mono ?_; rintro e w' ⟨rfl, hw'⟩; obtain rfl := hw'.symm))
      clear x0 x1 hmk
      generalize (w1.alloc (.cells #[.int .u16 (i : Int), .int .u8 (t : Int), .int .u64 z, .int .u64 st, .int .u64 sp] 267)).alloc (.cells cs 32) = w3 at *
      have lz1 := heap_lt HZ1.out
      have lz2 := heap_lt HZ2.out
      have nz1 : ¬ Tz A rb sb w1.heap.size := fun q => by have := HTL.out _ q; omega
      have nz2 : ¬ Tz A rb sb (w1.heap.size + 1) := fun q => by have := HTL.out _ q; omega
      have hRt : Rt A rb sb s n i t k lim z st sp w3 w1.heap.size (w1.heap.size + 1) 0 lo [] s tl ws L w3 := ⟨HM3.out, Ext.refl _ _ _, HI.out, HW.out, ⟨i1, i2, H1.out⟩, rfl, by omega, hll, by rw [← HCN.out]; omega, fun q => by rw [← HRM.out q]; omega, fun r hr => absurd hr (by simp), fun _ _ => ⟨rfl, rfl⟩, List.nodup_nil, Adv.refl _, fun j v hv => by
        have := box_cell HZ1.out j
        rw [Nat.zero_add, this, ← hv]
        simp [pl5], fun j v hv => by simp [refL] at hv, there_of HZ2.out _ (by rw [HCS.out]; exact Nat.le_refl _)⟩
      have HRt := hideIt hRt
      have HN1 := hideIt nz1
      have HN2 := hideIt nz2
      clear hRt nz1 nz2
      go_loopw [15, 17, 76] (fun v15 v17 v76 wr => ∃ (j x : Nat) (ad : Int) (refs : List (Nat × Int)) (s1 : Av) (tl1 : Nat → List Int) (ws1 : Nat → Nat → Nat → Int) (L1 : Nat → List Nat), v76 = .int .i64 (j : Int) ∧ v15 = .int .u16 (x : Int) ∧ v17 = .int .u64 ad ∧ 0 ≤ ad ∧ ad < 18446744073709551616 ∧ lo ≤ x ∧ Rt A rb sb s n i t k lim z st sp w3 w1.heap.size (w1.heap.size + 1) j x refs s1 tl1 ws1 L1 wr) (fun _ _ v76 _ => k - (intOf v76).toNat)
      case atStart => exact ⟨0, lo, st, [], s, tl, ws, L, rfl, rfl, rfl, s0, s1, Nat.le_refl _, HRt.out⟩
      case round =>
        clear HRt
        obtain ⟨j, x, ad, refs, s1', tl1, ws1, L1, rfl, rfl, rfl, ad0, ad1, lox, hR⟩ := hrel
        have HR := hideIt hR
        have jk := hR.jk
        by_cases hjk : j < k
        · have hjk' : (j : Int) < (k : Int) := by omega
          have lw := hR.ext.size
          have HNX := hideIt (next_walk hR.ms.am hR.iv.ge.wd (Gd.ext (w := w3) (Gd.below HG.out HB3.out gl) hR.ext (by have := HB3.out.size; omega) (fun q => q.elim HGZ.out (fun e => by have := HB1.out.size; omega))) hR.xl h320)
          have p0 := hR.pl 0 _ rfl
          have p2 := hR.pl 2 _ rfl
          simp only [Nat.zero_add] at p0 p2
          clear hR
          go_wp2_with fail
          go_at_call 127
          refine HNX.out.mono ?_
          rintro e w4 ⟨hw4, hh⟩
          obtain rfl := hw4.symm
          clear hw4
          rcases hh with ⟨_, hno⟩ | ⟨c, rfl, c1, c2, hic, hno⟩
          · exfalso
            have h1 := cnI_none_lt hno
            have h2 := HR.out.cnt
            omega
          · have tr : t = 1 ↔ 256 ≤ c := by
              rcases HT1.out with ⟨a, b, d⟩ | ⟨a, b, d⟩
              · exact ⟨fun _ => by omega, fun _ => a⟩
              · exact ⟨fun q => absurd q a, fun q => by omega⟩
            have HGC := hideIt (grow_calls HR.out.ms HR.out.iv HR.out.wrd HR.out.reg (c := c) (by omega) hic t1 t7 tr (fun q => by have := HR.out.room q; omega) (b := ad) (z := z) ⟨ad0, ad1, z0, z1⟩)
            have HIC := hideIt hic
            have HNO : Hid (∀ y, x ≤ y → y < c → ¬ Idl s1' y) := hno
            have lr1 : w1.heap.size < wr.heap.size := by omega
            have lr2 : w1.heap.size + 1 < wr.heap.size := by omega
            clear hno hic tr
            go_wp2_with fail
            go_at_call 128
            refine HGC.out.mono ?_
            rintro e w5 ⟨rfl, x5, hn5⟩
            have p05 := (x5.cell (p := ⟨w1.heap.size, 0, none⟩) lr1 HN1.out).trans p0
            have H5 := hideIt hn5
            clear hn5 x5
            go_wp2_with fail
            go_at_call 135
            refine H5.out.mono ?_
            rintro e w6 ⟨rfl, x6, hn6⟩
            have H6 := hideIt hn6
            clear hn6 x6 p05
            go_wp2_with fail
            go_at_call 124
            refine H6.out.mono ?_
            rintro e w7 ⟨rfl, x7, s2, tl2, ws2, L2, m7, i7, wd7, gw⟩
            have p27 := (x7.cell (p := ⟨w1.heap.size, 2, none⟩) lr1 HN1.out).trans p2
            obtain ⟨th, hst⟩ := HR.out.step HN1.out HN2.out (by omega) lz1 lz2 hjk c1 c2 h320 HIC.out HNO.out x7 m7 i7 wd7 gw t1
            obtain ⟨ta, tb⟩ := th (j * 2) (by omega)
            obtain ⟨tc, td⟩ := th (j * 2 + 1) (by omega)
            rw [Nat.zero_add] at ta tb tc td
            obtain ⟨va, hva⟩ := Option.isSome_iff_exists.1 ta
            obtain ⟨vc, hvc⟩ := Option.isSome_iff_exists.1 tc
            obtain ⟨aw0, aw1⟩ := wrap_u64_bd (ad + z)
            have HST := hideIt hst
            have ne1 : ¬ w1.heap.size = w1.heap.size + 1 := by omega
            have ne2 : ¬ w1.heap.size + 1 = w1.heap.size := by omega
            have iu : IntKind.u16.wrap ((c : Int) + 1) = (c : Int) + 1 := by unfold IntKind.wrap; simp [IntKind.bits, IntKind.signed]; omega
            clear hst th ta tc x7 m7 i7 wd7 gw p0 p2
            go_wp2_with fail
            exact ⟨⟨j + 1, c + 1, _, _, s2, tl2, ws2, L2, by go_num, by go_num, rfl, aw0, aw1, by omega, HST.out⟩, by simp [intOf]; omega⟩
        · obtain rfl : j = k := by omega
          have HF : Hid (RtPost A rb sb s i g w (.returned (.tuple #[.slice (some ⟨w1.heap.size + 1, 0, none⟩) j j, .nilIface])) wr) := by
            refine Or.inr ⟨HL.out, w1.heap.size + 1, refs, by rw [hR.len], by have := HB1.out.size; omega, by rw [hR.len]; omega, hR.rl, s1', tl1, ws1, L1, n, hR.ms, ?_, hR.iv, hR.wrd, hR.adv, fun r hr => (hR.new r hr).2, hR.nd⟩
            exact (Ext.of_below HB3.out (Tz A rb sb)).trans hR.ext HB3.out.size (fun b hb q => q.elim id (fun e => by have := HB1.out.size; omega))
          clear hR
          go_wp2_with fail
          exact bodyPost_ret (by simp [results, Tryz.results51]) rfl HF.out
    rotate_right
    · go_wp2_with (first | (go_at_call 131; refine (HFE.out _ HM2.out.am).mono ?_; rintro e w' ⟨rfl, hw'⟩; obtain rfl := hw'.symm) | (go_at_call 132; refine (HTR.out _ HM2.out).mono ?_; rintro e w' ⟨rfl, hw'⟩; obtain rfl := hw'.symm))
      have HK2 : Hid (Kd (w1.alloc (.cells #[.int .u16 (i : Int), .int .u8 (t : Int), .int .u64 z, .int .u64 st, .int .u64 sp] 267)).drew) := (show Kd (w1.alloc _) from HK1.out.below HB2.out (by omega))
      go_region_with (first | (go_at_call 133; refine (TypeName_walk HK2.out ht).mono ?_; rintro e w' ⟨⟨nm, nms, rfl⟩, hw'⟩; obtain rfl := hw'.symm) | (go_at_call 123; refine (refuse_walk _ _ _ _ _ _).mono ?_; rintro e w3 ⟨v, rfl, hv, hb⟩))
      all_goals
        have HF := hideIt (HRf.out _ _ _ _ (Below.thr HB2.out (below_d _)) hb hv (by omega))
        clear hv hb
        go_wp2_with fail
        exact bodyPost_ret (by simp [results, Tryz.results51] <;> (first | rfl | exact ⟨rfl, rfl⟩)) rfl HF.out
    all_goals
      go_wp2_with (first | (go_at_call 131; refine (HFE.out _ HM2.out.am).mono ?_; rintro e w' ⟨rfl, hw'⟩; obtain rfl := hw'.symm) | (go_at_call 123; refine (refuse_walk _ _ _ _ _ _).mono ?_; rintro e w3 ⟨v, rfl, hv, hb⟩; have HF := hideIt (HRf.out _ _ _ _ HB2.out hb hv (by omega)); clear hv hb))
      exact bodyPost_ret (by simp [results, Tryz.results51]) rfl HF.out
  · obtain ⟨b, rfl, hbc⟩ := hv
    have HF : Hid (RtPost A rb sb s i g w (.returned (.tuple #[.slice none 0 0, .iface 212 (.pointer (some ⟨b, 0, none⟩))])) (w1.alloc (.cells #[.int .u16 0, .int .u8 0, .int .u64 0, .int .u64 0, .int .u64 0] 267))) := Or.inl ⟨_, code, rfl, ⟨IsErr.below ⟨b, rfl, hbc⟩ (alloc_below _), hc, Below.thr HB1.out (alloc_below _)⟩, hs⟩
    clear hbc hs hc
    go_wp2_with fail
    exact bodyPost_ret (by simp [results, Tryz.results51]) rfl HF.out
end
end Go.Proofs.Qxb6500847aGreatDoor.Os
