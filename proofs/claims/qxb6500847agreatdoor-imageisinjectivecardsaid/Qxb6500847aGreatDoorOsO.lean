/-
  rootAbove, removeRoot.
-/
import Derived.Test.Qxb6500847aGreatDoorOsN
import Derived.Test.Qxb6500847aGreatDoorOsSh
namespace Go.Proofs.Qxb6500847aGreatDoor.Os
open Go.RowKit Go.Sort FloorA
set_option maxRecDepth 100000
section
variable {A : Nat} {rb sb : Nat → Nat} {s s' : Av} {tl : Nat → List Int} {ws : Nat → Nat → Nat → Int} {w w' : World} {c : Nat}
def rbas (s : Av) (i : Nat) : Int := (s.hd (s.rts i).toNat).bas
set_option maxHeartbeats 800000 in
theorem above_clo (hA : Am w A s) {b1 b2 : Nat} (x : Int) (h1 : w.cell? ⟨b1, 0, none⟩ = some (.pointer (some ⟨A, 0, none⟩))) (h2 : w.cell? ⟨b2, 0, none⟩ = some (.int .u64 x)) {i c : Nat} (hi : i < 64) (hc : c < 320) (hr : s.rts i = (c : Int)) :
    Calls Tryz.prog 236 (#[.int .i64 (i : Int)] ++ #[.pointer (some ⟨b1, 0, none⟩), .pointer (some ⟨b2, 0, none⟩)]) w fun e w' => e = .returned (.bool (decide (x < rbas s i))) ∧ w' = w.drew := by
  have e1 := hA.rtc hi
  rw [hr] at e1
  have e2 := hA.bas hc
  have l1 : (i : Int) < 64 := by omega
  have l2 : (c : Int) < 320 := by omega
  have e3 : rbas s i = (s.hd c).bas := by unfold rbas; rw [hr]; rfl
  rw [e3]
  go_enter Tryz.func236, Tryz.ntmps236
  go_wp2_with fail
  go_region
  go_wp2_with fail
  go_ret
  exact ⟨rfl, rfl⟩
theorem grow_below (w : World) (q : Nat) (os : Array Obj) : Below w.heap.size w (grow (w.drewN q) os) := below_grown_sl _ w q os (Nat.le_refl _)
/-- The roots stand in the order of their bases. -/
structure Rts (s : Av) (n : Nat) : Prop where
  n64 : n ≤ 64
  nrt : s.nrt = (n : Int)
  lt : ∀ i, i < n → ∃ c : Nat, c < 320 ∧ s.rts i = (c : Int)
  sorted : ∀ i j, i < j → j < n → rbas s i < rbas s j
/-- How many roots begin at or below x. -/
def upTo (s : Av) (n : Nat) (x : Int) : Nat := (List.range n).countP (fun i => !decide (x < rbas s i))
theorem rootAbove_walk (hA : Am w A s) {n : Nat} (hr : Rts s n) (x : Int) :
    Calls Tryz.prog 126 #[.pointer (some ⟨A, 0, none⟩), .int .u64 x] w fun e w' => e = .returned (.int .i64 (upTo s n x : Int)) ∧ Below w.heap.size w w' := by
  have H0 := hideIt ((hA.below (alloc_below (.cells #[.pointer (some ⟨A, 0, none⟩)] 24))).below (alloc_below (.cells #[.int .u64 x] 34)))
  have HB := hideIt (two_below (w := w) (.cells #[.pointer (some ⟨A, 0, none⟩)] 24) (.cells #[.int .u64 x] 34))
  have e1 := H0.out.nrc
  rw [hr.nrt] at e1
  have c1 : ((w.alloc (.cells #[.pointer (some ⟨A, 0, none⟩)] 24)).alloc (.cells #[.int .u64 x] 34)).cell? ⟨w.heap.size, 0, none⟩ = some (.pointer (some ⟨A, 0, none⟩)) := cell_alloc_sl _ (cell_new_sl w _ _)
  have c2 : ((w.alloc (.cells #[.pointer (some ⟨A, 0, none⟩)] 24)).alloc (.cells #[.int .u64 x] 34)).cell? ⟨w.heap.size + 1, 0, none⟩ = some (.int .u64 x) := by
    have := cell_new_sl (w.alloc (.cells #[.pointer (some ⟨A, 0, none⟩)] 24)) (.int .u64 x) 34
    rwa [Deep.nblk_alloc] at this
  have HR : Hid (Rts s n) := hr
  clear hr
  go_enter Tryz.func126, Tryz.ntmps126
  go_wp2_with fail
  go_at_call 235
  generalize (w.alloc (.cells #[.pointer (some ⟨A, 0, none⟩)] 24)).alloc (.cells #[.int .u64 x] 34) = w0 at *
  have eg : ∀ args W, (callFunc 236 args).run Tryz.prog W = .ok (.enter 236 args) W := enters_of Tryz.func236 (by kernel_rfl) rfl
  have hS := Any.sort_Search Tryz.lSearch 236 #[.pointer (some ⟨w.heap.size, 0, none⟩), .pointer (some ⟨w.heap.size + 1, 0, none⟩)] n (fun i => decide (x < rbas s i)) w0 eg (by have := HR.out.n64; omega) (fun m os i hi => by
    obtain ⟨c, hc, hrc⟩ := HR.out.lt i hi
    have hb := grow_below w0 m os
    refine (above_clo (H0.out.below hb) x ((hb.cell (p := ⟨w.heap.size, 0, none⟩) (cell_lt c1)).trans c1) ((hb.cell (p := ⟨w.heap.size + 1, 0, none⟩) (cell_lt c2)).trans c2) (by have := HR.out.n64; omega) hc hrc).mono ?_
    rintro e w' ⟨rfl, rfl⟩
    exact ⟨rfl, 1, #[], by rw [grow_empty]; rfl⟩) (fun a b hab hb ha => by
    rcases Nat.lt_or_ge a b with h | h
    · have := HR.out.sorted a b h hb
      simp only [decide_eq_true_eq] at ha ⊢
      omega
    · have : a = b := by omega
      subst this; exact ha)
  refine hS.mono ?_
  rintro e w' ⟨rfl, q, os, rfl⟩
  have HB2 := hideIt (HB.out.trans ((grow_below w0 q os).mono HB.out.size))
  clear hS
  generalize grow (w0.drewN q) os = w2 at *
  go_wp2_with fail
  go_ret
  exact ⟨rfl, HB2.out⟩
theorem upTo_le (s : Av) (n : Nat) (x : Int) : upTo s n x ≤ n := by
  unfold upTo
  exact Nat.le_trans List.countP_le_length (by simp)
/-- The roots below p begin at or below x, those from p on above it. -/
theorem upTo_eq {n p : Nat} {x : Int} (hp : p ≤ n) (h1 : ∀ i, i < p → rbas s i ≤ x) (h2 : ∀ i, p ≤ i → i < n → x < rbas s i) : upTo s n x = p := by
  unfold upTo
  have hr : ∀ t, t < n → (List.range n)[t]! = t := fun t ht => by rw [getElem!_pos _ t (by simpa using ht)]; simp
  refine Lib.countP_boundary _ (List.range n) p (by simpa using hp) (fun t ht => ?_) (fun t h3 h4 => ?_)
  · rw [hr t (by omega)]
    have := h1 t ht
    simp; omega
  · have h5 : t < n := by simpa using h4
    rw [hr t h5]
    have := h2 t h3 h5
    simp; omega
theorem upTo_self {n p : Nat} (hr : Rts s n) (hp : p < n) : upTo s n (rbas s p) = p + 1 :=
  upTo_eq (by omega) (fun i hi => by
    rcases Nat.lt_or_ge i p with h | h
    · exact Int.le_of_lt (hr.sorted i p h hp)
    · have : i = p := by omega
      subst this; exact Int.le_refl _) (fun i h1 h2 => hr.sorted p i (by omega) h2)
theorem upTo_split {n : Nat} (hr : Rts s n) (x : Int) : ∀ m, m ≤ n → ∃ p, p ≤ m ∧ (∀ i, i < p → rbas s i ≤ x) ∧ (∀ i, p ≤ i → i < m → x < rbas s i)
  | 0, _ => ⟨0, Nat.le_refl _, fun i hi => absurd hi (Nat.not_lt_zero _), fun i _ hi => absurd hi (Nat.not_lt_zero _)⟩
  | m + 1, hm => by
    obtain ⟨p, h1, h2, h3⟩ := upTo_split hr x m (by omega)
    rcases Decidable.em (x < rbas s m) with h | h
    · exact ⟨p, by omega, h2, fun i a b => by
        rcases Decidable.em (i = m) with e | e
        · subst e; exact h
        · exact h3 i a (by omega)⟩
    · have : p = m := by
        rcases Decidable.em (p = m) with e | e
        · exact e
        · exfalso
          have a1 := h3 p (Nat.le_refl _) (by omega)
          have a2 := hr.sorted p m (by omega) (by omega)
          omega
      subst this
      exact ⟨p + 1, Nat.le_refl _, fun i hi => by
        rcases Decidable.em (i = p) with e | e
        · subst e; omega
        · exact h2 i (by omega), fun i a b => by omega⟩
theorem upTo_spec {n : Nat} (hr : Rts s n) (x : Int) : (∀ i, i < upTo s n x → rbas s i ≤ x) ∧ (∀ i, upTo s n x ≤ i → i < n → x < rbas s i) := by
  obtain ⟨p, h1, h2, h3⟩ := upTo_split hr x n (Nat.le_refl _)
  rw [upTo_eq h1 h2 h3]
  exact ⟨h2, h3⟩

set_option maxHeartbeats 4000000 in
theorem removeRoot_walk (h : Ms w A rb sb s tl ws) {n p : Nat} (hc : c < 320) (hr : Rts s n) (hp : p < n) (hpc : s.rts p = (c : Int)) :
    Calls Tryz.prog 246 #[.pointer (some ⟨A, 0, none⟩), .int .u16 (c : Int)] w (MsPost (remS s p c n) A rb sb tl ws w) := by
  have hn := hr.nrt
  have n64 := hr.n64
  have ex : (s.hd c).bas = rbas s p := by unfold rbas; rw [hpc]; rfl
  have HR : Hid (Calls Tryz.prog 126 #[.pointer (some ⟨A, 0, none⟩), .int .u64 (s.hd c).bas] w fun e w' => e = .returned (.int .i64 ((p : Int) + 1)) ∧ Below w.heap.size w w') := by
    have := rootAbove_walk h.am hr (rbas s p)
    rw [upTo_self hr hp] at this
    rw [ex]
    exact this
  have e6 := h.am.bas hc
  have hc' : (c : Int) < 320 := by omega
  have i0 : wrap64 ((p : Int) + 1 - 1) = (p : Int) := by unfold wrap64; omega
  have HM := hideIt h
  clear h hr ex
  go_enter Tryz.func246, Tryz.ntmps246
  go_wp2_with fail
  go_at_call 126
  refine HR.out.mono ?_
  rintro e w1 ⟨rfl, hb⟩
  have H0 := hideIt (HM.out.below hb)
  have HE0 := hideIt (Ext.of_below hb (Tz A rb sb))
  clear e6 hb HM HR
  go_wp2_with fail
  obtain ⟨m, rfl⟩ : ∃ m, n = m + 1 := ⟨n - 1, by omega⟩
  have e1 := H0.out.am.nrc
  rw [hn] at e1
  rw [show ((m + 1 : Nat) : Int) = (m : Int) + 1 by omega] at e1
  have f1 := H0.out.am.free 2885
  have i1 : IntKind.i64.wrap ((p : Int) + 1) = (p : Int) + 1 := by unfold IntKind.wrap; simp [IntKind.bits, IntKind.signed]; omega
  have i2 : IntKind.i64.wrap ((m : Int) + 1 - 1) = (m : Int) := by unfold IntKind.wrap; simp [IntKind.bits, IntKind.signed]; omega
  have i3 : wrap64 ((p : Int) + 1) = (p : Int) + 1 := by unfold wrap64; omega
  have i4 : wrap64 ((m : Int) + 1 - 1) = (m : Int) := by unfold wrap64; omega
  have i5 : IntKind.i64.wrap (m : Int) = (m : Int) := by unfold IntKind.wrap; simp [IntKind.bits, IntKind.signed]; omega
  have l0 : (0 : Int) ≤ p := by omega
  have l1 : (p : Int) ≤ m := by omega
  have l2 : (m : Int) ≤ 64 := by omega
  have l3 : (0 : Int) ≤ (p : Int) + 1 := by omega
  have l4 : (m : Int) + 1 ≤ 64 := by omega
  have l5 : ¬ 64 = p := by omega
  have hcp : (Builtin.copy_ #[93, 93] 3 #[.slice (some ⟨A, 2821 + p, none⟩) (m - p) (64 - p), .slice (some (if p = 63 then ⟨A, 2821, none⟩ else ⟨A, 2821 + (p + 1), none⟩)) (m - p) (63 - p)]).run Tryz.prog w1.drew = .ok (goInt (m - p : Nat)) (w1.drew.setCells A (2821 + p) (rtsV (fun j => s.rts (p + 1 + j)) (m - p))) := by
    have hsrc : ∀ j v, (rtsV (fun j => s.rts (p + 1 + j)) (m - p))[j]? = some v → w1.drew.cell? ((if p = 63 then (⟨A, 2821, none⟩ : Addr) else ⟨A, 2821 + (p + 1), none⟩).add j) = some v := fun j v hv => by
      obtain ⟨hl, rfl⟩ := List.getElem?_eq_some_iff.1 hv
      rw [rtsV_get]
      have hl' := hl
      rw [rtsV_len] at hl'
      have h63 : ¬ p = 63 := by omega
      have ea : (⟨A, 2821 + (p + 1), none⟩ : Addr).add j = ⟨A, 2821 + (p + 1 + j), none⟩ := by unfold Addr.add; split <;> simp_all <;> omega
      rw [if_neg h63, ea, World.cell?_drew, H0.out.am.cell _ (by omega), mem_rts _ (by omega)]
    have := run_copy_cells (P := Tryz.prog) w1.drew 93 93 3 29 A (2821 + p) (m - p) (64 - p) (if p = 63 then ⟨A, 2821, none⟩ else ⟨A, 2821 + (p + 1), none⟩) (m - p) (63 - p) (rtsV (fun j => s.rts (p + 1 + j)) (m - p)) Tryz.underlying93 (by rfl) (by rw [rtsV_len]; simp) hsrc (fun j hj => by rw [rtsV_len] at hj; rw [World.cell?_drew, H0.out.am.cell _ (by omega)]; rfl) (fun j hj => H0.out.am.free _) (rtsV_one _ _)
    rw [this, rtsV_len]
  go_region
  have H1 := hideIt ((H0.out.below (below_d _)).rangeR (o := p) (k := m - p) (fun j => s.rts (p + 1 + j)) (by omega))
  have HE1 := hideIt (HE0.out.drew.setR (Or.inl rfl) (rtsV (fun j => s.rts (p + 1 + j)) (m - p)) (2821 + p))
  clear hcp e1 f1
  generalize w1.drew.setCells A (2821 + p) (rtsV (fun j => s.rts (p + 1 + j)) (m - p)) = w2 at *
  generalize (if p = 63 then (⟨A, 2821, none⟩ : Addr) else ⟨A, 2821 + (p + 1), none⟩) = ad
  have e3 := H1.out.am.nrc
  have f3 := H1.out.am.free 2885
  have e4 := H1.out.am.siz hc
  have e5 := H1.out.am.c3c
  have f5 := H1.out.am.free 2909
  rw [show ({ s with rts := fun i => if p ≤ i ∧ i < p + (m - p) then s.rts (p + 1 + (i - p)) else s.rts i } : Av).nrt = (m : Int) + 1 from hn] at e3
  have H3 := hideIt (H1.out.setS (H1.out.am.setNrt (m : Int)) rfl rfl)
  have H4 := hideIt ((H3.out.setS (H3.out.am.setC3 (IntKind.u64.wrap (s.c3 - (s.hd c).siz))) rfl rfl).below (below_d _))
  have HE4 := hideIt ((HE1.out.setA 2885 (.int .i64 (m : Int))).setA 2909 (.int .u64 (IntKind.u64.wrap (s.c3 - (s.hd c).siz)))).drew
  have HO : Hid (∀ x, x = remS s p c (m + 1) → Ms _ A rb sb x tl ws) := fun x e => by
    have := H4.out
    rw [e]
    have eq : remS s p c (m + 1) = { s with rts := fun j => if p ≤ j ∧ j < p + (m - p) then s.rts (p + 1 + (j - p)) else s.rts j, nrt := (m : Int), c3 := IntKind.u64.wrap (s.c3 - (s.hd c).siz) } := by
      unfold remS
      congr 1
      · funext i
        by_cases c1 : p ≤ i ∧ i < m + 1 - 1
        · have c2 : p ≤ i ∧ i < p + (m - p) := by omega
          have c3 : p + 1 + (i - p) = i + 1 := by omega
          simp only [c1, c2, c3, and_self, if_true]
        · have c2 : ¬ (p ≤ i ∧ i < p + (m - p)) := by omega
          simp only [c1, c2, if_false]
      · omega
    rw [eq]
    exact this
  go_wp2_with fail
  go_region
  go_wp2_with fail
  exact bodyPost_ret (v := .tuple #[]) (by simp [results, Tryz.results246]) rfl ⟨rfl, HO.out _ rfl, HE4.out⟩
end
end Go.Proofs.Qxb6500847aGreatDoor.Os
