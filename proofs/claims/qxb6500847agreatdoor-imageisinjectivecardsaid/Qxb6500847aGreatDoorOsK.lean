/-
  attach.
-/
import Derived.Test.Qxb6500847aGreatDoorOsJ
namespace Go.Proofs.Qxb6500847aGreatDoor.Os
open Go.RowKit FloorA
set_option maxRecDepth 100000
section
variable {A : Nat} {rb sb : Nat → Nat} {s s' : Av} {tl : Nat → List Int} {ws : Nat → Nat → Nat → Int} {w w' : World} {p c q : Nat}

/-- What attach leaves. -/
def attS (s : Av) (p c : Nat) : Av :=
  let r := s.rg (p - 256)
  let h := s.hd c
  let s1 := s.setHd c ⟨h.gen, h.typ, h.row, p, r.lst, 65535, h.bas, h.siz⟩
  if r.lst = 65535 then s1.setRg (p - 256) ⟨c, c, wrap64 (r.kds + 1), IntKind.u64.wrap (h.bas + h.siz)⟩
  else (s1.setHd r.lst.toNat ⟨(s.hd r.lst.toNat).gen, (s.hd r.lst.toNat).typ, (s.hd r.lst.toNat).row, (s.hd r.lst.toNat).par, (s.hd r.lst.toNat).prv, c, (s.hd r.lst.toNat).bas, (s.hd r.lst.toNat).siz⟩).setRg (p - 256) ⟨r.fst, c, wrap64 (r.kds + 1), IntKind.u64.wrap (h.bas + h.siz)⟩
def MsPost (s' : Av) (A : Nat) (rb sb : Nat → Nat) (tl : Nat → List Int) (ws : Nat → Nat → Nat → Int) (w : World) (e : Ending) (w' : World) : Prop :=
  e = .returned (.tuple #[]) ∧ Ms w' A rb sb s' tl ws ∧ Ext w.heap.size (Tz A rb sb) w w'
theorem Ext.setA {B : Nat} {a : World} (h : Ext B (Tz A rb sb) a w) (o : Nat) (v : Value) : Ext B (Tz A rb sb) a (w.setCell ⟨A, o, none⟩ v) := h.setCell (p := ⟨A, o, none⟩) (Or.inr (Or.inl rfl)) v

set_option maxHeartbeats 4000000 in
theorem attach_first (h : Ms w A rb sb s tl ws) (p1 : 256 ≤ p) (p2 : p < 320) (hc : c < 320) (hl : (s.rg (p - 256)).lst = 65535) :
    Calls Tryz.prog 135 #[.pointer (some ⟨A, 0, none⟩), .int .u16 (p : Int), .int .u16 (c : Int)] w (MsPost (attS s p c) A rb sb tl ws w) := by
  have e3 := h.am.par hc
  have e4 := h.am.prv hc
  have e5 := h.am.nxt hc
  have hf := h.am.free
  have f3 := hf (c * 8 + 3)
  have f4 := hf (c * 8 + 4)
  have f5 := hf (c * 8 + 5)
  have g0 := hf (2565 + (p - 256) * 4)
  have g1 := hf (2565 + (p - 256) * 4 + 1)
  have g2 := hf (2565 + (p - 256) * 4 + 2)
  have g3 := hf (2565 + (p - 256) * 4 + 3)
  have r0 := h.am.rgc (i := p - 256) (f := 0) (by omega) (by omega)
  have r1 := h.am.rgc (i := p - 256) (f := 1) (by omega) (by omega)
  have r2 := h.am.rgc (i := p - 256) (f := 2) (by omega) (by omega)
  have r3 := h.am.rgc (i := p - 256) (f := 3) (by omega) (by omega)
  simp only [rgC, Nat.add_zero] at r0 r1 r2 r3
  rw [hl] at r1
  have hc' : (c : Int) < 320 := by omega
  have lp : p - 256 < 64 := by omega
  have HM := hideIt h
  have Hl : Hid ((s.rg (p - 256)).lst = 65535) := hl
  clear h hf hl
  go_enter Tryz.func135, Tryz.ntmps135
  go_wp2_with (go_at_call 45; refine (body_walk A p1 p2 _).mono ?_; rintro e w' ⟨rfl, hw'⟩; obtain rfl := hw'.symm)
  have H6 := hideIt ((((((((HM.out.open c).hpar hc (p : Int)).hprv hc 65535).hnxt hc 65535).openR (p - 256)).rfst lp (c : Int)).rlst lp (c : Int)).rkds lp (wrap64 ((s.rg (p - 256)).kds + 1)))
  have HE6 := hideIt (((((((Ext.refl w.heap.size (Tz A rb sb) w).setA (c * 8 + 3) (.int .u16 (p : Int))).setA (c * 8 + 4) (.int .u16 65535)).setA (c * 8 + 5) (.int .u16 65535)).setA (2565 + (p - 256) * 4) (.int .u16 (c : Int))).setA (2565 + (p - 256) * 4 + 1) (.int .u16 (c : Int))).setA (2565 + (p - 256) * 4 + 2) (.int .i64 (wrap64 ((s.rg (p - 256)).kds + 1))))
  clear e3 e4 e5 f3 f4 f5 g0 g1 g2 g3 r0 r1 r2 r3
  generalize ((((((w.setCell ⟨A, c * 8 + 3, none⟩ (.int .u16 (p : Int))).setCell ⟨A, c * 8 + 4, none⟩ (.int .u16 65535)).setCell ⟨A, c * 8 + 5, none⟩ (.int .u16 65535)).setCell ⟨A, 2565 + (p - 256) * 4, none⟩ (.int .u16 (c : Int))).setCell ⟨A, 2565 + (p - 256) * 4 + 1, none⟩ (.int .u16 (c : Int))).setCell ⟨A, 2565 + (p - 256) * 4 + 2, none⟩ (.int .i64 (wrap64 ((s.rg (p - 256)).kds + 1)))) = w1 at *
  have HEn : Hid (Calls Tryz.prog 47 #[.pointer (some ⟨A, c * 8, none⟩)] w1 fun e w' => e = .returned (.int .u64 (IntKind.u64.wrap ((s.hd c).bas + (s.hd c).siz))) ∧ w' = w1.drew) := by
    have := end_walk H6.out.am hc
    simp only [Av.setRg, Av.setHd, eq_self, if_true] at this
    exact this
  go_at_call 47
  refine HEn.out.mono ?_
  rintro e w' ⟨rfl, hw'⟩
  obtain rfl := hw'.symm
  have H7 := hideIt (H6.out.below (below_d _))
  have HE7 := hideIt HE6.out.drew
  clear hw'
  generalize w1.drew = w2 at *
  have r3 := H7.out.am.rgc (i := p - 256) (f := 3) (by omega) (by omega)
  simp only [rgC] at r3
  have g3 := H7.out.am.free (2565 + (p - 256) * 4 + 3)
  have H8 := hideIt (H7.out.rtop lp (IntKind.u64.wrap ((s.hd c).bas + (s.hd c).siz)))
  have HE8 := hideIt (HE7.out.setA (2565 + (p - 256) * 4 + 3) (.int .u64 (IntKind.u64.wrap ((s.hd c).bas + (s.hd c).siz))))
  have HO : Hid (∀ x, x = attS s p c → Ms (w2.setCell ⟨A, 2565 + (p - 256) * 4 + 3, none⟩ (.int .u64 (IntKind.u64.wrap ((s.hd c).bas + (s.hd c).siz)))) A rb sb x tl ws) := fun x e => by
    have := H8.out
    rw [e]
    unfold attS
    simp only [Hl.out, if_true]
    exact this
  go_wp2_with fail
  exact bodyPost_ret (v := .tuple #[]) (by simp [results, Tryz.results135]) rfl ⟨rfl, HO.out _ rfl, HE8.out⟩
set_option maxHeartbeats 4000000 in
theorem attach_next (h : Ms w A rb sb s tl ws) (p1 : 256 ≤ p) (p2 : p < 320) (hc : c < 320) (hq : q < 320) (hqc : q ≠ c) (hl : (s.rg (p - 256)).lst = (q : Int)) :
    Calls Tryz.prog 135 #[.pointer (some ⟨A, 0, none⟩), .int .u16 (p : Int), .int .u16 (c : Int)] w (MsPost (attS s p c) A rb sb tl ws w) := by
  have e3 := h.am.par hc
  have e4 := h.am.prv hc
  have e5 := h.am.nxt hc
  have hf := h.am.free
  have f3 := hf (c * 8 + 3)
  have f4 := hf (c * 8 + 4)
  have f5 := hf (c * 8 + 5)
  have g0 := hf (2565 + (p - 256) * 4)
  have g1 := hf (2565 + (p - 256) * 4 + 1)
  have g2 := hf (2565 + (p - 256) * 4 + 2)
  have g3 := hf (2565 + (p - 256) * 4 + 3)
  have r0 := h.am.rgc (i := p - 256) (f := 0) (by omega) (by omega)
  have r1 := h.am.rgc (i := p - 256) (f := 1) (by omega) (by omega)
  have r2 := h.am.rgc (i := p - 256) (f := 2) (by omega) (by omega)
  have r3 := h.am.rgc (i := p - 256) (f := 3) (by omega) (by omega)
  simp only [rgC, Nat.add_zero] at r0 r1 r2 r3
  rw [hl] at r1
  have hc' : (c : Int) < 320 := by omega
  have lp : p - 256 < 64 := by omega
  have HM := hideIt h
  have Hl : Hid ((s.rg (p - 256)).lst = (q : Int)) := hl
  have qb : (q : Int) < 320 := by omega
  have qn : ((q : Int) == 65535) = false := by rw [beq_eq_false_iff_ne]; omega
  have e9 := h.am.nxt hq
  have f9 := h.am.free (q * 8 + 5)
  clear h hf hl
  go_enter Tryz.func135, Tryz.ntmps135
  go_wp2_with (go_at_call 45; refine (body_walk A p1 p2 _).mono ?_; rintro e w' ⟨rfl, hw'⟩; obtain rfl := hw'.symm)
  go_region
  go_wp2_with fail
  have H3 := hideIt ((((HM.out.open c).hpar hc (p : Int)).hprv hc (q : Int)).hnxt hc 65535)
  have hq3 := (H3.out.open q)
  have eq3 : ((s.setHd c ⟨(s.hd c).gen, (s.hd c).typ, (s.hd c).row, (p : Int), (q : Int), 65535, (s.hd c).bas, (s.hd c).siz⟩).hd q) = s.hd q := by simp [Av.setHd, hqc]
  rw [eq3] at hq3
  have H6 := hideIt (((((hq3.hnxt hq (c : Int)).openR (p - 256)).rlst lp (c : Int)).rkds lp (wrap64 ((s.rg (p - 256)).kds + 1))).below (below_d _))
  have HE6 := hideIt ((((((((Ext.refl w.heap.size (Tz A rb sb) w).setA (c * 8 + 3) (.int .u16 (p : Int))).setA (c * 8 + 4) (.int .u16 (q : Int))).setA (c * 8 + 5) (.int .u16 65535)).setA (q * 8 + 5) (.int .u16 (c : Int))).setA (2565 + (p - 256) * 4 + 1) (.int .u16 (c : Int))).setA (2565 + (p - 256) * 4 + 2) (.int .i64 (wrap64 ((s.rg (p - 256)).kds + 1)))).drew)
  clear e3 e4 e5 f3 f4 f5 g0 g1 g2 g3 r0 r1 r2 r3 e9 f9 hq3 eq3
  generalize ((((((w.setCell ⟨A, c * 8 + 3, none⟩ (.int .u16 (p : Int))).setCell ⟨A, c * 8 + 4, none⟩ (.int .u16 (q : Int))).setCell ⟨A, c * 8 + 5, none⟩ (.int .u16 65535)).setCell ⟨A, q * 8 + 5, none⟩ (.int .u16 (c : Int))).setCell ⟨A, 2565 + (p - 256) * 4 + 1, none⟩ (.int .u16 (c : Int))).setCell ⟨A, 2565 + (p - 256) * 4 + 2, none⟩ (.int .i64 (wrap64 ((s.rg (p - 256)).kds + 1)))).drew = w1 at *
  have HEn : Hid (Calls Tryz.prog 47 #[.pointer (some ⟨A, c * 8, none⟩)] w1 fun e w' => e = .returned (.int .u64 (IntKind.u64.wrap ((s.hd c).bas + (s.hd c).siz))) ∧ w' = w1.drew) := by
    have := end_walk H6.out.am hc
    have n1 : ¬ c = q := fun e => hqc e.symm
    simp only [Av.setRg, Av.setHd, n1, if_false, eq_self, if_true] at this
    exact this
  go_at_call 47
  refine HEn.out.mono ?_
  rintro e w' ⟨rfl, hw'⟩
  obtain rfl := hw'.symm
  have H7 := hideIt (H6.out.below (below_d _))
  have HE7 := hideIt HE6.out.drew
  clear hw'
  generalize w1.drew = w2 at *
  have r3 := H7.out.am.rgc (i := p - 256) (f := 3) (by omega) (by omega)
  simp only [rgC] at r3
  have g3 := H7.out.am.free (2565 + (p - 256) * 4 + 3)
  have H8 := hideIt (H7.out.rtop lp (IntKind.u64.wrap ((s.hd c).bas + (s.hd c).siz)))
  have HE8 := hideIt (HE7.out.setA (2565 + (p - 256) * 4 + 3) (.int .u64 (IntKind.u64.wrap ((s.hd c).bas + (s.hd c).siz))))
  have HO : Hid (∀ x, x = attS s p c → Ms (w2.setCell ⟨A, 2565 + (p - 256) * 4 + 3, none⟩ (.int .u64 (IntKind.u64.wrap ((s.hd c).bas + (s.hd c).siz)))) A rb sb x tl ws) := fun x e => by
    have := H8.out
    rw [e]
    unfold attS
    have n1 : ¬ ((q : Int) = 65535) := by omega
    simp only [Hl.out, n1, if_false, Int.toNat_natCast]
    exact this
  go_wp2_with fail
  exact bodyPost_ret (v := .tuple #[]) (by simp [results, Tryz.results135]) rfl ⟨rfl, HO.out _ rfl, HE8.out⟩
end
end Go.Proofs.Qxb6500847aGreatDoor.Os
