/-
  detach.
-/
import Derived.Test.Qxb6500847aGreatDoorOsL
namespace Go.Proofs.Qxb6500847aGreatDoor.Os
open Go.RowKit FloorA
set_option maxRecDepth 100000
section
variable {A : Nat} {rb sb : Nat → Nat} {s s' : Av} {tl : Nat → List Int} {ws : Nat → Nat → Nat → Int} {w w' : World} {p c a b : Nat}
def Hd.setN (h : Hd) (x : Int) : Hd := ⟨h.gen, h.typ, h.row, h.par, h.prv, x, h.bas, h.siz⟩
def Hd.setP (h : Hd) (x : Int) : Hd := ⟨h.gen, h.typ, h.row, h.par, x, h.nxt, h.bas, h.siz⟩

set_option maxHeartbeats 4000000 in
theorem det_nn (h : Ms w A rb sb s tl ws) (p1 : 256 ≤ p) (p2 : p < 320) (hc : c < 320) (hp : (s.hd c).par = (p : Int)) (hv : (s.hd c).prv = 65535) (hx : (s.hd c).nxt = 65535) :
    Calls Tryz.prog 247 #[.pointer (some ⟨A, 0, none⟩), .int .u16 (c : Int)] w (MsPost (s.setRg (p - 256) ⟨65535, 65535, (wrap64 ((s.rg (p - 256)).kds - 1)), (s.hd p).bas⟩) A rb sb tl ws w) := by
  have e3 := h.am.par hc
  have e4 := h.am.prv hc
  have e5 := h.am.nxt hc
  rw [hp] at e3
  rw [hv] at e4
  rw [hx] at e5
  have hf := h.am.free
  have g0 := hf (2565 + (p - 256) * 4)
  have g1 := hf (2565 + (p - 256) * 4 + 1)
  have g2 := hf (2565 + (p - 256) * 4 + 2)
  have g3 := hf (2565 + (p - 256) * 4 + 3)
  have r0 := h.am.rgc (i := p - 256) (f := 0) (by omega) (by omega)
  have r1 := h.am.rgc (i := p - 256) (f := 1) (by omega) (by omega)
  have r2 := h.am.rgc (i := p - 256) (f := 2) (by omega) (by omega)
  have r3 := h.am.rgc (i := p - 256) (f := 3) (by omega) (by omega)
  simp only [rgC, Nat.add_zero] at r0 r1 r2 r3
  have hc' : (c : Int) < 320 := by omega
  have hp' : (p : Int) < 320 := by omega
  have lp : p - 256 < 64 := by omega
  have k6 := h.am.bas p2
  have HM := hideIt h
  clear h hf hp hv hx
  go_enter Tryz.func247, Tryz.ntmps247
  go_wp2_with (go_at_call 45; refine (body_walk A p1 p2 _).mono ?_; rintro e w' ⟨rfl, hw'⟩; obtain rfl := hw'.symm)
  go_region
  go_wp2_with fail
  have H6 := hideIt ((((((HM.out.openR (p - 256)).rfst lp 65535).rlst lp 65535).rtop lp (s.hd p).bas).rkds lp (wrap64 ((s.rg (p - 256)).kds - 1))).below (below_d _))
  have HE6 := hideIt ((((((Ext.refl w.heap.size (Tz A rb sb) w).setA (2565 + (p - 256) * 4) (.int .u16 65535)).setA (2565 + (p - 256) * 4 + 1) (.int .u16 65535)).setA (2565 + (p - 256) * 4 + 3) (.int .u64 (s.hd p).bas)).setA (2565 + (p - 256) * 4 + 2) (.int .i64 (wrap64 ((s.rg (p - 256)).kds - 1)))).drew)
  exact bodyPost_ret (v := .tuple #[]) (by simp [results, Tryz.results247]) rfl ⟨rfl, H6.out, HE6.out⟩

set_option maxHeartbeats 4000000 in
theorem det_nb (h : Ms w A rb sb s tl ws) (p1 : 256 ≤ p) (p2 : p < 320) (hc : c < 320) (hp : (s.hd c).par = (p : Int)) (hv : (s.hd c).prv = 65535) (hx : (s.hd c).nxt = (b : Int)) (hb : b < 320) :
    Calls Tryz.prog 247 #[.pointer (some ⟨A, 0, none⟩), .int .u16 (c : Int)] w (MsPost ((s.setHd b ((s.hd b).setP 65535)).setRg (p - 256) ⟨(b : Int), (s.rg (p - 256)).lst, (wrap64 ((s.rg (p - 256)).kds - 1)), (s.rg (p - 256)).top⟩) A rb sb tl ws w) := by
  have e3 := h.am.par hc
  have e4 := h.am.prv hc
  have e5 := h.am.nxt hc
  rw [hp] at e3
  rw [hv] at e4
  rw [hx] at e5
  have hf := h.am.free
  have g0 := hf (2565 + (p - 256) * 4)
  have g1 := hf (2565 + (p - 256) * 4 + 1)
  have g2 := hf (2565 + (p - 256) * 4 + 2)
  have g3 := hf (2565 + (p - 256) * 4 + 3)
  have r0 := h.am.rgc (i := p - 256) (f := 0) (by omega) (by omega)
  have r1 := h.am.rgc (i := p - 256) (f := 1) (by omega) (by omega)
  have r2 := h.am.rgc (i := p - 256) (f := 2) (by omega) (by omega)
  have r3 := h.am.rgc (i := p - 256) (f := 3) (by omega) (by omega)
  simp only [rgC, Nat.add_zero] at r0 r1 r2 r3
  have hc' : (c : Int) < 320 := by omega
  have hp' : (p : Int) < 320 := by omega
  have lp : p - 256 < 64 := by omega
  have bb' : (b : Int) < 320 := by omega
  have bn : ((b : Int) != 65535) = true := by rw [bne_iff_ne]; omega
  have k4 := h.am.prv hb
  have l4 := hf (b * 8 + 4)
  have HM := hideIt h
  clear h hf hp hv hx
  go_enter Tryz.func247, Tryz.ntmps247
  go_wp2_with (go_at_call 45; refine (body_walk A p1 p2 _).mono ?_; rintro e w' ⟨rfl, hw'⟩; obtain rfl := hw'.symm)
  go_region
  go_wp2_with fail
  have H5 : Hid (Ms _ A rb sb ((s.setHd b ((s.hd b).setP 65535)).setRg (p - 256) ⟨(b : Int), (s.rg (p - 256)).lst, (s.rg (p - 256)).kds, (s.rg (p - 256)).top⟩) tl ws) := ((((HM.out.openR (p - 256)).rfst lp (b : Int)).open b).hprv hb 65535)
  have HE6 := hideIt (((((Ext.refl w.heap.size (Tz A rb sb) w).setA (2565 + (p - 256) * 4) (.int .u16 (b : Int))).setA (b * 8 + 4) (.int .u16 65535)).setA (2565 + (p - 256) * 4 + 2) (.int .i64 (wrap64 ((s.rg (p - 256)).kds - 1)))).drew)
  have H6 := hideIt ((H5.out.rkds lp (wrap64 ((s.rg (p - 256)).kds - 1))).below (below_d _))
  exact bodyPost_ret (v := .tuple #[]) (by simp [results, Tryz.results247]) rfl ⟨rfl, H6.out, HE6.out⟩

set_option maxHeartbeats 4000000 in
theorem det_an (h : Ms w A rb sb s tl ws) (p1 : 256 ≤ p) (p2 : p < 320) (hc : c < 320) (hp : (s.hd c).par = (p : Int)) (hv : (s.hd c).prv = (a : Int)) (hx : (s.hd c).nxt = 65535) (ha : a < 320) (hac : a ≠ c) :
    Calls Tryz.prog 247 #[.pointer (some ⟨A, 0, none⟩), .int .u16 (c : Int)] w (MsPost ((s.setHd a ((s.hd a).setN 65535)).setRg (p - 256) ⟨(s.rg (p - 256)).fst, (a : Int), (wrap64 ((s.rg (p - 256)).kds - 1)), (IntKind.u64.wrap ((s.hd a).bas + (s.hd a).siz))⟩) A rb sb tl ws w) := by
  have e3 := h.am.par hc
  have e4 := h.am.prv hc
  have e5 := h.am.nxt hc
  rw [hp] at e3
  rw [hv] at e4
  rw [hx] at e5
  have hf := h.am.free
  have g0 := hf (2565 + (p - 256) * 4)
  have g1 := hf (2565 + (p - 256) * 4 + 1)
  have g2 := hf (2565 + (p - 256) * 4 + 2)
  have g3 := hf (2565 + (p - 256) * 4 + 3)
  have r0 := h.am.rgc (i := p - 256) (f := 0) (by omega) (by omega)
  have r1 := h.am.rgc (i := p - 256) (f := 1) (by omega) (by omega)
  have r2 := h.am.rgc (i := p - 256) (f := 2) (by omega) (by omega)
  have r3 := h.am.rgc (i := p - 256) (f := 3) (by omega) (by omega)
  simp only [rgC, Nat.add_zero] at r0 r1 r2 r3
  have hc' : (c : Int) < 320 := by omega
  have hp' : (p : Int) < 320 := by omega
  have lp : p - 256 < 64 := by omega
  have ab' : (a : Int) < 320 := by omega
  have an : ((a : Int) == 65535) = false := by rw [beq_eq_false_iff_ne]; omega
  have k5 := h.am.nxt ha
  have l5 := hf (a * 8 + 5)
  have HM := hideIt h
  clear h hf hp hv hx
  go_enter Tryz.func247, Tryz.ntmps247
  go_wp2_with (go_at_call 45; refine (body_walk A p1 p2 _).mono ?_; rintro e w' ⟨rfl, hw'⟩; obtain rfl := hw'.symm)
  go_region
  go_wp2_with fail
  have H5 : Hid (Ms _ A rb sb ((s.setHd a ((s.hd a).setN 65535)).setRg (p - 256) ⟨(s.rg (p - 256)).fst, (a : Int), (s.rg (p - 256)).kds, (s.rg (p - 256)).top⟩) tl ws) := (((((HM.out.open a).hnxt ha 65535).openR (p - 256)).rlst lp (a : Int)).below (below_d _))
  have HE5 := hideIt (((((Ext.refl w.heap.size (Tz A rb sb) w).setA (a * 8 + 5) (.int .u16 65535)).setA (2565 + (p - 256) * 4 + 1) (.int .u16 (a : Int)))).drew)
  clear e3 e4 e5 g0 g1 g2 g3 r0 r1 r2 r3 k5 l5
  generalize ((w.setCell ⟨A, a * 8 + 5, none⟩ (.int .u16 65535)).setCell ⟨A, 2565 + (p - 256) * 4 + 1, none⟩ (.int .u16 (a : Int))).drew = w1 at *
  have hf := H5.out.am.free
  have g2 := hf (2565 + (p - 256) * 4 + 2)
  have g3 := hf (2565 + (p - 256) * 4 + 3)
  have r1 := H5.out.am.rgc (i := p - 256) (f := 1) (by omega) (by omega)
  have r2 := H5.out.am.rgc (i := p - 256) (f := 2) (by omega) (by omega)
  have r3 := H5.out.am.rgc (i := p - 256) (f := 3) (by omega) (by omega)
  simp only [rgC, Av.setRg, if_true, eq_self] at r1 r2 r3
  clear hf
  have HEn : Hid (Calls Tryz.prog 47 #[.pointer (some ⟨A, a * 8, none⟩)] w1.drew fun e w' => e = .returned (.int .u64 (IntKind.u64.wrap ((s.hd a).bas + (s.hd a).siz))) ∧ w' = w1.drew.drew) := by
    have := end_walk (H5.out.below (below_d _)).am ha
    simp only [Av.setRg, Av.setHd, Hd.setN, eq_self, if_true] at this
    exact this
  have H6 := hideIt ((((H5.out.below (below_d _)).below (below_d _)).rtop lp (IntKind.u64.wrap ((s.hd a).bas + (s.hd a).siz))).rkds lp (wrap64 ((s.rg (p - 256)).kds - 1)))
  have HE6 := hideIt ((HE5.out.drew.drew.setA (2565 + (p - 256) * 4 + 3) (.int .u64 (IntKind.u64.wrap ((s.hd a).bas + (s.hd a).siz)))).setA (2565 + (p - 256) * 4 + 2) (.int .i64 (wrap64 ((s.rg (p - 256)).kds - 1))))
  go_region_with (go_at_call 47; refine HEn.out.mono ?_; rintro e w' ⟨rfl, hw'⟩; obtain rfl := hw'.symm; clear hw')
  all_goals go_wp2_with fail
  all_goals exact bodyPost_ret (v := .tuple #[]) (by simp [results, Tryz.results247]) rfl ⟨rfl, H6.out, HE6.out⟩

set_option maxHeartbeats 4000000 in
theorem det_ab (h : Ms w A rb sb s tl ws) (p1 : 256 ≤ p) (p2 : p < 320) (hc : c < 320) (hp : (s.hd c).par = (p : Int)) (hv : (s.hd c).prv = (a : Int)) (hx : (s.hd c).nxt = (b : Int)) (ha : a < 320) (hac : a ≠ c) (hb : b < 320) (hbc : b ≠ c) (hab : a ≠ b) :
    Calls Tryz.prog 247 #[.pointer (some ⟨A, 0, none⟩), .int .u16 (c : Int)] w (MsPost (((s.setHd a ((s.hd a).setN (b : Int))).setHd b ((s.hd b).setP (a : Int))).setRg (p - 256) ⟨(s.rg (p - 256)).fst, (s.rg (p - 256)).lst, (wrap64 ((s.rg (p - 256)).kds - 1)), (s.rg (p - 256)).top⟩) A rb sb tl ws w) := by
  have e3 := h.am.par hc
  have e4 := h.am.prv hc
  have e5 := h.am.nxt hc
  rw [hp] at e3
  rw [hv] at e4
  rw [hx] at e5
  have hf := h.am.free
  have g0 := hf (2565 + (p - 256) * 4)
  have g1 := hf (2565 + (p - 256) * 4 + 1)
  have g2 := hf (2565 + (p - 256) * 4 + 2)
  have g3 := hf (2565 + (p - 256) * 4 + 3)
  have r0 := h.am.rgc (i := p - 256) (f := 0) (by omega) (by omega)
  have r1 := h.am.rgc (i := p - 256) (f := 1) (by omega) (by omega)
  have r2 := h.am.rgc (i := p - 256) (f := 2) (by omega) (by omega)
  have r3 := h.am.rgc (i := p - 256) (f := 3) (by omega) (by omega)
  simp only [rgC, Nat.add_zero] at r0 r1 r2 r3
  have hc' : (c : Int) < 320 := by omega
  have hp' : (p : Int) < 320 := by omega
  have lp : p - 256 < 64 := by omega
  have ab' : (a : Int) < 320 := by omega
  have an : ((a : Int) == 65535) = false := by rw [beq_eq_false_iff_ne]; omega
  have k5 := h.am.nxt ha
  have l5 := hf (a * 8 + 5)
  have bb' : (b : Int) < 320 := by omega
  have bn : ((b : Int) != 65535) = true := by rw [bne_iff_ne]; omega
  have k4 := h.am.prv hb
  have l4 := hf (b * 8 + 4)
  have HM := hideIt h
  clear h hf hp hv hx
  go_enter Tryz.func247, Tryz.ntmps247
  go_wp2_with (go_at_call 45; refine (body_walk A p1 p2 _).mono ?_; rintro e w' ⟨rfl, hw'⟩; obtain rfl := hw'.symm)
  go_region
  go_wp2_with fail
  go_region
  go_wp2_with fail
  have hn : ∀ x : Hd, (s.setHd a x).hd b = s.hd b := fun x => by
    have : ¬ b = a := fun e => hab e.symm
    simp [Av.setHd, this]
  have H4 := (((HM.out.open a).hnxt ha (b : Int)).open b)
  rw [hn] at H4
  have H5 := (H4.hprv hb (a : Int)).openR (p - 256)
  have H6 := hideIt (((H5.rkds lp (wrap64 ((s.rg (p - 256)).kds - 1))).below (below_d _)).below (below_d _))
  have HE6 := hideIt (((((Ext.refl w.heap.size (Tz A rb sb) w).setA (a * 8 + 5) (.int .u16 (b : Int))).setA (b * 8 + 4) (.int .u16 (a : Int))).setA (2565 + (p - 256) * 4 + 2) (.int .i64 (wrap64 ((s.rg (p - 256)).kds - 1)))).drew.drew)
  exact bodyPost_ret (v := .tuple #[]) (by simp [results, Tryz.results247]) rfl ⟨rfl, H6.out, HE6.out⟩
end
end Go.Proofs.Qxb6500847aGreatDoor.Os
