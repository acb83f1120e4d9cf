/-
  occupy.
-/
import Derived.Test.Qxb6500847aGreatDoorOsI
namespace Go.Proofs.Qxb6500847aGreatDoor.Os
open Go.RowKit FloorA
set_option maxRecDepth 100000
section
variable {A : Nat} {rb sb : Nat → Nat} {s s' : Av} {tl : Nat → List Int} {ws : Nat → Nat → Nat → Int} {w w' : World} {i : Nat}
theorem setHd_self (s : Av) (i : Nat) : s.setHd i (s.hd i) = s := by
  unfold Av.setHd
  have : (fun j => if j = i then s.hd i else s.hd j) = s.hd := by funext j; split <;> simp_all
  rw [this]
theorem setHd_twice (s : Av) (i : Nat) (h h' : Hd) : (s.setHd i h).setHd i h' = s.setHd i h' := by
  unfold Av.setHd
  congr 1
  funext j; dsimp only; split <;> rfl
theorem setHd_at (s : Av) (i : Nat) (h : Hd) : (s.setHd i h).hd i = h := by simp [Av.setHd]
theorem Ms.hdF {h0 h1 : Hd} {f : Nat} {v : Value} (h : Ms w A rb sb (s.setHd i h0) tl ws) (hi : i < 320) (hf : f < 8) (hv : hdC h1 f = v) (hs : ∀ g, g < 8 → g ≠ f → hdC h1 g = hdC h0 g) : Ms (w.setCell ⟨A, i * 8 + f, none⟩ v) A rb sb (s.setHd i h1) tl ws := by
  have := h.setS (h.am.setHd hi hf hv (fun g hg hn => by rw [setHd_at]; exact hs g hg hn)) rfl rfl
  rw [setHd_twice] at this
  exact this
theorem Ms.hgen {a b c d e f g k : Int} (h : Ms w A rb sb (s.setHd i ⟨a, b, c, d, e, f, g, k⟩) tl ws) (hi : i < 320) (x : Int) : Ms (w.setCell ⟨A, i * 8, none⟩ (.int .u32 x)) A rb sb (s.setHd i ⟨x, b, c, d, e, f, g, k⟩) tl ws :=
  h.hdF hi (f := 0) (by omega) rfl (fun g hg hn => by
    have : g = 0 ∨ g = 1 ∨ g = 2 ∨ g = 3 ∨ g = 4 ∨ g = 5 ∨ g = 6 ∨ g = 7 := by omega
    rcases this with rfl | rfl | rfl | rfl | rfl | rfl | rfl | rfl <;> first | rfl | exact absurd rfl hn)
theorem Ms.htyp {a b c d e f g k : Int} (h : Ms w A rb sb (s.setHd i ⟨a, b, c, d, e, f, g, k⟩) tl ws) (hi : i < 320) (x : Int) : Ms (w.setCell ⟨A, i * 8 + 1, none⟩ (.int .u8 x)) A rb sb (s.setHd i ⟨a, x, c, d, e, f, g, k⟩) tl ws :=
  h.hdF hi (f := 1) (by omega) rfl (fun g hg hn => by
    have : g = 0 ∨ g = 1 ∨ g = 2 ∨ g = 3 ∨ g = 4 ∨ g = 5 ∨ g = 6 ∨ g = 7 := by omega
    rcases this with rfl | rfl | rfl | rfl | rfl | rfl | rfl | rfl <;> first | rfl | exact absurd rfl hn)
theorem Ms.hrow {a b c d e f g k : Int} (h : Ms w A rb sb (s.setHd i ⟨a, b, c, d, e, f, g, k⟩) tl ws) (hi : i < 320) (x : Int) : Ms (w.setCell ⟨A, i * 8 + 2, none⟩ (.int .u16 x)) A rb sb (s.setHd i ⟨a, b, x, d, e, f, g, k⟩) tl ws :=
  h.hdF hi (f := 2) (by omega) rfl (fun g hg hn => by
    have : g = 0 ∨ g = 1 ∨ g = 2 ∨ g = 3 ∨ g = 4 ∨ g = 5 ∨ g = 6 ∨ g = 7 := by omega
    rcases this with rfl | rfl | rfl | rfl | rfl | rfl | rfl | rfl <;> first | rfl | exact absurd rfl hn)
theorem Ms.hpar {a b c d e f g k : Int} (h : Ms w A rb sb (s.setHd i ⟨a, b, c, d, e, f, g, k⟩) tl ws) (hi : i < 320) (x : Int) : Ms (w.setCell ⟨A, i * 8 + 3, none⟩ (.int .u16 x)) A rb sb (s.setHd i ⟨a, b, c, x, e, f, g, k⟩) tl ws :=
  h.hdF hi (f := 3) (by omega) rfl (fun g hg hn => by
    have : g = 0 ∨ g = 1 ∨ g = 2 ∨ g = 3 ∨ g = 4 ∨ g = 5 ∨ g = 6 ∨ g = 7 := by omega
    rcases this with rfl | rfl | rfl | rfl | rfl | rfl | rfl | rfl <;> first | rfl | exact absurd rfl hn)
theorem Ms.hprv {a b c d e f g k : Int} (h : Ms w A rb sb (s.setHd i ⟨a, b, c, d, e, f, g, k⟩) tl ws) (hi : i < 320) (x : Int) : Ms (w.setCell ⟨A, i * 8 + 4, none⟩ (.int .u16 x)) A rb sb (s.setHd i ⟨a, b, c, d, x, f, g, k⟩) tl ws :=
  h.hdF hi (f := 4) (by omega) rfl (fun g hg hn => by
    have : g = 0 ∨ g = 1 ∨ g = 2 ∨ g = 3 ∨ g = 4 ∨ g = 5 ∨ g = 6 ∨ g = 7 := by omega
    rcases this with rfl | rfl | rfl | rfl | rfl | rfl | rfl | rfl <;> first | rfl | exact absurd rfl hn)
theorem Ms.hnxt {a b c d e f g k : Int} (h : Ms w A rb sb (s.setHd i ⟨a, b, c, d, e, f, g, k⟩) tl ws) (hi : i < 320) (x : Int) : Ms (w.setCell ⟨A, i * 8 + 5, none⟩ (.int .u16 x)) A rb sb (s.setHd i ⟨a, b, c, d, e, x, g, k⟩) tl ws :=
  h.hdF hi (f := 5) (by omega) rfl (fun g hg hn => by
    have : g = 0 ∨ g = 1 ∨ g = 2 ∨ g = 3 ∨ g = 4 ∨ g = 5 ∨ g = 6 ∨ g = 7 := by omega
    rcases this with rfl | rfl | rfl | rfl | rfl | rfl | rfl | rfl <;> first | rfl | exact absurd rfl hn)
theorem Ms.hbas {a b c d e f g k : Int} (h : Ms w A rb sb (s.setHd i ⟨a, b, c, d, e, f, g, k⟩) tl ws) (hi : i < 320) (x : Int) : Ms (w.setCell ⟨A, i * 8 + 6, none⟩ (.int .u64 x)) A rb sb (s.setHd i ⟨a, b, c, d, e, f, x, k⟩) tl ws :=
  h.hdF hi (f := 6) (by omega) rfl (fun g hg hn => by
    have : g = 0 ∨ g = 1 ∨ g = 2 ∨ g = 3 ∨ g = 4 ∨ g = 5 ∨ g = 6 ∨ g = 7 := by omega
    rcases this with rfl | rfl | rfl | rfl | rfl | rfl | rfl | rfl <;> first | rfl | exact absurd rfl hn)
theorem Ms.hsiz {a b c d e f g k : Int} (h : Ms w A rb sb (s.setHd i ⟨a, b, c, d, e, f, g, k⟩) tl ws) (hi : i < 320) (x : Int) : Ms (w.setCell ⟨A, i * 8 + 7, none⟩ (.int .u64 x)) A rb sb (s.setHd i ⟨a, b, c, d, e, f, g, x⟩) tl ws :=
  h.hdF hi (f := 7) (by omega) rfl (fun g hg hn => by
    have : g = 0 ∨ g = 1 ∨ g = 2 ∨ g = 3 ∨ g = 4 ∨ g = 5 ∨ g = 6 ∨ g = 7 := by omega
    rcases this with rfl | rfl | rfl | rfl | rfl | rfl | rfl | rfl <;> first | rfl | exact absurd rfl hn)
theorem Ms.open (h : Ms w A rb sb s tl ws) (i : Nat) : Ms w A rb sb (s.setHd i ⟨(s.hd i).gen, (s.hd i).typ, (s.hd i).row, (s.hd i).par, (s.hd i).prv, (s.hd i).nxt, (s.hd i).bas, (s.hd i).siz⟩) tl ws := by
  have : (⟨(s.hd i).gen, (s.hd i).typ, (s.hd i).row, (s.hd i).par, (s.hd i).prv, (s.hd i).nxt, (s.hd i).bas, (s.hd i).siz⟩ : Hd) = s.hd i := rfl
  rw [this, setHd_self]
  exact h

theorem Ms.rlt (h : Ms w A rb sb s tl ws) {t : Nat} (ht : t < 6) : rb t < w.heap.size := by
  have nr : 0 < nR t := by unfold nR; split <;> omega
  have nc : 0 < nC t := by unfold nC; split <;> omega
  obtain ⟨v, hv⟩ : ∃ v, (rowL t (ws t 0))[0]? = some v := ⟨_, List.getElem?_eq_getElem (by rw [rowL_len]; exact nc)⟩
  exact cell_lt (h.row t ht 0 nr 0 v hv)
theorem Ms.slt (h : Ms w A rb sb s tl ws) {t : Nat} (ht : t < 6) : sb t < w.heap.size := by
  have nr : 0 < nR t := by unfold nR; split <;> omega
  obtain ⟨x, hx, _⟩ := h.idc t ht 0 nr
  exact cell_lt hx
theorem setRg_self (s : Av) (i : Nat) : s.setRg i (s.rg i) = s := by
  unfold Av.setRg
  have : (fun j => if j = i then s.rg i else s.rg j) = s.rg := by funext j; split <;> simp_all
  rw [this]
theorem setRg_twice (s : Av) (i : Nat) (h h' : Rg) : (s.setRg i h).setRg i h' = s.setRg i h' := by
  unfold Av.setRg
  congr 1
  funext j; dsimp only; split <;> rfl
theorem setRg_at (s : Av) (i : Nat) (h : Rg) : (s.setRg i h).rg i = h := by simp [Av.setRg]
theorem Ms.rgF {h0 h1 : Rg} {f : Nat} {v : Value} (h : Ms w A rb sb (s.setRg i h0) tl ws) (hi : i < 64) (hf : f < 4) (hv : rgC h1 f = v) (hs : ∀ g, g < 4 → g ≠ f → rgC h1 g = rgC h0 g) : Ms (w.setCell ⟨A, 2565 + i * 4 + f, none⟩ v) A rb sb (s.setRg i h1) tl ws := by
  have := h.setS (h.am.setRg hi hf hv (fun g hg hn => by rw [setRg_at]; exact hs g hg hn)) rfl rfl
  rw [setRg_twice] at this
  exact this
theorem Ms.rfst {a b c d : Int} (h : Ms w A rb sb (s.setRg i ⟨a, b, c, d⟩) tl ws) (hi : i < 64) (x : Int) : Ms (w.setCell ⟨A, 2565 + i * 4, none⟩ (.int .u16 x)) A rb sb (s.setRg i ⟨x, b, c, d⟩) tl ws :=
  h.rgF hi (f := 0) (by omega) rfl (fun g hg hn => by
    have : g = 0 ∨ g = 1 ∨ g = 2 ∨ g = 3 := by omega
    rcases this with rfl | rfl | rfl | rfl <;> first | rfl | exact absurd rfl hn)
theorem Ms.rlst {a b c d : Int} (h : Ms w A rb sb (s.setRg i ⟨a, b, c, d⟩) tl ws) (hi : i < 64) (x : Int) : Ms (w.setCell ⟨A, 2565 + i * 4 + 1, none⟩ (.int .u16 x)) A rb sb (s.setRg i ⟨a, x, c, d⟩) tl ws :=
  h.rgF hi (f := 1) (by omega) rfl (fun g hg hn => by
    have : g = 0 ∨ g = 1 ∨ g = 2 ∨ g = 3 := by omega
    rcases this with rfl | rfl | rfl | rfl <;> first | rfl | exact absurd rfl hn)
theorem Ms.rkds {a b c d : Int} (h : Ms w A rb sb (s.setRg i ⟨a, b, c, d⟩) tl ws) (hi : i < 64) (x : Int) : Ms (w.setCell ⟨A, 2565 + i * 4 + 2, none⟩ (.int .i64 x)) A rb sb (s.setRg i ⟨a, b, x, d⟩) tl ws :=
  h.rgF hi (f := 2) (by omega) rfl (fun g hg hn => by
    have : g = 0 ∨ g = 1 ∨ g = 2 ∨ g = 3 := by omega
    rcases this with rfl | rfl | rfl | rfl <;> first | rfl | exact absurd rfl hn)
theorem Ms.rtop {a b c d : Int} (h : Ms w A rb sb (s.setRg i ⟨a, b, c, d⟩) tl ws) (hi : i < 64) (x : Int) : Ms (w.setCell ⟨A, 2565 + i * 4 + 3, none⟩ (.int .u64 x)) A rb sb (s.setRg i ⟨a, b, c, x⟩) tl ws :=
  h.rgF hi (f := 3) (by omega) rfl (fun g hg hn => by
    have : g = 0 ∨ g = 1 ∨ g = 2 ∨ g = 3 := by omega
    rcases this with rfl | rfl | rfl | rfl <;> first | rfl | exact absurd rfl hn)
theorem Ms.openR (h : Ms w A rb sb s tl ws) (i : Nat) : Ms w A rb sb (s.setRg i ⟨(s.rg i).fst, (s.rg i).lst, (s.rg i).kds, (s.rg i).top⟩) tl ws := by
  have : (⟨(s.rg i).fst, (s.rg i).lst, (s.rg i).kds, (s.rg i).top⟩ : Rg) = s.rg i := rfl
  rw [this, setRg_self]
  exact h
/-- The arena's block turns, the tables stay. -/
theorem Ms.turnA (h : Ms w A rb sb s tl ws) (e : Ext w.heap.size (fun b => b = A) w w') (hA : Am w' A s') (e1 : s'.tr = s.tr) (e2 : s'.ti = s.ti) : Ms w' A rb sb s' tl ws := by
  have fz : ∀ {b : Nat}, b < w.heap.size → b ≠ A → ∀ o, w.frozen? ⟨b, o, none⟩ = false → w'.frozen? ⟨b, o, none⟩ = false := fun {b} l n o q => by
    unfold World.frozen? at q ⊢
    rw [show w'.heap[(⟨b, o, none⟩ : Addr).block]? = w.heap[(⟨b, o, none⟩ : Addr).block]? from e.block b l n]
    exact q
  have lr : ∀ t, t < 6 → rb t < w.heap.size := fun t ht => h.rlt ht
  have ls : ∀ t, t < 6 → sb t < w.heap.size := fun t ht => h.slt ht
  exact ⟨hA, fun t ht => by rw [e1]; exact h.tr t ht, fun t ht => by rw [e2]; exact h.ti t ht, h.tn, fun t ht r hr j v hv => (e.cell (p := ⟨rb t, r * nC t + j, none⟩) (lr t ht) (h.ar t ht).1).trans (h.row t ht r hr j v hv), fun t ht o => fz (lr t ht) (h.ar t ht).1 o (h.rfz t ht o), fun t ht j hj => by
    obtain ⟨x, hx, k⟩ := h.idc t ht j hj
    exact ⟨x, (e.cell (p := ⟨sb t, j, none⟩) (ls t ht) (h.ar t ht).2).trans hx, k⟩, fun t ht o => fz (ls t ht) (h.ar t ht).2 o (h.sfz t ht o), h.ar, h.rs, h.rr, h.ss⟩

/-- What occupy leaves: the entry is live, not yet linked. -/
def occS (s : Av) (i k : Nat) (b z row : Int) : Av :=
  let s3 := ((s.setHd i ⟨(s.hd i).gen, k, row, 65535, 65535, 65535, b, z⟩).off i).setLv k (wrap64 (s.lv k + 1))
  if k = 1 then s3.setRg (i - 256) ⟨65535, 65535, 0, b⟩ else { s3 with c2 := IntKind.u64.wrap (s.c2 + z) }
theorem Ms.lvc (h : Ms w A rb sb s tl ws) {k : Nat} (hk : k < 8) : w.cell? ⟨A, 2898 + k, none⟩ = some (.int .i64 (s.lv k)) := (h.am.cell (2898 + k) (by omega)).trans (by rw [mem_lv _ hk])

def OcPost (i k : Nat) (b z row : Int) (A : Nat) (rb sb : Nat → Nat) (s : Av) (tl : Nat → List Int) (ws : Nat → Nat → Nat → Int) (w : World) (e : Ending) (w' : World) : Prop :=
  e = .returned (.tuple #[]) ∧ Ms w' A rb sb (occS s i k b z row) tl ws ∧ Ext w.heap.size (Tz A rb sb) w w'
set_option maxHeartbeats 4000000 in
/-- occupy of a region. -/
theorem occupy_one (h : Ms w A rb sb s tl ws) (hw : Wd s) (h1 : 256 ≤ i) (h2 : i < 320) (b z : Int) :
    Calls Tryz.prog 128 #[.pointer (some ⟨A, 0, none⟩), .int .u16 (i : Int), .int .u8 1, .int .u64 b, .int .u64 z] w (OcPost i 1 b z 65535 A rb sb s tl ws w) := by
  have e0 := (h.am.typ h2)
  have e2 := (h.am.rw h2)
  have e3 := (h.am.par h2)
  have e4 := (h.am.prv h2)
  have e5 := (h.am.nxt h2)
  have e6 := (h.am.bas h2)
  have e7 := (h.am.siz h2)
  have hf := h.am.free
  have f1 := hf (i * 8 + 1)
  have f2 := hf (i * 8 + 2)
  have f3 := hf (i * 8 + 3)
  have f4 := hf (i * 8 + 4)
  have f5 := hf (i * 8 + 5)
  have f6 := hf (i * 8 + 6)
  have f7 := hf (i * 8 + 7)
  have hi' : (i : Int) < 320 := by omega
  have H6 := hideIt ((((((h.open i).htyp h2 1).hbas h2 b).hsiz h2 z).hpar h2 65535).hprv h2 65535 |>.hnxt h2 65535)
  have HM := hideIt h
  clear h hf
  go_enter Tryz.func128, Tryz.ntmps128
  go_wp2_with fail
  go_at_call 238
  refine (takeRow_none A _).mono ?_
  rintro e w' ⟨rfl, hw'⟩
  obtain rfl := hw'.symm
  have hE6 : Ext w.heap.size (Tz A rb sb) w ((((((w.setCell ⟨A, i * 8 + 1, none⟩ (.int .u8 1)).setCell ⟨A, i * 8 + 6, none⟩ (.int .u64 b)).setCell ⟨A, i * 8 + 7, none⟩ (.int .u64 z)).setCell ⟨A, i * 8 + 3, none⟩ (.int .u16 65535)).setCell ⟨A, i * 8 + 4, none⟩ (.int .u16 65535)).setCell ⟨A, i * 8 + 5, none⟩ (.int .u16 65535)) := ((((((Ext.refl _ _ _).setCell (Or.inr (Or.inl rfl)) _).setCell (Or.inr (Or.inl rfl)) _).setCell (Or.inr (Or.inl rfl)) _).setCell (Or.inr (Or.inl rfl)) _).setCell (Or.inr (Or.inl rfl)) _).setCell (Or.inr (Or.inl rfl)) _
  have HE6 := hideIt hE6
  clear e0 e2 e3 e4 e5 e6 e7 f1 f2 f3 f4 f5 f6 f7 hE6 hw'
  generalize ((((((w.setCell ⟨A, i * 8 + 1, none⟩ (.int .u8 1)).setCell ⟨A, i * 8 + 6, none⟩ (.int .u64 b)).setCell ⟨A, i * 8 + 7, none⟩ (.int .u64 z)).setCell ⟨A, i * 8 + 3, none⟩ (.int .u16 65535)).setCell ⟨A, i * 8 + 4, none⟩ (.int .u16 65535)).setCell ⟨A, i * 8 + 5, none⟩ (.int .u16 65535)) = w1 at *
  have e2 := H6.out.am.rw h2
  have f2 := H6.out.am.free (i * 8 + 2)
  have H7 := hideIt (H6.out.hrow h2 65535)
  have HE7 := hideIt (HE6.out.setCell (p := ⟨A, i * 8 + 2, none⟩) (Or.inr (Or.inl rfl)) (.int .u16 65535))
  go_wp2_with fail
  go_at_call 226
  have hw7 : Wd (s.setHd i ⟨(s.hd i).gen, 1, 65535, 65535, 65535, 65535, b, z⟩) := hw
  refine (clear_walk H7.out.am hw7 h2).mono ?_
  rintro e w3 ⟨rfl, hA3, hE3⟩
  have H8 := hideIt (H7.out.turnA hE3 hA3 rfl rfl)
  have HE8 := hideIt (HE7.out.trans hE3 HE7.out.size (fun _ _ q => Or.inl q))
  clear hA3 hE3 hw7 e2 f2
  have c1 := H8.out.lvc (k := 1) (by omega)
  have g1 := H8.out.am.free (2898 + 1)
  go_wp2_with fail
  go_region
  have H9 := hideIt ((H8.out.setS (H8.out.am.setLv (i := 1) (wrap64 (s.lv 1 + 1)) (by omega)) rfl rfl).below (below_d _))
  have HE9 := hideIt ((HE8.out.setCell (p := ⟨A, 2898 + 1, none⟩) (Or.inr (Or.inl rfl)) (.int .i64 (wrap64 (s.lv 1 + 1)))).drew)
  have eL : ((s.setHd i ⟨(s.hd i).gen, 1, 65535, 65535, 65535, 65535, b, z⟩).off i).lv 1 = s.lv 1 := rfl
  rw [eL]
  clear c1 g1 eL
  generalize (w3.setCell ⟨A, 2899, none⟩ (.int .i64 (wrap64 (s.lv 1 + 1)))).drew = w4 at *
  have r0 := H9.out.am.rgc (i := i - 256) (f := 0) (by omega) (by omega)
  have r1 := H9.out.am.rgc (i := i - 256) (f := 1) (by omega) (by omega)
  have r2 := H9.out.am.rgc (i := i - 256) (f := 2) (by omega) (by omega)
  have r3 := H9.out.am.rgc (i := i - 256) (f := 3) (by omega) (by omega)
  simp only [rgC, Nat.add_zero] at r0 r1 r2 r3
  have hf := H9.out.am.free
  have f0 := hf (2565 + (i - 256) * 4)
  have f1 := hf (2565 + (i - 256) * 4 + 1)
  have f2 := hf (2565 + (i - 256) * 4 + 2)
  have f3 := hf (2565 + (i - 256) * 4 + 3)
  clear hf
  have HEnd := hideIt (((((H9.out.openR (i - 256)).rfst (by omega) 65535).rlst (by omega) 65535).rkds (by omega) 0).rtop (by omega) b)
  have HEE := hideIt ((((HE9.out.setCell (p := ⟨A, 2565 + (i - 256) * 4, none⟩) (Or.inr (Or.inl rfl)) (.int .u16 65535)).setCell (p := ⟨A, 2565 + (i - 256) * 4 + 1, none⟩) (Or.inr (Or.inl rfl)) (.int .u16 65535)).setCell (p := ⟨A, 2565 + (i - 256) * 4 + 2, none⟩) (Or.inr (Or.inl rfl)) (.int .i64 0)).setCell (p := ⟨A, 2565 + (i - 256) * 4 + 3, none⟩) (Or.inr (Or.inl rfl)) (.int .u64 b))
  go_wp2_with (go_at_call 45; refine (body_walk A h1 h2 _).mono ?_; rintro e w' ⟨rfl, hw'⟩; obtain rfl := hw'.symm)
  exact bodyPost_ret (v := .tuple #[]) (by simp [results, Tryz.results128]) rfl ⟨rfl, HEnd.out, HEE.out⟩
def OoPost (i k : Nat) (b z : Int) (r : Nat) (l : List Int) (A : Nat) (rb sb : Nat → Nat) (s : Av) (tl : Nat → List Int) (ws : Nat → Nat → Nat → Int) (w : World) (e : Ending) (w' : World) : Prop :=
  e = .returned (.tuple #[]) ∧ Ms w' A rb sb (occS (s.setTi (k - 2) (.slice (some ⟨sb (k - 2), 0, none⟩) l.length (nR (k - 2)))) i k b z r) (updT tl (k - 2) l) (updW ws (k - 2) r (fun _ => 0)) ∧ Ext w.heap.size (Tz A rb sb) w w'
set_option maxHeartbeats 4000000 in
/-- occupy of an object. -/
theorem occupy_obj (h : Ms w A rb sb s tl ws) (hw : Wd s) (h2 : i < 320) {k : Nat} (k2 : 2 ≤ k) (k7 : k ≤ 7) {l : List Int} {r : Nat} (hl : tl (k - 2) = l ++ [(r : Int)]) (hr : r < nR (k - 2)) (b z : Int) :
    Calls Tryz.prog 128 #[.pointer (some ⟨A, 0, none⟩), .int .u16 (i : Int), .int .u8 (k : Int), .int .u64 b, .int .u64 z] w (OoPost i k b z r l A rb sb s tl ws w) := by
  have e0 := (h.am.typ h2)
  have e2 := (h.am.rw h2)
  have e3 := (h.am.par h2)
  have e4 := (h.am.prv h2)
  have e5 := (h.am.nxt h2)
  have e6 := (h.am.bas h2)
  have e7 := (h.am.siz h2)
  have hf := h.am.free
  have f1 := hf (i * 8 + 1)
  have f2 := hf (i * 8 + 2)
  have f3 := hf (i * 8 + 3)
  have f4 := hf (i * 8 + 4)
  have f5 := hf (i * 8 + 5)
  have f6 := hf (i * 8 + 6)
  have f7 := hf (i * 8 + 7)
  have hi' : (i : Int) < 320 := by omega
  have kb : (k : Int) < 8 := by omega
  have kn : ((k : Int) == 1) = false := by rw [beq_eq_false_iff_ne]; omega
  have H6 := hideIt ((((((h.open i).htyp h2 (k : Int)).hbas h2 b).hsiz h2 z).hpar h2 65535).hprv h2 65535 |>.hnxt h2 65535)
  have HM := hideIt h
  clear h hf
  go_enter Tryz.func128, Tryz.ntmps128
  go_wp2_with fail
  have hE6 : Ext w.heap.size (Tz A rb sb) w ((((((w.setCell ⟨A, i * 8 + 1, none⟩ (.int .u8 (k : Int))).setCell ⟨A, i * 8 + 6, none⟩ (.int .u64 b)).setCell ⟨A, i * 8 + 7, none⟩ (.int .u64 z)).setCell ⟨A, i * 8 + 3, none⟩ (.int .u16 65535)).setCell ⟨A, i * 8 + 4, none⟩ (.int .u16 65535)).setCell ⟨A, i * 8 + 5, none⟩ (.int .u16 65535)) := ((((((Ext.refl _ _ _).setCell (Or.inr (Or.inl rfl)) _).setCell (Or.inr (Or.inl rfl)) _).setCell (Or.inr (Or.inl rfl)) _).setCell (Or.inr (Or.inl rfl)) _).setCell (Or.inr (Or.inl rfl)) _).setCell (Or.inr (Or.inl rfl)) _
  have HE6 := hideIt hE6
  clear e0 e2 e3 e4 e5 e6 e7 f1 f2 f3 f4 f5 f6 f7 hE6
  generalize ((((((w.setCell ⟨A, i * 8 + 1, none⟩ (.int .u8 (k : Int))).setCell ⟨A, i * 8 + 6, none⟩ (.int .u64 b)).setCell ⟨A, i * 8 + 7, none⟩ (.int .u64 z)).setCell ⟨A, i * 8 + 3, none⟩ (.int .u16 65535)).setCell ⟨A, i * 8 + 4, none⟩ (.int .u16 65535)).setCell ⟨A, i * 8 + 5, none⟩ (.int .u16 65535)) = w1 at *
  go_at_call 238
  refine (takeRow_walk H6.out k2 k7 hl hr).mono ?_
  rintro e w2 ⟨rfl, hM2, hE2⟩
  have H6' : Hid (Ms w2 A rb sb ((s.setTi (k - 2) (.slice (some ⟨sb (k - 2), 0, none⟩) l.length (nR (k - 2)))).setHd i ⟨(s.hd i).gen, (k : Int), (s.hd i).row, 65535, 65535, 65535, b, z⟩) (updT tl (k - 2) l) (updW ws (k - 2) r (fun _ => 0))) := hM2
  have HE6' := hideIt (HE6.out.trans hE2 HE6.out.size (fun _ _ q => q))
  clear hM2 hE2
  have e2 := H6'.out.am.rw h2
  have f2 := H6'.out.am.free (i * 8 + 2)
  have H7 := hideIt (H6'.out.hrow h2 (r : Int))
  have HE7 := hideIt (HE6'.out.setCell (p := ⟨A, i * 8 + 2, none⟩) (Or.inr (Or.inl rfl)) (.int .u16 (r : Int)))
  go_wp2_with fail
  go_at_call 226
  have hw7 : Wd ((s.setTi (k - 2) (.slice (some ⟨sb (k - 2), 0, none⟩) l.length (nR (k - 2)))).setHd i ⟨(s.hd i).gen, (k : Int), (r : Int), 65535, 65535, 65535, b, z⟩) := hw
  refine (clear_walk H7.out.am hw7 h2).mono ?_
  rintro e w3 ⟨rfl, hA3, hE3⟩
  have H8 := hideIt (H7.out.turnA hE3 hA3 rfl rfl)
  have HE8 := hideIt (HE7.out.trans hE3 HE7.out.size (fun _ _ q => Or.inl q))
  clear hA3 hE3 hw7 e2 f2
  have c1 := H8.out.lvc (k := k) (by omega)
  have g1 := H8.out.am.free (2898 + k)
  go_wp2_with fail
  go_region
  have H9 := hideIt ((H8.out.setS (H8.out.am.setLv (i := k) (wrap64 (s.lv k + 1)) (by omega)) rfl rfl).below (below_d _))
  have HE9 := hideIt ((HE8.out.setCell (p := ⟨A, 2898 + k, none⟩) (Or.inr (Or.inl rfl)) (.int .i64 (wrap64 (s.lv k + 1)))).drew)
  have eL : (((s.setTi (k - 2) (.slice (some ⟨sb (k - 2), 0, none⟩) l.length (nR (k - 2)))).setHd i ⟨(s.hd i).gen, (k : Int), (r : Int), 65535, 65535, 65535, b, z⟩).off i).lv k = s.lv k := rfl
  rw [eL]
  clear c1 g1 eL
  generalize (w3.setCell ⟨A, 2898 + k, none⟩ (.int .i64 (wrap64 (s.lv k + 1)))).drew = w4 at *
  have r2 : w4.cell? ⟨A, 2908, none⟩ = some (.int .u64 s.c2) := (H9.out.am.cell 2908 (by omega)).trans (by rw [(mem_c _).2.2.1]; rfl)
  have f2 := H9.out.am.free 2908
  have HEnd := hideIt (H9.out.setS (H9.out.am.setC2 (IntKind.u64.wrap (s.c2 + z))) rfl rfl)
  have HEE := hideIt (HE9.out.setCell (p := ⟨A, 2908, none⟩) (Or.inr (Or.inl rfl)) (.int .u64 (IntKind.u64.wrap (s.c2 + z))))
  have HO : Hid (∀ x, x = occS (s.setTi (k - 2) (.slice (some ⟨sb (k - 2), 0, none⟩) l.length (nR (k - 2)))) i k b z r → Ms (w4.setCell ⟨A, 2908, none⟩ (.int .u64 (IntKind.u64.wrap (s.c2 + z)))) A rb sb x (updT tl (k - 2) l) (updW ws (k - 2) r (fun _ => 0))) := fun x e => by
    have n1 : ¬ k = 1 := by omega
    have := HEnd.out
    rw [e]
    unfold occS
    simp only [n1, if_false]
    exact this
  go_wp2_with fail
  exact bodyPost_ret (v := .tuple #[]) (by simp [results, Tryz.results128]) rfl ⟨rfl, HO.out _ rfl, HEE.out⟩
end
end Go.Proofs.Qxb6500847aGreatDoor.Os
