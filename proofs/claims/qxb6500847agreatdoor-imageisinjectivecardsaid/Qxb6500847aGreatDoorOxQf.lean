/-
  Lookup and Region, exactly.
-/
import Derived.Test.Qxb6500847aGreatDoorOxQa
import Derived.Test.Qxb6500847aGreatDoorOsQf
import Derived.Test.Qxb6500847aGreatDoorOxU
namespace Go.Proofs.Qxb6500847aGreatDoor.Os
open Go.RowKit FloorA
set_option maxRecDepth 100000
section
variable {A : Nat} {rb sb : Nat → Nat} {s : Av} {tl : Nat → List Int} {ws : Nat → Nat → Nat → Int} {w : World} {L : Nat → List Nat} {n : Nat}
/-- The owner's reference. -/
def parR (M : Nat → En) (i : Nat) : Nat × Int := if (M i).par = 65535 then (0, 0) else ((M i).par.toNat, (M (M i).par.toNat).gen)
def lkX (M : Nat → En) (i : Nat) (g : Int) : Rs := if chk M i g ≠ 0 then bad (chk M i g) else ⟨0, [parR M i], [(M i).typ, (M i).bas, (M i).siz]⟩
noncomputable def regX (M : Nat → En) (i : Nat) (g : Int) : Rs := if chkR M i g ≠ 0 then bad (chkR M i g) else ⟨0, [parR M i], [(M i).bas, (M i).siz, topM M i, (M i).bas + (M i).siz - topM M i, ((kdsM M i).length : Int)]⟩
def LkXP (X : Rs) (w : World) (e : Ending) (w' : World) : Prop :=
  (∃ v c, X = bad c ∧ e = .returned (.tuple #[.agg (inf7 0 0 0 0 0 0 0).toArray, v]) ∧ Refu w v w' c) ∨ ((∃ (x y t b z : Int) (p : Nat) (q : Int), X = ⟨0, [(p, q)], [t, b, z]⟩ ∧ 0 ≤ t ∧ t ≤ 7 ∧ e = .returned (.tuple #[.agg (inf7 x y t b z (p : Int) q).toArray, .nilIface])) ∧ Below w.heap.size w w')
def ReXP (X : Rs) (w : World) (e : Ending) (w' : World) : Prop :=
  (∃ v c, X = bad c ∧ e = .returned (.tuple #[.agg (reg10 0 0 0 0 0 0 0 0 0 0).toArray, v]) ∧ Refu w v w' c) ∨ ((∃ (x y t b z : Int) (p : Nat) (q a f d : Int), X = ⟨0, [(p, q)], [b, z, a, f, d]⟩ ∧ 0 ≤ d ∧ d ≤ 320 ∧ e = .returned (.tuple #[.agg (reg10 x y t b z (p : Int) q a f d).toArray, .nilIface])) ∧ Below w.heap.size w w')
theorem parR_eq (hI : IV s tl L n) {i : Nat} (hi : i < 320) (ht : (s.hd i).typ ≠ 0) : (pI (s.hd i).par, pG s (s.hd i).par) = (((parR (ob s ws) i).1 : Int), (parR (ob s ws) i).2) := by
  unfold parR pI pG
  rw [ob_at _ _ hi]
  show _ = (((if (s.hd i).par = 65535 then (0, 0) else ((s.hd i).par.toNat, (ob s ws (s.hd i).par.toNat).gen) : Nat × Int).1 : Int), (if (s.hd i).par = 65535 then (0, 0) else ((s.hd i).par.toNat, (ob s ws (s.hd i).par.toNat).gen) : Nat × Int).2)
  rcases hI.par' hi ht with e | ⟨p, hp, e⟩
  · rw [if_pos e, if_pos e, if_pos e]
    rfl
  · have hne : ¬ (s.hd i).par = 65535 := by omega
    have e2 : (s.hd i).par.toNat = p := by omega
    rw [if_neg hne, if_neg hne, if_neg hne, e2, ob_at _ _ hp, e]
theorem Lookup_x (h : Ms w A rb sb s tl ws) (hI : IV s tl L n) (i : Nat) (g : Int) :
    Calls Tryz.prog 25 #[.pointer (some ⟨A, 0, none⟩), .agg #[.int .u16 (i : Int), .int .u32 g]] w (LkXP (lkX (ob s ws) i g) w) := by
  refine (Lookup_walk h hI i g).mono ?_
  rintro e w' (⟨hn, v, rfl, hr⟩ | ⟨hl, rfl, hb⟩)
  · refine Or.inl ⟨v, stale i g, ?_, rfl, hr⟩
    unfold lkX
    rw [if_pos (stale_nz hn), chk_stale hn]
  · obtain ⟨k, ek, k7, _⟩ := hI.ge.typ i hl.1
    have hp := parR_eq (ws := ws) hI hl.1 hl.2.2.1
    refine Or.inr ⟨⟨(i : Int), (s.hd i).gen, (s.hd i).typ, (s.hd i).bas, (s.hd i).siz, (parR (ob s ws) i).1, (parR (ob s ws) i).2, ?_, by omega, by omega, ?_⟩, hb⟩
    · unfold lkX
      rw [chk_live hl, if_neg (by decide), ob_at _ _ hl.1]
    · unfold infS
      rw [(Prod.mk.inj hp).1, (Prod.mk.inj hp).2]
theorem Region_x (h : Ms w A rb sb s tl ws) (hI : IV s tl L n) (hX : IX s tl L n) (i : Nat) (g : Int) :
    Calls Tryz.prog 14 #[.pointer (some ⟨A, 0, none⟩), .agg #[.int .u16 (i : Int), .int .u32 g]] w (ReXP (regX (ob s ws) i g) w) := by
  refine (Region_walk h hI i g).mono ?_
  rintro e w' (⟨hn, v, rfl, hr⟩ | ⟨hl, h1, rfl, hb⟩)
  · refine Or.inl ⟨v, _, ?_, rfl, hr⟩
    unfold regX
    rw [chkR_bad hn, if_pos ?_]
    by_cases q : Live s i g
    · rw [if_pos q]; decide
    · rw [if_neg q, ← chk_stale (ws := ws) q]; exact stale_nz q
  · have hp := parR_eq (ws := ws) hI hl.1 hl.2.2.1
    obtain ⟨k, ek, k7, kr⟩ := hI.ge.typ i hl.1
    have hreg : IsReg s i := ⟨(kr (by omega)).1 (by omega), hl.1, h1⟩
    have htop := top_reg (ws := ws) hX hI hreg
    have hk := hI.tr.kds i hreg
    have hK := kds_eq (kds_reg (ws := ws) hX hI hreg)
    obtain ⟨c1, c2⟩ := hX.gm.chn i hreg
    have c3 := Chn.le (hX.pos hI hreg) c1
    obtain ⟨l0, l1, l2⟩ := hX.gm.lim i hl.1 hl.2.2.1
    have hlen := hI.tr.len hreg
    refine Or.inr ⟨⟨(i : Int), (s.hd i).gen, (s.hd i).typ, (s.hd i).bas, (s.hd i).siz, (parR (ob s ws) i).1, (parR (ob s ws) i).2, (s.rg (i - 256)).top, (s.hd i).bas + (s.hd i).siz - (s.rg (i - 256)).top, ((L i).length : Int), ?_, by omega, by omega, ?_⟩, hb⟩
    · unfold regX
      rw [chkR_reg hl h1, if_neg (by decide), htop, hK, ob_at _ _ hl.1]
    · unfold regS
      rw [(Prod.mk.inj hp).1, (Prod.mk.inj hp).2, hk, u64_same (a := (s.hd i).bas + (s.hd i).siz) (by omega) (by omega), u64_same (by omega) (by omega)]
end
end Go.Proofs.Qxb6500847aGreatDoor.Os
