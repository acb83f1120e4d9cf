/-
  insertRoot, removeRoot.
-/
import Derived.Test.Qxb6500847aGreatDoorOsM
import Derived.Laws.IdiomCopy
import Derived.BigRegion
namespace Go.Proofs.Qxb6500847aGreatDoor.Os
open Go.RowKit FloorA
set_option maxRecDepth 100000
section
variable {A : Nat} {rb sb : Nat → Nat} {s s' : Av} {tl : Nat → List Int} {ws : Nat → Nat → Nat → Int} {w w' : World} {c : Nat}

theorem mem_rts_out (s : Av) (g : Nat → Int) {o : Nat} (h : o < 2821 ∨ 2885 ≤ o) : memOf { s with rts := g } o = memOf s o := by
  unfold memOf
  by_cases b1 : o < 2560
  · simp [b1]
  · by_cases b2 : o < 2565
    · simp [b1, b2]
    · by_cases b3 : o < 2821
      · simp [b1, b2, b3]
      · have b4 : ¬ o < 2885 := by omega
        simp [b1, b2, b3, b4]
def rtsV (f : Nat → Int) (k : Nat) : List Value := (List.range k).map (fun j => .int .u16 (f j))
theorem rtsV_len (f : Nat → Int) (k : Nat) : (rtsV f k).length = k := by simp [rtsV]
theorem rtsV_get {f : Nat → Int} {k j : Nat} (h : j < (rtsV f k).length) : (rtsV f k)[j] = .int .u16 (f j) := by simp [rtsV]
theorem rtsV_one (f : Nat → Int) (k : Nat) : ∀ v ∈ rtsV f k, v.oneCell' = true := by
  intro v hv
  obtain ⟨j, _, rfl⟩ := List.mem_map.1 hv
  rfl
theorem Am.rangeR (h : Am w A s) {o k : Nat} (f : Nat → Int) (ho : o + k ≤ 64) : Am (w.setCells A (2821 + o) (rtsV f k)) A { s with rts := fun i => if o ≤ i ∧ i < o + k then f (i - o) else s.rts i } := by
  refine ⟨fun q hq => ?_, fun q => by rw [World.frozen?_setCells]; exact h.free q⟩
  by_cases hin : 2821 + o ≤ q ∧ q < 2821 + o + k
  · have := World.cell?_setCells_in A (rtsV f k) (2821 + o) w (fun j hj => by rw [h.cell _ (by rw [rtsV_len] at hj; omega)]; rfl) (q - (2821 + o)) (by rw [rtsV_len]; omega)
    rw [show 2821 + o + (q - (2821 + o)) = q by omega, rtsV_get] at this
    rw [this]
    have e : q = 2821 + (q - 2821) := by omega
    rw [e, mem_rts _ (by omega)]
    have c1 : o ≤ q - 2821 ∧ q - 2821 < o + k := by omega
    simp only [c1, and_self, if_true, Option.some.injEq, Value.int.injEq, true_and]
    congr 1
    omega
  · rw [World.cell?_setCells_out A _ _ _ _ (fun _ _ => by rw [rtsV_len]; show q < 2821 + o ∨ 2821 + o + k ≤ q; omega), h.cell q hq]
    by_cases hl : q < 2821 ∨ 2885 ≤ q
    · exact congrArg some (mem_rts_out s _ hl).symm
    · have e : q = 2821 + (q - 2821) := by omega
      rw [e, mem_rts _ (by omega), mem_rts _ (by omega)]
      have c1 : ¬ (o ≤ q - 2821 ∧ q - 2821 < o + k) := by omega
      simp only [c1, if_false]
theorem Ext.setR {B : Nat} {X : Nat → Prop} {a : World} (h : Ext B X a w) (hX : X A) : ∀ (vs : List Value) (o : Nat), Ext B X a (w.setCells A o vs) := by
  intro vs
  induction vs generalizing w with
  | nil => intro o; exact h
  | cons v r ih => intro o; exact ih (h.setCell (p := ⟨A, o, none⟩) (Or.inr hX) v) (o + 1)
theorem Ms.rangeR (h : Ms w A rb sb s tl ws) {o k : Nat} (f : Nat → Int) (ho : o + k ≤ 64) : Ms (w.setCells A (2821 + o) (rtsV f k)) A rb sb { s with rts := fun i => if o ≤ i ∧ i < o + k then f (i - o) else s.rts i } tl ws :=
  h.turnA (Ext.setR (X := fun b => b = A) (Ext.refl _ _ _) rfl _ _) (h.am.rangeR f ho) rfl rfl
theorem Am.rtc (hA : Am w A s) {i : Nat} (hi : i < 64) : w.cell? ⟨A, 2821 + i, none⟩ = some (.int .u16 (s.rts i)) := (hA.cell (2821 + i) (by omega)).trans (by rw [mem_rts _ hi])
theorem Am.nrc (hA : Am w A s) : w.cell? ⟨A, 2885, none⟩ = some (.int .i64 s.nrt) := (hA.cell 2885 (by omega)).trans (by rw [mem_nrt])
theorem Am.c3c (hA : Am w A s) : w.cell? ⟨A, 2909, none⟩ = some (.int .u64 s.c3) := (hA.cell 2909 (by omega)).trans (by rw [(mem_c _).2.2.2])
/-- What insertRoot leaves. -/
def insS (s : Av) (p c n : Nat) : Av := { s with rts := fun i => if i = p then (c : Int) else if p < i ∧ i ≤ n then s.rts (i - 1) else s.rts i, nrt := (n : Int) + 1, c3 := IntKind.u64.wrap (s.c3 + (s.hd c).siz) }
def remS (s : Av) (p c n : Nat) : Av := { s with rts := fun i => if p ≤ i ∧ i < n - 1 then s.rts (i + 1) else s.rts i, nrt := (n : Int) - 1, c3 := IntKind.u64.wrap (s.c3 - (s.hd c).siz) }

set_option maxHeartbeats 4000000 in
theorem insertRoot_walk (h : Ms w A rb sb s tl ws) {n p : Nat} (hc : c < 320) (hn : s.nrt = (n : Int)) (n1 : n < 64) (hp : p ≤ n) :
    Calls Tryz.prog 129 #[.pointer (some ⟨A, 0, none⟩), .int .i64 (p : Int), .int .u16 (c : Int)] w (MsPost (insS s p c n) A rb sb tl ws w) := by
  have e1 : w.cell? ⟨A, 2885, none⟩ = some (.int .i64 (n : Int)) := (h.am.cell 2885 (by omega)).trans (by rw [mem_nrt, hn])
  have f1 := h.am.free 2885
  have i1 : IntKind.i64.wrap ((p : Int) + 1) = (p : Int) + 1 := by unfold IntKind.wrap; simp [IntKind.bits, IntKind.signed]; omega
  have i2 : IntKind.i64.wrap ((n : Int) + 1) = (n : Int) + 1 := by unfold IntKind.wrap; simp [IntKind.bits, IntKind.signed]; omega
  have i3 : wrap64 ((p : Int) + 1) = (p : Int) + 1 := by unfold wrap64; omega
  have i4 : wrap64 ((n : Int) + 1) = (n : Int) + 1 := by unfold wrap64; omega
  have l0 : (0 : Int) ≤ p := by omega
  have l1 : (p : Int) ≤ n := by omega
  have l2 : (n : Int) ≤ 64 := by omega
  have l3 : (0 : Int) ≤ (p : Int) + 1 := by omega
  have l4 : (n : Int) + 1 ≤ 64 := by omega
  have l5 : ¬ 64 = p := by omega
  have hcp : (Builtin.copy_ #[93, 93] 3 #[.slice (some (if p = 63 then ⟨A, 2821, none⟩ else ⟨A, 2821 + (p + 1), none⟩)) (n - p) (63 - p), .slice (some ⟨A, 2821 + p, none⟩) (n - p) (64 - p)]).run Tryz.prog w.drew = .ok (goInt (n - p : Nat)) (w.drew.setCells A (2821 + (p + 1)) (rtsV (fun j => s.rts (p + j)) (n - p))) := by
    have hsrc : ∀ j v, (rtsV (fun j => s.rts (p + j)) (n - p))[j]? = some v → w.drew.cell? ((⟨A, 2821 + p, none⟩ : Addr).add j) = some v := fun j v hv => by
      obtain ⟨hl, rfl⟩ := List.getElem?_eq_some_iff.1 hv
      rw [rtsV_get]
      have hl' := hl
      rw [rtsV_len] at hl'
      have ea : (⟨A, 2821 + p, none⟩ : Addr).add j = ⟨A, 2821 + (p + j), none⟩ := by unfold Addr.add; split <;> simp_all <;> omega
      rw [ea, World.cell?_drew, h.am.cell _ (by omega), mem_rts _ (by omega)]
    by_cases h63 : p = 63
    · have e0 : n - p = 0 := by omega
      have := run_copy_cells (P := Tryz.prog) w.drew 93 93 3 29 A 2821 (n - p) (63 - p) ⟨A, 2821 + p, none⟩ (n - p) (64 - p) (rtsV (fun j => s.rts (p + j)) (n - p)) Tryz.underlying93 (by rfl) (by rw [rtsV_len]; simp) hsrc (fun j hj => by rw [rtsV_len] at hj; omega) (fun j hj => by rw [rtsV_len] at hj; omega) (rtsV_one _ _)
      rw [if_pos h63, this, rtsV_len, e0]
      rfl
    · have := run_copy_cells (P := Tryz.prog) w.drew 93 93 3 29 A (2821 + (p + 1)) (n - p) (63 - p) ⟨A, 2821 + p, none⟩ (n - p) (64 - p) (rtsV (fun j => s.rts (p + j)) (n - p)) Tryz.underlying93 (by rfl) (by rw [rtsV_len]; simp) hsrc (fun j hj => by rw [rtsV_len] at hj; rw [World.cell?_drew, h.am.cell _ (by omega)]; rfl) (fun j hj => h.am.free _) (rtsV_one _ _)
      rw [if_neg h63, this, rtsV_len]
  have HM := hideIt h
  clear h
  go_enter Tryz.func129, Tryz.ntmps129
  go_wp2_with fail
  go_region
  have H1 := hideIt ((HM.out.below (below_d _)).rangeR (o := p + 1) (k := n - p) (fun j => s.rts (p + j)) (by omega))
  have HE1 := hideIt ((Ext.refl w.heap.size (Tz A rb sb) w).drew.setR (Or.inl rfl) (rtsV (fun j => s.rts (p + j)) (n - p)) (2821 + (p + 1)))
  clear hcp e1 f1
  generalize w.drew.setCells A (2821 + (p + 1)) (rtsV (fun j => s.rts (p + j)) (n - p)) = w1 at *
  generalize (if p = 63 then (⟨A, 2821, none⟩ : Addr) else ⟨A, 2821 + (p + 1), none⟩) = ad
  have l6 : (p : Int) < 64 := by omega
  have hc' : (c : Int) < 320 := by omega
  have e2 := H1.out.am.rtc (i := p) (by omega)
  have f2 := H1.out.am.free (2821 + p)
  have e3 := H1.out.am.nrc
  have f3 := H1.out.am.free 2885
  have e4 := H1.out.am.siz hc
  have e5 := H1.out.am.c3c
  have f5 := H1.out.am.free 2909
  rw [show ({ s with rts := fun i => if p + 1 ≤ i ∧ i < p + 1 + (n - p) then s.rts (p + (i - (p + 1))) else s.rts i } : Av).nrt = (n : Int) from hn] at e3
  have H2 := hideIt (((H1.out.setS (H1.out.am.setRts (i := p) (c : Int) (by omega)) rfl rfl)))
  have H3 := hideIt (H2.out.setS (H2.out.am.setNrt ((n : Int) + 1)) rfl rfl)
  have H4 := hideIt ((H3.out.setS (H3.out.am.setC3 (IntKind.u64.wrap (s.c3 + (s.hd c).siz))) rfl rfl).below (below_d _))
  have HE4 := hideIt (((HE1.out.setA (2821 + p) (.int .u16 (c : Int))).setA 2885 (.int .i64 ((n : Int) + 1))).setA 2909 (.int .u64 (IntKind.u64.wrap (s.c3 + (s.hd c).siz)))).drew
  have HO : Hid (∀ x, x = insS s p c n → Ms _ A rb sb x tl ws) := fun x e => by
    have := H4.out
    rw [e]
    have eq : insS s p c n = { s with rts := fun j => if j = p then (c : Int) else if p + 1 ≤ j ∧ j < p + 1 + (n - p) then s.rts (p + (j - (p + 1))) else s.rts j, nrt := (n : Int) + 1, c3 := IntKind.u64.wrap (s.c3 + (s.hd c).siz) } := by
      unfold insS
      congr 1
      funext i
      by_cases c0 : i = p
      · simp [c0]
      · by_cases c1 : p < i ∧ i ≤ n
        · have c2 : p + 1 ≤ i ∧ i < p + 1 + (n - p) := by omega
          have c3 : p + (i - (p + 1)) = i - 1 := by omega
          simp only [c0, c1, c2, c3, and_self, if_true, if_false]
        · have c2 : ¬ (p + 1 ≤ i ∧ i < p + 1 + (n - p)) := by omega
          simp only [c0, c1, c2, if_false]
    rw [eq]
    exact this
  go_wp2_with fail
  go_region
  go_wp2_with fail
  exact bodyPost_ret (v := .tuple #[]) (by simp [results, Tryz.results129]) rfl ⟨rfl, HO.out _ rfl, HE4.out⟩
end
end Go.Proofs.Qxb6500847aGreatDoor.Os
