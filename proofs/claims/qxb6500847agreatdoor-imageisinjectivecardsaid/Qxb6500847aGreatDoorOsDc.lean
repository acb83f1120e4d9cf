/-
  setFreeGen.
-/
import Derived.Test.Qxb6500847aGreatDoorOsV
namespace Go.Proofs.Qxb6500847aGreatDoor.Os
open Go.RowKit FloorA
set_option maxRecDepth 100000
def genS (s : Av) (i : Nat) (g : Int) : Av := s.setHd i ⟨g, (s.hd i).typ, (s.hd i).row, (s.hd i).par, (s.hd i).prv, (s.hd i).nxt, (s.hd i).bas, (s.hd i).siz⟩
def sfS (s : Av) (i : Nat) (g : Int) : Av := if g = 4294967295 then (if 256 ≤ i then { (genS s i g).off i with c1 := wrap64 (s.c1 + 1) } else { (genS s i g).off i with c0 := wrap64 (s.c0 + 1) }) else genS s i g
section
variable {A : Nat} {rb sb : Nat → Nat} {s : Av} {tl : Nat → List Int} {ws : Nat → Nat → Nat → Int} {w : World} {L : Nat → List Nat} {n i : Nat} {g : Int}
theorem Ms.setGen (h : Ms w A rb sb s tl ws) (hi : i < 320) (g : Int) : Ms (w.setCell ⟨A, i * 8, none⟩ (.int .u32 g)) A rb sb (genS s i g) tl ws := by
  refine h.setS (h.am.setHd (f := 0) hi (by omega) rfl (fun f hf h0 => ?_)) rfl rfl
  match f, hf, h0 with
  | 0, _, h => exact absurd rfl h
  | 1, _, _ => rfl
  | 2, _, _ => rfl
  | 3, _, _ => rfl
  | 4, _, _ => rfl
  | 5, _, _ => rfl
  | 6, _, _ => rfl
  | 7, _, _ => rfl
  | f + 8, h, _ => exact absurd h (by omega)
theorem gen_hd (s : Av) (i : Nat) (g : Int) (x : Nat) : (genS s i g).hd x = if x = i then ⟨g, (s.hd i).typ, (s.hd i).row, (s.hd i).par, (s.hd i).prv, (s.hd i).nxt, (s.hd i).bas, (s.hd i).siz⟩ else s.hd x := rfl
theorem sf_hd (s : Av) (i : Nat) (g : Int) (x : Nat) : (sfS s i g).hd x = if x = i then ⟨g, (s.hd i).typ, (s.hd i).row, (s.hd i).par, (s.hd i).prv, (s.hd i).nxt, (s.hd i).bas, (s.hd i).siz⟩ else s.hd x := by
  unfold sfS
  split
  · split <;> rfl
  · rfl
theorem sf_wd (h : Wd s) (i : Nat) (g : Int) : Wd (sfS s i g) := by
  have h1 : Wd (genS s i g) := h
  unfold sfS
  split
  · split
    · exact h1.off i
    · exact h1.off i
  · exact h1
theorem sf_idl (s : Av) (i : Nat) (g : Int) (x : Nat) : Idl (sfS s i g) x ↔ Idl s x ∧ (g = 4294967295 → x ≠ i) := by
  have h1 : Idl (genS s i g) x ↔ Idl s x := Iff.rfl
  unfold sfS
  by_cases e : g = 4294967295
  · rw [if_pos e]
    have h2 := Idl.off (s := genS s i g) (i := i) (j := x)
    split
    · exact (show Idl ((genS s i g).off i) x ↔ _ from by rw [h2, h1]; exact ⟨fun q => ⟨q.1, fun _ => q.2⟩, fun q => ⟨q.1, q.2 e⟩⟩)
    · exact (show Idl ((genS s i g).off i) x ↔ _ from by rw [h2, h1]; exact ⟨fun q => ⟨q.1, fun _ => q.2⟩, fun q => ⟨q.1, q.2 e⟩⟩)
  · rw [if_neg e, h1]
    exact ⟨fun q => ⟨q, fun k => absurd k e⟩, fun q => q.1⟩
theorem sf_same (s : Av) (i : Nat) (g : Int) : (sfS s i g).rg = s.rg ∧ (sfS s i g).rts = s.rts ∧ (sfS s i g).nrt = s.nrt ∧ (sfS s i g).ti = s.ti ∧ (sfS s i g).tr = s.tr := by
  unfold sfS
  split
  · split <;> exact ⟨rfl, rfl, rfl, rfl, rfl⟩
  · exact ⟨rfl, rfl, rfl, rfl, rfl⟩
set_option maxHeartbeats 1600000 in
theorem setFreeGen_walk (h : Ms w A rb sb s tl ws) (hw : Wd s) (hi : i < 320) (g : Nat) :
    Calls Tryz.prog 105 #[.pointer (some ⟨A, 0, none⟩), .int .u16 (i : Int), .int .u32 (g : Int)] w (MsPost (sfS s i g) A rb sb tl ws w) := by
  have i' : (i : Int) < 320 := by omega
  have ek := h.am.gen hi
  have fk := h.am.free (i * 8)
  have HM1 := hideIt (h.setGen hi (g : Int))
  have HE1 := hideIt ((Ext.refl w.heap.size (Tz A rb sb) w).setA (i * 8) (.int .u32 (g : Int)))
  have HC := hideIt (fun w1 (k : Am w1 A (genS s i g)) => clear_walk k (show Wd (genS s i g) from hw) hi)
  clear h hw
  by_cases hg : g = 4294967295
  · have kn : ((g : Int) != 4294967295) = false := by rw [hg]; rfl
    have hgi : (g : Int) = 4294967295 := by omega
    have HGI := hideIt hgi
    clear hg hgi
    go_enter Tryz.func105, Tryz.ntmps105
    go_wp2_with fail
    clear ek fk
    generalize w.setCell ⟨A, i * 8, none⟩ (.int .u32 (g : Int)) = w1 at *
    go_at_call 226
    refine (HC.out w1 HM1.out.am).mono ?_
    rintro e w2 ⟨rfl, hA2, hE2⟩
    have HM2 := hideIt (HM1.out.turnA hE2 hA2 rfl rfl)
    have HE2 := hideIt (HE1.out.trans hE2 HE1.out.size (fun _ _ q => Or.inl q))
    clear hA2 hE2
    by_cases h256 : 256 ≤ i
    · have dr : decide (256 ≤ i ∧ i < 320) = true := by simp; omega
      have c0 : w2.cell? ⟨A, 2907, none⟩ = some (.int .i64 s.c1) := (HM2.out.am.cell 2907 (by omega)).trans (by rw [(mem_c _).2.1]; rfl)
      have f0 := HM2.out.am.free 2907
      have H3 := hideIt (HM2.out.setS (HM2.out.am.setC1 (wrap64 (s.c1 + 1))) rfl rfl)
      have HE3 := hideIt (HE2.out.setA 2907 (.int .i64 (wrap64 (s.c1 + 1))))
      have HF : Hid (MsPost (sfS s i g) A rb sb tl ws w (.returned (.tuple #[])) (w2.setCell ⟨A, 2907, none⟩ (.int .i64 (wrap64 (s.c1 + 1))))) := ⟨rfl, by unfold sfS; rw [if_pos HGI.out, if_pos h256]; exact H3.out, HE3.out⟩
      go_wp2_with (go_at_call 227; refine (isRegion_walk i _).mono ?_; rintro e w' ⟨rfl, hw'⟩; obtain rfl := hw'.symm; rw [dr])
      exact bodyPost_ret (by simp [results, Tryz.results105]) rfl HF.out
    · have dr : decide (256 ≤ i ∧ i < 320) = false := by simp; omega
      have c0 : w2.cell? ⟨A, 2906, none⟩ = some (.int .i64 s.c0) := (HM2.out.am.cell 2906 (by omega)).trans (by rw [(mem_c _).1]; rfl)
      have f0 := HM2.out.am.free 2906
      have H3 := hideIt (HM2.out.setS (HM2.out.am.setC0 (wrap64 (s.c0 + 1))) rfl rfl)
      have HE3 := hideIt (HE2.out.setA 2906 (.int .i64 (wrap64 (s.c0 + 1))))
      have HF : Hid (MsPost (sfS s i g) A rb sb tl ws w (.returned (.tuple #[])) (w2.setCell ⟨A, 2906, none⟩ (.int .i64 (wrap64 (s.c0 + 1))))) := ⟨rfl, by unfold sfS; rw [if_pos HGI.out, if_neg h256]; exact H3.out, HE3.out⟩
      go_wp2_with (go_at_call 227; refine (isRegion_walk i _).mono ?_; rintro e w' ⟨rfl, hw'⟩; obtain rfl := hw'.symm; rw [dr])
      exact bodyPost_ret (by simp [results, Tryz.results105]) rfl HF.out
  · have kn : ((g : Int) != 4294967295) = true := by rw [bne_iff_ne]; omega
    have HF : Hid (MsPost (sfS s i g) A rb sb tl ws w (.returned (.tuple #[])) (w.setCell ⟨A, i * 8, none⟩ (.int .u32 (g : Int)))) := ⟨rfl, by unfold sfS; rw [if_neg (by omega)]; exact HM1.out, HE1.out⟩
    clear hg
    go_enter Tryz.func105, Tryz.ntmps105
    go_wp2_with fail
    exact bodyPost_ret (by simp [results, Tryz.results105]) rfl HF.out
end
end Go.Proofs.Qxb6500847aGreatDoor.Os
