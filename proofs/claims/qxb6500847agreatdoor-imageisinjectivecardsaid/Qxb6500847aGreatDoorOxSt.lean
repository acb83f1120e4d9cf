/-
  What Stats answers.
-/
import Derived.Test.Qxb6500847aGreatDoorOxG
import Derived.Test.Qxb6500847aGreatDoorOxB
import Derived.Test.Qxb6500847aGreatDoorOsSv
namespace Go.Proofs.Qxb6500847aGreatDoor.Os
open Go.RowKit FloorA
set_option maxRecDepth 100000
/-- Stats. -/
noncomputable def nrM (M : Nat → En) : Int := sumF (fun i => one ((M i).typ ≠ 0 ∧ (M i).par = 65535)) 320
def c0M (M : Nat → En) : Int := sumF (fun i => one ((M i).typ = 0 ∧ (M i).gen = 4294967295)) 256
def c1M (M : Nat → En) : Int := sumF (fun i => one (256 ≤ i ∧ (M i).typ = 0 ∧ (M i).gen = 4294967295)) 320
def lvM (M : Nat → En) (k : Nat) : Int := if k = 0 then 0 else sumF (fun i => one ((M i).typ = (k : Int))) 320
def c2M (M : Nat → En) : Int := IntKind.u64.wrap (sumF (fun i => (M i).siz) 256)
noncomputable def c3M (M : Nat → En) : Int := IntKind.u64.wrap (sumF (fun i => siF ((M i).typ ≠ 0 ∧ (M i).par = 65535) (M i).siz) 320)
noncomputable def stsX (M : Nat → En) : Rs :=
  ⟨0, [], svL (wrap64 (wrap64 (256 - ((spr M 0 256).length : Int)) - c0M M)) (lvM M 1) (nrM M) ((spr M 0 256).length : Int) ((spr M 256 320).length : Int) (c0M M) (c1M M) (lvM M) (c2M M) (c3M M)⟩
theorem sumF_cnt (p : Nat → Prop) [DecidablePred p] : ∀ n, sumF (fun i => one (p i)) n = (((List.range n).filter (fun i => decide (p i))).length : Int)
  | 0 => rfl
  | n + 1 => by
    show sumF (fun i => one (p i)) n + one (p n) = _
    rw [sumF_cnt p n, List.range_succ, List.filter_append, List.length_append]
    by_cases h : p n
    · rw [one_pos h]
      simp [h]
    · rw [one_neg h]
      simp [h]
section
variable {s : Av} {ws : Nat → Nat → Nat → Int} {L : Nat → List Nat} {n : Nat} {tl : Nat → List Int}
/-- As many roots as the list has. -/
theorem nr_eq (hX : IX s tl L n) (hI : IV s tl L n) : nrM (ob s ws) = (n : Int) := by
  unfold nrM
  rw [sumF_cnt (fun i => (ob s ws i).typ ≠ 0 ∧ (ob s ws i).par = 65535)]
  have hr : ∀ i, i < n → ∃ d : Nat, d < 320 ∧ s.rts i = (d : Int) := fun i hi => by
    obtain ⟨d, hd, e⟩ := hI.ro.rts.lt i hi
    exact ⟨d, hd, e⟩
  have hp : List.Perm ((List.range 320).filter (fun i => decide ((ob s ws i).typ ≠ 0 ∧ (ob s ws i).par = 65535))) ((List.range n).map (fun i => (s.rts i).toNat)) := by
    refine (List.perm_ext_iff_of_nodup (List.nodup_range.filter _) ?_).2 (fun c => ?_)
    · rw [List.nodup_iff_pairwise_ne, List.pairwise_map]
      refine (List.pairwise_lt_range).imp_of_mem (fun {a b} ha hb hab => ?_)
      have ha' : a < n := by simpa using ha
      have hb' : b < n := by simpa using hb
      obtain ⟨c, hc, ec⟩ := hr a ha'
      obtain ⟨d, hd, ed⟩ := hr b hb'
      rw [ec, ed, Int.toNat_natCast, Int.toNat_natCast]
      intro e
      subst e
      have h1 := hX.gm.rts a b c c hab hb' ec ed
      obtain ⟨_, _, _, _, r5, _⟩ := hI.ro.reg a c ha' ec
      omega
    · rw [List.mem_filter, List.mem_map]
      simp only [List.mem_range, decide_eq_true_eq]
      constructor
      · rintro ⟨h1, h2, h3⟩
        rw [ob_at _ _ h1] at h2 h3
        obtain ⟨i, hi, e⟩ := hI.ro.all c h1 h2 h3
        exact ⟨i, hi, by rw [e, Int.toNat_natCast]⟩
      · rintro ⟨i, hi, e⟩
        obtain ⟨d, hd, ed⟩ := hr i hi
        rw [ed, Int.toNat_natCast] at e
        subst e
        obtain ⟨r1, r2, r3, _⟩ := hI.ro.reg i d hi ed
        rw [ob_at _ _ hd]
        exact ⟨hd, r2, r3⟩
  rw [hp.length_eq, List.length_map, List.length_range]
theorem svL_congr {o a b c d e f p q : Int} {l l' : Nat → Int} (h : ∀ j, j < 8 → l j = l' j) : svL o a b c d e f l p q = svL o a b c d e f l' p q := by
  unfold svL
  rw [List.map_congr_left (fun j hj => by rw [h j (by simpa using hj)])]
theorem stsX_eq (hX : IX s tl L n) (hI : IV s tl L n) : stsX (ob s ws) = ⟨0, [], svL (wrap64 (wrap64 (256 - (cnI s 0 256 : Int)) - s.c0)) (s.lv 1) s.nrt (cnI s 0 256 : Int) (cnI s 256 320 : Int) s.c0 s.c1 s.lv s.c2 s.c3⟩ := by
  have lv : ∀ k, k < 8 → lvM (ob s ws) k = s.lv k := fun k hk => by
    unfold lvM
    by_cases e : k = 0
    · rw [if_pos e, e, hX.ct.l0]
    · rw [if_neg e, hX.ct.lv k (by omega) (by omega)]
      exact sumF_congr (fun i hi => by show one _ = one _; rw [ob_at _ _ hi])
  have c0 : c0M (ob s ws) = s.c0 := by
    unfold c0M
    rw [hX.ct.c0]
    exact sumF_congr (fun i hi => by show one _ = one _; rw [ob_at _ _ (by omega)])
  have c1 : c1M (ob s ws) = s.c1 := by
    unfold c1M
    rw [hX.ct.c1]
    exact sumF_congr (fun i hi => by show one _ = one _; rw [ob_at _ _ hi])
  have c2 : c2M (ob s ws) = s.c2 := by
    unfold c2M
    rw [hX.ct.c2]
    exact congrArg _ (sumF_congr (fun i hi => by rw [ob_at _ _ (by omega)]))
  have c3 : c3M (ob s ws) = s.c3 := by
    unfold c3M
    rw [hX.ct.c3]
    exact congrArg _ (sumF_congr (fun i hi => by rw [ob_at _ _ hi]; rfl))
  unfold stsX
  rw [spr_len hX hI (by omega), spr_len hX hI (by omega), c0, c1, c2, c3, nr_eq hX hI, hI.ro.rts.nrt, lv 1 (by omega), svL_congr lv]
end
end Go.Proofs.Qxb6500847aGreatDoor.Os
