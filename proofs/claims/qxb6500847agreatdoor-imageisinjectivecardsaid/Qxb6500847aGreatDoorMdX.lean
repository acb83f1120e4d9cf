/-
  The abstract model: plain laws for stats, locate, reclaim; an entry's words are written.
-/
import Derived.Test.Qxb6500847aGreatDoorMdJ
import Derived.Test.Qxb6500847aGreatDoorMdN
namespace Go.Proofs.Qxb6500847aGreatDoor.Os
open Go.RowKit FloorA
set_option maxRecDepth 100000
/-! ### Stats -/
def stO (M : Nat → En) (k : Nat) : Int := sumF (fun i => one ((M i).typ ≠ 0 ∧ i < 256)) k
def stG (M : Nat → En) (k : Nat) : Int := sumF (fun i => one ((M i).typ ≠ 0 ∧ 256 ≤ i)) k
def stR (M : Nat → En) (k : Nat) : Int := sumF (fun i => one ((M i).typ ≠ 0 ∧ 256 ≤ i ∧ (M i).par = 65535)) k
def stA (M : Nat → En) (k : Nat) : Int := sumF (fun i => one ((M i).typ = 0 ∧ (M i).gen ≠ 4294967295 ∧ i < 256)) k
def stB (M : Nat → En) (k : Nat) : Int := sumF (fun i => one ((M i).typ = 0 ∧ (M i).gen ≠ 4294967295 ∧ 256 ≤ i)) k
def stC (M : Nat → En) (k : Nat) : Int := sumF (fun i => one ((M i).typ = 0 ∧ (M i).gen = 4294967295 ∧ i < 256)) k
def stD (M : Nat → En) (k : Nat) : Int := sumF (fun i => one ((M i).typ = 0 ∧ (M i).gen = 4294967295 ∧ 256 ≤ i)) k
def stT (M : Nat → En) (t k : Nat) : Int := sumF (fun i => one ((M i).typ ≠ 0 ∧ (M i).typ = (t : Int))) k
noncomputable def stX (M : Nat → En) (k : Nat) : Int := sumF (fun i => siF ((M i).typ ≠ 0 ∧ i < 256) (M i).siz) k
noncomputable def stY (M : Nat → En) (k : Nat) : Int := sumF (fun i => siF ((M i).typ ≠ 0 ∧ 256 ≤ i ∧ (M i).par = 65535) (M i).siz) k
theorem sumF_cut {f : Nat → Int} (m : Nat) : ∀ d, (∀ i, m ≤ i → i < m + d → f i = 0) → sumF f (m + d) = sumF f m
  | 0, _ => rfl
  | d + 1, h => by
    show sumF f (m + d) + f (m + d) = _
    rw [h (m + d) (by omega) (by omega), sumF_cut m d (fun i h1 h2 => h i h1 (by omega))]
    omega
theorem sumF_320 {f g : Nat → Int} (h1 : ∀ i, i < 256 → f i = g i) (h2 : ∀ i, 256 ≤ i → i < 320 → f i = 0) : sumF f 320 = sumF g 256 := by
  have : sumF f (256 + 64) = sumF f 256 := sumF_cut 256 64 (fun i a b => h2 i a (by omega))
  rw [show (320 : Nat) = 256 + 64 from rfl, this]
  exact sumF_congr h1
theorem sumF_cap {f : Nat → Int} {c : Int} : ∀ {n : Nat}, (∀ i, i < n → 0 ≤ f i ∧ f i ≤ c) → 0 ≤ sumF f n ∧ sumF f n ≤ (n : Int) * c
  | 0, _ => ⟨Int.le_refl 0, by simp [sumF]⟩
  | n + 1, h => by
    have h1 := sumF_cap (n := n) (fun i hi => h i (by omega))
    have h2 := h n (by omega)
    show 0 ≤ sumF f n + f n ∧ sumF f n + f n ≤ _
    have e : ((n + 1 : Nat) : Int) * c = (n : Int) * c + c := by rw [Int.natCast_add, Int.add_mul]; simp
    rw [e]
    omega
theorem sumF_one1 {p : Nat → Prop} [DecidablePred p] (n : Nat) : 0 ≤ sumF (fun i => one (p i)) n ∧ sumF (fun i => one (p i)) n ≤ (n : Int) := sumF_one (fun i _ => one_01 (p i))
theorem one_iff {p q : Prop} [Decidable p] [Decidable q] (h : p ↔ q) : one p = one q := by
  by_cases hq : q
  · rw [one_pos hq, one_pos (h.2 hq)]
  · rw [one_neg hq, one_neg (fun z => hq (h.1 z))]
section
variable {M : Nat → En}
theorem stX_rng (hM : Mk M) (k : Nat) (hk : k ≤ 320) : 0 ≤ stX M k ∧ stX M k ≤ 90071992547409920 := by
  have := sumF_cap (f := fun i => siF ((M i).typ ≠ 0 ∧ i < 256) (M i).siz) (c := 281474976710656) (n := k) (fun i hi => by
    obtain ⟨a, b, c⟩ := hM.bas i (by omega)
    show 0 ≤ siF _ _ ∧ siF _ _ ≤ _
    unfold siF
    split <;> omega)
  unfold stX
  omega
theorem stY_rng (hM : Mk M) (k : Nat) (hk : k ≤ 320) : 0 ≤ stY M k ∧ stY M k ≤ 90071992547409920 := by
  have := sumF_cap (f := fun i => siF ((M i).typ ≠ 0 ∧ 256 ≤ i ∧ (M i).par = 65535) (M i).siz) (c := 281474976710656) (n := k) (fun i hi => by
    obtain ⟨a, b, c⟩ := hM.bas i (by omega)
    show 0 ≤ siF _ _ ∧ siF _ _ ≤ _
    unfold siF
    split <;> omega)
  unfold stY
  omega
theorem u64s {x : Int} (h : 0 ≤ x ∧ x ≤ 1000) : IntKind.u64.wrap x = x := u64_same h.1 (by omega)
theorem spr_A (hM : Mk M) : ((spr M 0 256).length : Int) = stA M 320 := by
  have h1 := sumF_cnt (fun i => 0 ≤ i ∧ (M i).typ = 0 ∧ (M i).gen < 4294967295) 256
  unfold spr
  rw [← h1]
  unfold stA
  refine (sumF_320 (fun i hi => one_iff ?_) (fun i hi _ => one_neg (by omega))).symm
  obtain ⟨g, eg, _, _⟩ := hM.gen i (by omega)
  omega
theorem spr_B (hM : Mk M) : ((spr M 256 320).length : Int) = stB M 320 := by
  have h1 := sumF_cnt (fun i => 256 ≤ i ∧ (M i).typ = 0 ∧ (M i).gen < 4294967295) 320
  unfold spr
  rw [← h1]
  unfold stB
  refine sumF_congr (fun i hi => one_iff ?_)
  obtain ⟨g, eg, _, _⟩ := hM.gen i (by omega)
  omega
theorem c0_C (M : Nat → En) : c0M M = stC M 320 := by
  unfold c0M stC
  exact (sumF_320 (fun i hi => one_iff (by omega)) (fun i hi _ => one_neg (by omega))).symm
theorem c1_D (M : Nat → En) : c1M M = stD M 320 := by
  unfold c1M stD
  exact sumF_congr (fun i hi => one_iff (by omega))
theorem lv_T (M : Nat → En) (t : Nat) : lvM M t = stT M t 320 := by
  unfold lvM stT
  by_cases h : t = 0
  · rw [if_pos h]
    have : ∀ n, sumF (fun i => one ((M i).typ ≠ 0 ∧ (M i).typ = (t : Int))) n = 0 := fun n => by
      induction n with
      | zero => rfl
      | succ n ih =>
        show sumF _ n + one _ = 0
        rw [ih, one_neg (by omega)]
        rfl
    exact (this 320).symm
  · rw [if_neg h]
    exact sumF_congr (fun i hi => one_iff (by omega))
theorem lv_G (hM : Mk M) : lvM M 1 = stG M 320 := by
  unfold lvM stG
  rw [if_neg (by decide)]
  refine sumF_congr (fun i hi => one_iff ?_)
  obtain ⟨k, ek, k7, kr⟩ := hM.typ i hi
  by_cases hk : k = 0
  · omega
  · have := kr hk
    omega
theorem nr_R (hO : ∀ i, i < 256 → (M i).typ ≠ 0 → (M i).par ≠ 65535) : nrM M = stR M 320 := by
  unfold nrM stR
  refine sumF_congr (fun i hi => one_iff ⟨fun q => ⟨q.1, ?_, q.2⟩, fun q => ⟨q.1, q.2.2⟩⟩)
  exact Nat.le_of_not_lt (fun z => hO i z q.1 q.2)
theorem c2_X (hM : Mk M) : c2M M = stX M 320 := by
  have h : stX M 320 = sumF (fun i => (M i).siz) 256 := by
    unfold stX
    refine sumF_320 (fun i hi => ?_) (fun i hi _ => siF_neg (by omega) _)
    by_cases q : (M i).typ = 0
    · rw [siF_neg (by omega), (hM.fre i (by omega) q).2.1]
    · rw [siF_pos ⟨q, hi⟩]
  unfold c2M
  rw [← h]
  have := stX_rng hM 320 (by omega)
  exact u64_same this.1 (by omega)
theorem c3_Y (hM : Mk M) (hO : ∀ i, i < 256 → (M i).typ ≠ 0 → (M i).par ≠ 65535) : c3M M = stY M 320 := by
  have h : stY M 320 = sumF (fun i => siF ((M i).typ ≠ 0 ∧ (M i).par = 65535) (M i).siz) 320 := by
    unfold stY
    refine sumF_congr (fun i hi => siF_iff ⟨fun q => ⟨q.1, q.2.2⟩, fun q => ⟨q.1, ?_, q.2⟩⟩ _)
    exact Nat.le_of_not_lt (fun z => hO i z q.1 q.2)
  unfold c3M
  rw [← h]
  have := stY_rng hM 320 (by omega)
  exact u64_same this.1 (by omega)
theorem st_all (M : Nat → En) : ∀ k, k ≤ 256 → stA M k + stC M k + stO M k = (k : Int)
  | 0, _ => rfl
  | k + 1, h => by
    have ih := st_all M k (by omega)
    show (stA M k + one ((M k).typ = 0 ∧ (M k).gen ≠ 4294967295 ∧ k < 256)) + (stC M k + one ((M k).typ = 0 ∧ (M k).gen = 4294967295 ∧ k < 256)) + (stO M k + one ((M k).typ ≠ 0 ∧ k < 256)) = _
    by_cases q : (M k).typ = 0
    · by_cases q2 : (M k).gen = 4294967295
      · rw [one_neg (fun z => z.2.1 q2), one_pos ⟨q, q2, by omega⟩, one_neg (fun z => z.1 q)]
        omega
      · rw [one_pos ⟨q, q2, by omega⟩, one_neg (fun z => q2 z.2.1), one_neg (fun z => z.1 q)]
        omega
    · rw [one_neg (fun z => q z.1), one_neg (fun z => q z.1), one_pos ⟨q, by omega⟩]
      omega
theorem st_O (hM : Mk M) : wrap64 (wrap64 (256 - ((spr M 0 256).length : Int)) - c0M M) = stO M 320 := by
  have h := st_all M 256 (by omega)
  have cut : ∀ {f : Nat → Int}, (∀ i, 256 ≤ i → f i = 0) → sumF f 320 = sumF f 256 := fun hf => sumF_320 (fun _ _ => rfl) (fun i hi _ => hf i hi)
  have a : stA M 320 = stA M 256 := cut (fun i hi => one_neg (by omega))
  have c : stC M 320 = stC M 256 := cut (fun i hi => one_neg (by omega))
  have o : stO M 320 = stO M 256 := cut (fun i hi => one_neg (by omega))
  have ra := sumF_one1 (p := fun i => (M i).typ = 0 ∧ (M i).gen ≠ 4294967295 ∧ i < 256) 256
  have rc := sumF_one1 (p := fun i => (M i).typ = 0 ∧ (M i).gen = 4294967295 ∧ i < 256) 256
  have ro := sumF_one1 (p := fun i => (M i).typ ≠ 0 ∧ i < 256) 256
  rw [spr_A hM, c0_C, a, c, o]
  unfold stA stC stO at *
  unfold wrap64
  omega
/-- What the model's stats counts. -/
theorem sts_eq (hM : Mk M) (hO : ∀ i, i < 256 → (M i).typ ≠ 0 → (M i).par ≠ 65535) : stsX M = ⟨0, [], [stO M 320, stG M 320, stR M 320, stA M 320, stB M 320, stC M 320, stD M 320] ++ (List.range 8).map (fun t => stT M t 320) ++ [stX M 320, stY M 320]⟩ := by
  have hw : ∀ {p : Nat → Prop} [DecidablePred p], IntKind.u64.wrap (sumF (fun i => one (p i)) 320) = sumF (fun i => one (p i)) 320 := fun {p} _ => by
    have := sumF_one1 (p := p) 320
    exact u64s ⟨this.1, by omega⟩
  unfold stsX svL
  rw [st_O hM, lv_G hM, nr_R hO, spr_A hM, spr_B hM, c0_C, c1_D, c2_X hM, c3_Y hM hO]
  have e : (List.range 8).map (fun j => IntKind.u64.wrap (lvM M j)) = (List.range 8).map (fun t => stT M t 320) := List.map_congr_left (fun t _ => by rw [lv_T]; exact hw)
  rw [e]
  congr 3
  unfold stO stG stR stA stB stC stD
  rw [hw, hw, hw, hw, hw, hw, hw]
end
/-! ### Below -/
/-- The entries below p among the first k. -/
noncomputable def dmL (M : Nat → En) (p k : Nat) : List Nat := open Classical in (List.range k).filter (fun j => decide ((M j).typ ≠ 0 ∧ Bl M p j))
theorem dmL_pos {M : Nat → En} {p k : Nat} (h : (M k).typ ≠ 0 ∧ Bl M p k) : dmL M p (k + 1) = dmL M p k ++ [k] := by
  unfold dmL
  rw [List.range_succ, List.filter_append]
  simp [h]
theorem dmL_neg {M : Nat → En} {p k : Nat} (h : ¬ ((M k).typ ≠ 0 ∧ Bl M p k)) : dmL M p (k + 1) = dmL M p k := by
  unfold dmL
  rw [List.range_succ, List.filter_append, List.filter_cons_of_neg (by simpa using h)]
  simp
theorem dmL_le (M : Nat → En) (p k : Nat) : (dmL M p k).length ≤ k := by
  unfold dmL
  exact Nat.le_trans (List.length_filter_le _ _) (by simp)
theorem dmL_mem (M : Nat → En) (p k j : Nat) : j ∈ dmL M p k ↔ j < k ∧ (M j).typ ≠ 0 ∧ Bl M p j := by
  unfold dmL
  rw [List.mem_filter, List.mem_range]
  simp
theorem dmL_nd (M : Nat → En) (p k : Nat) : (dmL M p k).Nodup := by
  unfold dmL
  exact List.nodup_range.filter _
theorem dmL_cnt (M : Nat → En) (p : Nat) : ∀ k, sumF (fun x => siF ((M x).typ ≠ 0 ∧ Bl M p x) 1) k = ((dmL M p k).length : Int)
  | 0 => rfl
  | k + 1 => by
    show sumF _ k + siF _ 1 = _
    rw [dmL_cnt M p k]
    by_cases q : (M k).typ ≠ 0 ∧ Bl M p k
    · rw [siF_pos q, dmL_pos q, List.length_append]; rfl
    · rw [siF_neg q, dmL_neg q]; omega
/-- The entries of the list are free. -/
def drF (M : Nat → En) (l : List Nat) (x : Nat) : En := if x ∈ l then enF ((M x).gen + 1) else M x
theorem drF_nil (M : Nat → En) : drF M [] = M := by
  funext x
  unfold drF
  rw [if_neg (by simp)]
theorem drF_out {M : Nat → En} {l : List Nat} {j : Nat} (h : j ∉ l) : drF M l j = M j := by unfold drF; rw [if_neg h]
theorem drF_snoc {M : Nat → En} {l : List Nat} {j : Nat} (h : j ∉ l) : updM (drF M l) j (enF ((drF M l j).gen + 1)) = drF M (l ++ [j]) := by
  funext x
  rw [drF_out h]
  unfold updM drF
  by_cases q : x = j
  · subst q
    rw [if_pos rfl, if_pos (by simp)]
  · rw [if_neg q]
    by_cases q2 : x ∈ l
    · rw [if_pos q2, if_pos (by simp [q2])]
    · rw [if_neg q2, if_neg (by simp [q, q2])]
theorem drF_emp (M : Nat → En) (p : Nat) (h : ∀ i, 320 ≤ i → (M i).typ = 0) : drF M (dmL M p 320) = emp M p := by
  funext x
  unfold drF emp
  by_cases q : (M x).typ ≠ 0 ∧ Bl M p x
  · have hx : x < 320 := Classical.byContradiction (fun z => q.1 (h x (by omega)))
    rw [if_pos q, if_pos ((dmL_mem M p 320 x).2 ⟨hx, q⟩)]
  · rw [if_neg q, if_neg (fun z => q ((dmL_mem M p 320 x).1 z).2)]
theorem drF_tm {M : Nat → En} {l : List Nat} {B : Nat} {wb : Nat → Nat} {b : Nat} (h : Tm B wb (drF M l) b) : Tm B wb M b := by
  rcases h with h | ⟨j, hj, hw, e⟩
  · exact Or.inl h
  · refine Or.inr ⟨j, hj, ?_, e⟩
    unfold drF at hw
    split at hw
    · exact absurd rfl hw
    · exact hw
theorem bl_mem {M : Nat → En} {p : Nat} (hp : p < 320) : ∀ {l : List Nat} {j : Nat}, Up M (M j).par l → (Bl M p j ↔ p ∈ l)
  | [], j, h => by
    have e : (M j).par = 65535 := h
    refine ⟨fun q => ?_, fun q => by simp at q⟩
    cases q with
    | one h1 => omega
    | up h1 h2 _ => omega
  | t :: r, j, h => by
    have ih := bl_mem hp (l := r) (j := t) h.2.2
    have e := h.1
    refine ⟨fun q => ?_, fun q => ?_⟩
    · cases q with
      | one h1 => rw [show p = t by omega]; exact List.mem_cons_self ..
      | up h1 h2 h3 =>
        rename_i q2
        obtain rfl : q2 = t := by omega
        exact List.mem_cons_of_mem _ (ih.1 h3)
    · rcases List.mem_cons.1 q with rfl | q
      · exact .one e
      · exact .up e h.2.1 (ih.2 q)
section
variable {w w' : World} {B : Nat} {wb : Nat → Nat} {M : Nat → En} {i : Nat}
/-- The words of an entry are written. -/
theorem Md.words (h : Md w B wb M) (hi : i < 320) {l : List Int} (hn : l ≠ []) (hl : l.length = (M i).wds.length) (e : Ext w.heap.size (fun b => b = wb i) w w') (hr : w'.rangeAt (wb i) 0 (l.map (.int .u64))) (hf : ∀ o, w'.frozen? ⟨wb i, o, none⟩ = false) : Md w' B wb (updM M i { M i with wds := l }) := by
  have hw : (M i).wds ≠ [] := fun q => by rw [q] at hl; exact hn (List.length_eq_zero_iff.1 hl)
  have hB : ¬ B = wb i := fun q => h.ne i hi hw q.symm
  have eq_i : updM M i { M i with wds := l } i = { M i with wds := l } := by unfold updM; rw [if_pos rfl]
  have eq_o : ∀ j, j ≠ i → updM M i { M i with wds := l } j = M j := fun j hj => by unfold updM; rw [if_neg hj]
  have wdn : ∀ j, (updM M i { M i with wds := l } j).wds ≠ [] → (M j).wds ≠ [] := fun j hj => by
    by_cases q : j = i
    · rw [q]; exact hw
    · rw [eq_o j q] at hj; exact hj
  have fzk : ∀ {b : Nat}, b < w.heap.size → ¬ b = wb i → ∀ o, w.frozen? ⟨b, o, none⟩ = false → w'.frozen? ⟨b, o, none⟩ = false := fun hb hx o k => (World.frozen?_of_block (a := ⟨_, o, none⟩) (e.block _ hb hx)).trans k
  refine ⟨fun j hj => ?_, fun j hj => ?_, fun o => fzk h.lt hB o (h.fz o), fun j hj hw2 => h.ne j hj (wdn j hw2), fun a b ha hb h1 h2 => h.inj a b ha hb (wdn a h1) (wdn b h2)⟩
  · have he : entL (updM M i { M i with wds := l } j) = entL (M j) := by
      by_cases q : j = i
      · rw [q, eq_i]; rfl
      · rw [eq_o j q]
    rw [he]
    exact rangeAt_ext (h.cel j hj) e hB
  · obtain ⟨v, hv, hd⟩ := h.wrd j hj
    refine ⟨v, (e.cell (p := ⟨B, j * 6 + 5, none⟩) h.lt hB).trans hv, ?_⟩
    by_cases q : j = i
    · subst q
      rw [eq_i]
      rcases hd with ⟨z, _⟩ | ⟨_, c, e1, e2, e3, _, _⟩
      · exact absurd z hw
      · exact Or.inr ⟨hn, c, by rw [e1]; show _ = Value.slice _ l.length c; rw [hl], by show l.length ≤ c; omega, e3, hr, hf⟩
    · rw [eq_o j q]
      rcases hd with hd | ⟨hn2, c, e1, e2, e3, e4, e5⟩
      · exact Or.inl hd
      · have hx : ¬ wb j = wb i := fun z => q (h.inj j i hj hi hn2 hw z)
        exact Or.inr ⟨hn2, c, e1, e2, e3, rangeAt_ext e4 e hx, fun o => fzk (h.wlt hj hn2) hx o (e5 o)⟩
/-- A step that writes: its answer goes into the box R. -/
theorem MsP.chg {w3 : World} {R : Nat} {X : Rs} {M' : Nat → En} {wb' : Nat → Nat} {r v : Value} (hm : Md w3 B wb' M') (he : Ext w.heap.size (Tm B wb M) w w3) (hR : w.heap.size ≤ R) (hn : ∀ b, Tm B wb' M' b → b ≠ R ∧ (Tm B wb M b ∨ w.heap.size ≤ b)) (hc : X.code = 0) (hr : IsR (R + 1) w3 r X.refs) (hv : IsU (R + 1) w3 v X.vals) (x y z : Value) :
    MsP B wb M (X, M') w (.returned (.agg #[.int .u8 0, r, v])) (((w3.setCell ⟨R, 0, none⟩ x).setCell ⟨R, 1, none⟩ y).setCell ⟨R, 2, none⟩ z) := by
  have e2 := ((he.setCell (p := ⟨R, 0, none⟩) (Or.inl hR) x).setCell (p := ⟨R, 1, none⟩) (Or.inl hR) y).setCell (p := ⟨R, 2, none⟩) (Or.inl hR) z
  have e3 : Ext w3.heap.size (fun b => b = R) w3 (((w3.setCell ⟨R, 0, none⟩ x).setCell ⟨R, 1, none⟩ y).setCell ⟨R, 2, none⟩ z) := (((Ext.refl w3.heap.size (fun b => b = R) w3).setCell (p := ⟨R, 0, none⟩) (Or.inr rfl) _).setCell (p := ⟨R, 1, none⟩) (Or.inr rfl) _).setCell (p := ⟨R, 2, none⟩) (Or.inr rfl) _
  refine ⟨_, _, wb', by rw [← hc], ?_, ?_, hm.ext e3 (fun b hb q => (hn b hb).1 q), e2, fun b hb => (hn b hb).2⟩
  · exact Sq.mono (Sq.fin hr (Below.refl _ _) (Nat.lt_succ_self _) x y z) (by omega)
  · exact Sq.mono (Sq.fin hv (Below.refl _ _) (Nat.lt_succ_self _) x y z) (by omega)
theorem updM_self (M : Nat → En) (i : Nat) : updM M i (M i) = M := by
  funext j
  unfold updM
  by_cases q : j = i
  · rw [if_pos q, q]
  · rw [if_neg q]
end
end Go.Proofs.Qxb6500847aGreatDoor.Os
