/-
  The plain side: leaves and depth of a regex, and of its derivatives.
-/
import Derived.Test.Qxb6500848aGreatDoorPlainG
import Derived.Test.Qxb6500848aGreatDoorPlainS
namespace Go.Proofs.Qxb6500848aGreatDoor.Pl

def lf (nd : Nd) : Nat := if nd.kind = 2 ∨ nd.kind = 3 then 1 else 0
def dk (nd : Nd) : Nat := if nd.kind = 4 ∨ nd.kind = 8 ∨ nd.kind = 9 then 1 else 0
def mx (l : List Nat) : Nat := l.foldr max 0
theorem map_mx_congr {f g : Int → Nat} : ∀ {l : List Int}, (∀ x ∈ l, f x = g x) → mx (l.map f) = mx (l.map g)
  | [], _ => rfl
  | a :: l, h => by
    have ih := map_mx_congr (f := f) (g := g) (l := l) (fun x hx => h x (List.mem_cons_of_mem _ hx))
    unfold mx at ih ⊢
    rw [List.map_cons, List.map_cons, List.foldr_cons, List.foldr_cons, ih, h a (List.mem_cons_self ..)]
theorem mx_mem {f : Int → Nat} : ∀ {l : List Int} {x : Int}, x ∈ l → f x ≤ mx (l.map f)
  | a :: l, x, h => by
    have e : mx ((a :: l).map f) = max (f a) (mx (l.map f)) := rfl
    rw [e]
    rcases List.mem_cons.1 h with rfl | h
    · omega
    · have := mx_mem (f := f) h
      omega
theorem mx_le {f : Int → Nat} {b : Nat} : ∀ {l : List Int}, (∀ x ∈ l, f x ≤ b) → mx (l.map f) ≤ b
  | [], _ => Nat.zero_le _
  | a :: l, h => by
    have e : mx ((a :: l).map f) = max (f a) (mx (l.map f)) := rfl
    have h1 := h a (List.mem_cons_self ..)
    have h2 := mx_le (f := f) (b := b) (l := l) (fun x hx => h x (List.mem_cons_of_mem _ hx))
    omega

def lvF (A : List Nd) : Nat → Int → Nat
  | 0, _ => 0
  | n + 1, x => lf (nodeAt A x) + ((nodeAt A x).kids.map (lvF A n)).sum
def lv (A : List Nd) (x : Int) : Nat := lvF A (x.toNat + 1) x

theorem lvF_eq {A : List Nd} (hA : Wf A) : ∀ (n : Nat) (x : Int), Valid A x → x.toNat < n → lvF A n x = lv A x := by
  intro n
  induction n using Nat.strongRecOn with
  | ind n ih =>
    intro x hx hn
    cases n with
    | zero => omega
    | succ n =>
      show lf (nodeAt A x) + ((nodeAt A x).kids.map (lvF A n)).sum = lf (nodeAt A x) + ((nodeAt A x).kids.map (lvF A x.toNat)).sum
      congr 1
      refine map_sum_congr fun k hk => ?_
      obtain ⟨hv, hlt⟩ := hA.kidValid hx hk
      rw [ih n (by omega) k hv (by omega)]
      by_cases e : x.toNat < n + 1
      · rw [ih x.toNat (by omega) k hv hlt]
      · omega
theorem lv_unfold {A : List Nd} (hA : Wf A) {x : Int} (hx : Valid A x) : lv A x = lf (nodeAt A x) + ((nodeAt A x).kids.map (lv A)).sum := by
  show lf (nodeAt A x) + ((nodeAt A x).kids.map (lvF A x.toNat)).sum = _
  congr 1
  refine map_sum_congr fun k hk => ?_
  obtain ⟨hv, hlt⟩ := hA.kidValid hx hk
  exact lvF_eq hA _ k hv hlt
theorem lv_le {A B : List Nd} (hA : Wf A) (hB : Wf B) (hAB : Le A B) : ∀ (n : Nat) (x : Int), x.toNat = n → Valid A x → lv B x = lv A x := by
  intro n
  induction n using Nat.strongRecOn with
  | ind n ih =>
    intro x hn hx
    subst hn
    rw [lv_unfold hA hx, lv_unfold hB (hAB.valid hx), hAB.node hx]
    congr 1
    refine map_sum_congr fun k hk => ?_
    obtain ⟨hv, hlt⟩ := hA.kidValid hx hk
    exact ih k.toNat hlt k rfl hv
def dpF (A : List Nd) : Nat → Int → Nat
  | 0, _ => 0
  | n + 1, x => dk (nodeAt A x) + mx ((nodeAt A x).kids.map (dpF A n))
def dp (A : List Nd) (x : Int) : Nat := dpF A (x.toNat + 1) x

theorem dpF_eq {A : List Nd} (hA : Wf A) : ∀ (n : Nat) (x : Int), Valid A x → x.toNat < n → dpF A n x = dp A x := by
  intro n
  induction n using Nat.strongRecOn with
  | ind n ih =>
    intro x hx hn
    cases n with
    | zero => omega
    | succ n =>
      show dk (nodeAt A x) + mx ((nodeAt A x).kids.map (dpF A n)) = dk (nodeAt A x) + mx ((nodeAt A x).kids.map (dpF A x.toNat))
      congr 1
      refine map_mx_congr fun k hk => ?_
      obtain ⟨hv, hlt⟩ := hA.kidValid hx hk
      rw [ih n (by omega) k hv (by omega)]
      by_cases e : x.toNat < n + 1
      · rw [ih x.toNat (by omega) k hv hlt]
      · omega
theorem dp_unfold {A : List Nd} (hA : Wf A) {x : Int} (hx : Valid A x) : dp A x = dk (nodeAt A x) + mx ((nodeAt A x).kids.map (dp A)) := by
  show dk (nodeAt A x) + mx ((nodeAt A x).kids.map (dpF A x.toNat)) = _
  congr 1
  refine map_mx_congr fun k hk => ?_
  obtain ⟨hv, hlt⟩ := hA.kidValid hx hk
  exact dpF_eq hA _ k hv hlt
theorem dp_le {A B : List Nd} (hA : Wf A) (hB : Wf B) (hAB : Le A B) : ∀ (n : Nat) (x : Int), x.toNat = n → Valid A x → dp B x = dp A x := by
  intro n
  induction n using Nat.strongRecOn with
  | ind n ih =>
    intro x hn hx
    subst hn
    rw [dp_unfold hA hx, dp_unfold hB (hAB.valid hx), hAB.node hx]
    congr 1
    refine map_mx_congr fun k hk => ?_
    obtain ⟨hv, hlt⟩ := hA.kidValid hx hk
    exact ih k.toNat hlt k rfl hv

theorem lv_sz {A : List Nd} (hA : Wf A) : ∀ (n : Nat) (x : Int), x.toNat = n → Valid A x → lv A x ≤ sz A x ∧ dp A x ≤ sz A x := by
  intro n
  induction n using Nat.strongRecOn with
  | ind n ih =>
    intro x hn hx
    subst hn
    have hk : ∀ k ∈ (nodeAt A x).kids, lv A k ≤ sz A k ∧ dp A k ≤ sz A k := fun k hk => by
      obtain ⟨hv, hlt⟩ := hA.kidValid hx hk
      exact ih k.toNat hlt k rfl hv
    have h1 : ((nodeAt A x).kids.map (lv A)).sum ≤ ((nodeAt A x).kids.map (sz A)).sum := by
      revert hk
      generalize (nodeAt A x).kids = l
      intro hk
      induction l with
      | nil => exact Nat.le_refl _
      | cons a l ih2 =>
        have h2 := hk a (List.mem_cons_self ..)
        have h3 := ih2 (fun k h => hk k (List.mem_cons_of_mem _ h))
        rw [List.map_cons, List.map_cons, List.sum_cons, List.sum_cons]
        omega
    have h2 : mx ((nodeAt A x).kids.map (dp A)) ≤ ((nodeAt A x).kids.map (sz A)).sum := mx_le (fun k h => Nat.le_trans (hk k h).2 (sum_mem h))
    rw [lv_unfold hA hx, dp_unfold hA hx, sz_unfold hA hx]
    unfold lf dk
    constructor
    · split <;> omega
    · split <;> omega
theorem lv_low {A : List Nd} (hA : Wf A) {x : Int} (hx : Valid A x) (h : (nodeAt A x).kind = 0 ∨ (nodeAt A x).kind = 1) : lv A x = 0 ∧ dp A x = 0 := by
  rw [lv_unfold hA hx, dp_unfold hA hx, (hA.at hx).nokids (by omega)]
  unfold lf dk mx
  rw [if_neg (by omega), if_neg (by omega)]
  simp
theorem lv0 {A : List Nd} (hA : Wf A) : lv A 0 = 0 ∧ dp A 0 = 0 := lv_low hA hA.v0 (Or.inl (by rw [hA.at0]; rfl))
theorem lv1 {A : List Nd} (hA : Wf A) : lv A 1 = 0 ∧ dp A 1 = 0 := lv_low hA hA.v1 (Or.inr (by rw [hA.at1]))
theorem lv2 {A : List Nd} (hA : Wf A) : lv A 2 = 1 ∧ dp A 2 = 0 := by
  rw [lv_unfold hA hA.v2, dp_unfold hA hA.v2, hA.at2]
  exact ⟨rfl, rfl⟩

theorem concat_lv {A : List Nd} (hA : Wf A) {x y z : Int} (h : Val A (concatN x y) z) : lv A z ≤ lv A x + lv A y ∧ dp A z ≤ 1 + max (dp A x) (dp A y) := by
  have h0 := lv0 hA
  unfold concatN at h
  split at h
  · rw [← h.1, h0.1, h0.2]; omega
  · split at h
    · rw [← h.1]; omega
    · split at h
      · rw [← h.1]; omega
      · rw [lv_unfold hA h.1, dp_unfold hA h.1, h.2]
        have e1 : lf ⟨4, [], [x, y], 0, 0⟩ = 0 := rfl
        have e2 : dk ⟨4, [], [x, y], 0, 0⟩ = 1 := rfl
        have e3 : mx [dp A x, dp A y] = max (dp A x) (max (dp A y) 0) := rfl
        simp only [e1, e2, List.map_cons, List.map_nil, List.sum_cons, List.sum_nil]
        omega
theorem parts_lv {A : List Nd} (hA : Wf A) (unit : Int) : ∀ {xs : List Int}, (∀ x ∈ xs, Valid A x) → ((parts A 5 unit xs).map (lv A)).sum ≤ (xs.map (lv A)).sum
  | [], _ => Nat.le_refl _
  | x :: xs, h => by
    have ih := parts_lv hA unit (xs := xs) (fun y hy => h y (List.mem_cons_of_mem _ hy))
    have hu := lv_unfold hA (h x (List.mem_cons_self ..))
    unfold parts at *
    rw [List.flatMap_cons, List.map_append, List.sum_append, List.map_cons, List.sum_cons]
    split
    · omega
    · split
      · simp only [List.map_cons, List.map_nil, List.sum_cons, List.sum_nil]; omega
      · simp only [List.map_nil, List.sum_nil]; omega
theorem flat_dp {A : List Nd} (hA : Wf A) {xs : List Int} (h : ∀ x ∈ xs, Valid A x) {q : Int} (hq : q ∈ flat A 5 0 xs) : dp A q ≤ mx (xs.map (dp A)) := by
  obtain ⟨x, hx, hh⟩ := flat_mem hq
  have h1 := mx_mem (f := dp A) hx
  rcases hh with ⟨_, hk⟩ | ⟨_, _, e⟩
  · have h2 := mx_mem (f := dp A) hk
    have h3 := dp_unfold hA (h x hx)
    omega
  · rw [e]; exact h1
theorem union_lv {A : List Nd} (hA : Wf A) {xs : List Int} (hx : ∀ x ∈ xs, Valid A x) {z : Int} (h : Val A (unionN A xs) z) : lv A z ≤ (xs.map (lv A)).sum ∧ dp A z ≤ mx (xs.map (dp A)) := by
  have h0 := lv0 hA
  have h2 := lv2 hA
  have hf := Nat.le_trans (sub_sum (f := lv A) (rising_nodup flat_rising) (fun _ hx => mem_flat.1 hx)) (parts_lv hA 0 hx)
  have hd := fun q (hq : q ∈ flat A 5 0 xs) => flat_dp hA hx hq
  unfold unionN at h
  simp only at h
  split at h
  · rename_i hc
    have hm : (2 : Int) ∈ flat A 5 0 xs := List.contains_iff_mem.1 hc
    have := sum_mem (f := lv A) hm
    rw [← h.1]
    omega
  · split at h
    · rw [← h.1]; omega
    · split at h
      · rename_i h1
        obtain ⟨a, e⟩ := List.length_eq_one_iff.1 h1
        rw [e] at h hf hd
        have ez : a = z := h.1
        rw [← ez]
        simp only [List.map_cons, List.map_nil, List.sum_cons, List.sum_nil] at hf
        exact ⟨by omega, hd a (by simp)⟩
      · have e1 : lf ⟨5, [], flat A 5 0 xs, 0, 0⟩ = 0 := rfl
        have e2 : dk ⟨5, [], flat A 5 0 xs, 0, 0⟩ = 0 := rfl
        rw [lv_unfold hA h.1, dp_unfold hA h.1, h.2, e1, e2]
        have h3 := mx_le (f := dp A) (l := flat A 5 0 xs) hd
        exact ⟨by simpa using hf, by simpa using h3⟩
theorem loop_lv {A : List Nd} (hA : Wf A) {x lo hi z : Int} (hx : Valid A x) (h : Val A (loopN A x lo hi) z) : lv A z ≤ lv A x ∧ dp A z ≤ 1 + dp A x := by
  have h0 := lv0 hA
  have h1 := lv1 hA
  have h2 := lv2 hA
  have one : ∀ k : Int, ∀ lo hi : Int, k ≠ 2 ∧ k ≠ 3 → Valid A z → nodeAt A z = ⟨k, [], [x], lo, hi⟩ → lv A z ≤ lv A x ∧ dp A z ≤ 1 + dp A x := fun k lo hi hk hz e => by
    have e1 : lf ⟨k, [], [x], lo, hi⟩ = 0 := by unfold lf; rw [if_neg (by simp; omega)]
    have e2 : dk ⟨k, [], [x], lo, hi⟩ ≤ 1 := by unfold dk; split <;> omega
    have e3 : mx [dp A x] = max (dp A x) 0 := rfl
    rw [lv_unfold hA hz, dp_unfold hA hz, e, e1]
    simp only [List.map_cons, List.map_nil, List.sum_cons, List.sum_nil]
    omega
  unfold loopN at h
  split at h
  · rw [← h.1]; omega
  · split at h
    · rw [← h.1]; omega
    · split at h
      · rw [← h.1]; omega
      · split at h
        · rw [← h.1]; omega
        · split at h
          · rw [← h.1]; omega
          · split at h
            · rw [← h.1]; omega
            · split at h
              · unfold starN at h
                split at h
                · rw [← h.1]; omega
                · split at h
                  · rename_i h8
                    have : 1 ≤ lv A x := by
                      rw [lv_unfold hA hx]
                      have : lf (nodeAt A x) = 1 := by unfold lf; rw [if_pos (Or.inr h8.1)]
                      omega
                    rw [← h.1]; omega
                  · exact one 8 0 0 (by decide) h.1 h.2
              · exact one 9 lo hi (by decide) h.1 h.2

/-- A derivative has not many leaves, and is not deep. -/
theorem Der.leaves {A : List Nd} (hA : Wf A) {c x z : Int} (h : Der A c x z) : Valid A x → PlainR A x → lv A z ≤ lv A x * (1 + dp A x) ∧ dp A z ≤ dp A x + 1 := by
  induction h with
  | none h => intro _ _; rw [(lv0 hA).1, (lv0 hA).2]; omega
  | @all x h =>
    intro hx _
    have e : lf (nodeAt A x) = 1 := by unfold lf; rw [if_pos (Or.inl h)]
    have h1 : 1 ≤ lv A x := by rw [lv_unfold hA hx]; omega
    have h2 : lv A x * 1 ≤ lv A x * (1 + dp A x) := Nat.mul_le_mul_left _ (by omega)
    rw [(lv2 hA).1, (lv2 hA).2]
    omega
  | cls h hz =>
    intro hx _
    rw [hz]
    split
    · rw [(lv1 hA).1, (lv1 hA).2]; omega
    · rw [(lv0 hA).1, (lv0 hA).2]; omega
  | @cat1 x d z h hd hn hv ih =>
    intro hx hp
    have hl := len2 hA hx h
    obtain ⟨a, b, ek⟩ := (hA.at hx).two h
    have k0 : kid (nodeAt A x) 0 = a := by unfold kid; rw [ek]; rfl
    have k1 : kid (nodeAt A x) 1 = b := by unfold kid; rw [ek]; rfl
    have i0 := ih (kid_valid hA hx (by omega)).1 (hp.kid (getD_mem (by omega)))
    have c0 := concat_lv hA hv
    rw [k0] at i0
    rw [k1] at c0
    have e1 : lf (nodeAt A x) = 0 := by unfold lf; rw [if_neg (by omega)]
    have e2 : dk (nodeAt A x) = 1 := by unfold dk; rw [if_pos (Or.inl h)]
    have e3 : lv A x = lv A a + lv A b := by rw [lv_unfold hA hx, e1, ek]; simp
    have e4 : dp A x = 1 + max (dp A a) (dp A b) := by
      rw [dp_unfold hA hx, e2, ek]
      have : mx ([a, b].map (dp A)) = max (dp A a) (max (dp A b) 0) := rfl
      omega
    refine ⟨?_, by omega⟩
    have q1 : lv A a * (1 + dp A a) ≤ lv A a * (1 + dp A x) := Nat.mul_le_mul_left _ (by omega)
    have q2 : lv A b * 1 ≤ lv A b * (1 + dp A x) := Nat.mul_le_mul_left _ (by omega)
    rw [e3, Nat.add_mul]
    omega
  | @cat2 x d f e z h hd hn hf he hv ih ih2 =>
    intro hx hp
    have hl := len2 hA hx h
    obtain ⟨a, b, ek⟩ := (hA.at hx).two h
    have k0 : kid (nodeAt A x) 0 = a := by unfold kid; rw [ek]; rfl
    have k1 : kid (nodeAt A x) 1 = b := by unfold kid; rw [ek]; rfl
    have v1 := (kid_valid hA hx (i := 1) (by omega)).1
    have i0 := ih (kid_valid hA hx (by omega)).1 (hp.kid (getD_mem (by omega)))
    have i1 := ih2 v1 (hp.kid (getD_mem (by omega)))
    have c0 := concat_lv hA hf
    have c1 := union_lv hA (xs := [f, e]) (fun q hq => by
      rcases List.mem_cons.1 hq with rfl | hq
      · exact hf.valid
      · rw [List.mem_singleton.1 hq]; exact he.valid hA v1) hv
    rw [k0] at i0
    rw [k1] at c0 i1
    have e1 : lf (nodeAt A x) = 0 := by unfold lf; rw [if_neg (by omega)]
    have e2 : dk (nodeAt A x) = 1 := by unfold dk; rw [if_pos (Or.inl h)]
    have e3 : lv A x = lv A a + lv A b := by rw [lv_unfold hA hx, e1, ek]; simp
    have e4 : dp A x = 1 + max (dp A a) (dp A b) := by
      rw [dp_unfold hA hx, e2, ek]
      have : mx ([a, b].map (dp A)) = max (dp A a) (max (dp A b) 0) := rfl
      omega
    have e5 : mx ([f, e].map (dp A)) = max (dp A f) (max (dp A e) 0) := rfl
    simp only [List.map_cons, List.map_nil, List.sum_cons, List.sum_nil] at c1
    have c2 := c1.2
    have e6 : mx [dp A f, dp A e] = max (dp A f) (max (dp A e) 0) := rfl
    refine ⟨?_, by omega⟩
    have q1 : lv A a * (1 + dp A a) ≤ lv A a * (1 + dp A x) := Nat.mul_le_mul_left _ (by omega)
    have q2 : lv A b * (1 + (1 + dp A b)) ≤ lv A b * (1 + dp A x) := Nat.mul_le_mul_left _ (by omega)
    rw [Nat.mul_add, Nat.mul_one] at q2
    rw [e3, Nat.add_mul]
    omega
  | @uni x z h ds hl hd hv ih =>
    intro hx hp
    have hval : ∀ d ∈ ds, Valid A d := fun d hd' => by
      obtain ⟨i, hi, rfl⟩ := List.getElem_of_mem hd'
      have := hd i hi
      rw [getD_lt hi] at this
      exact this.valid hA (kid_valid hA hx (by omega)).1
    have c1 := union_lv hA hval hv
    have e1 : lf (nodeAt A x) = 0 := by unfold lf; rw [if_neg (by omega)]
    have e2 : dk (nodeAt A x) = 0 := by unfold dk; rw [if_neg (by omega)]
    have e3 := lv_unfold hA hx
    have e4 := dp_unfold hA hx
    rw [e1] at e3
    rw [e2] at e4
    have hb : ∀ i (h1 : i < ds.length) (h2 : i < (nodeAt A x).kids.length), lv A ds[i] ≤ lv A (nodeAt A x).kids[i] * (1 + dp A x) ∧ dp A ds[i] ≤ dp A x + 1 := fun i h1 h2 => by
      have e : kid (nodeAt A x) i = (nodeAt A x).kids[i] := getD_lt h2 _
      have := ih i h1 (kid_valid hA hx h2).1 (hp.kid (getD_mem h2))
      rw [getD_lt h1, e] at this
      have hm := mx_mem (f := dp A) (List.getElem_mem h2)
      have q1 : lv A (nodeAt A x).kids[i] * (1 + dp A (nodeAt A x).kids[i]) ≤ lv A (nodeAt A x).kids[i] * (1 + dp A x) := Nat.mul_le_mul_left _ (by omega)
      omega
    have hsum : ∀ (l m : List Int), l.length = m.length → (∀ i (h1 : i < l.length) (h2 : i < m.length), lv A l[i] ≤ lv A m[i] * (1 + dp A x)) → (l.map (lv A)).sum ≤ (m.map (lv A)).sum * (1 + dp A x) := by
      intro l
      induction l with
      | nil => intro m _ _; exact Nat.zero_le _
      | cons a l ih3 =>
        intro m hlm hh
        cases m with
        | nil => simp at hlm
        | cons b m =>
          have h1 := hh 0 (by simp) (by simp)
          have h2 := ih3 m (by simpa using hlm) (fun i q1 q2 => by have := hh (i + 1) (by simpa using q1) (by simpa using q2); simpa using this)
          simp only [List.getElem_cons_zero] at h1
          rw [List.map_cons, List.map_cons, List.sum_cons, List.sum_cons, Nat.add_mul]
          omega
    refine ⟨?_, ?_⟩
    · have := hsum ds (nodeAt A x).kids hl (fun i h1 h2 => (hb i h1 h2).1)
      rw [e3, Nat.zero_add]
      omega
    · have := mx_le (f := dp A) (l := ds) (b := dp A x + 1) (fun d hd' => by
        obtain ⟨i, hi, rfl⟩ := List.getElem_of_mem hd'
        exact (hb i hi (by omega)).2)
      omega
  | int h => intro _ hp; exact absurd h (plainR_unfold.1 hp).1.1
  | comp h => intro _ hp; exact absurd h (plainR_unfold.1 hp).1.2
  | dead h hd ih => intro _ _; rw [(lv0 hA).1, (lv0 hA).2]; omega
  | @star x d z h hd h0 hv ih =>
    intro hx hp
    have hl := len1 hA hx (Or.inr (Or.inl h))
    obtain ⟨a, ek⟩ := (hA.at hx).one (Or.inr (Or.inl h))
    have k0 : kid (nodeAt A x) 0 = a := by unfold kid; rw [ek]; rfl
    have i0 := ih (kid_valid hA hx (by omega)).1 (hp.kid (getD_mem (by omega)))
    have c0 := concat_lv hA hv
    rw [k0] at i0
    have e1 : lf (nodeAt A x) = 0 := by unfold lf; rw [if_neg (by omega)]
    have e2 : dk (nodeAt A x) = 1 := by unfold dk; rw [if_pos (by omega)]
    have e3 : lv A x = lv A a := by rw [lv_unfold hA hx, e1, ek]; simp
    have e4 : dp A x = 1 + dp A a := by
      rw [dp_unfold hA hx, e2, ek]
      have : mx ([a].map (dp A)) = max (dp A a) 0 := rfl
      omega
    refine ⟨?_, by omega⟩
    rw [e3, e4, Nat.mul_add, Nat.mul_one]
    omega
  | @loop x d r z h hd h0 hr hv ih =>
    intro hx hp
    have hl := len1 hA hx (Or.inr (Or.inr h))
    obtain ⟨a, ek⟩ := (hA.at hx).one (Or.inr (Or.inr h))
    have k0 : kid (nodeAt A x) 0 = a := by unfold kid; rw [ek]; rfl
    have v0 := (kid_valid hA hx (i := 0) (by omega)).1
    have i0 := ih v0 (hp.kid (getD_mem (by omega)))
    have c0 := concat_lv hA hv
    have c1 := loop_lv hA v0 hr
    rw [k0] at i0 c1
    have e1 : lf (nodeAt A x) = 0 := by unfold lf; rw [if_neg (by omega)]
    have e2 : dk (nodeAt A x) = 1 := by unfold dk; rw [if_pos (by omega)]
    have e3 : lv A x = lv A a := by rw [lv_unfold hA hx, e1, ek]; simp
    have e4 : dp A x = 1 + dp A a := by
      rw [dp_unfold hA hx, e2, ek]
      have : mx ([a].map (dp A)) = max (dp A a) 0 := rfl
      omega
    refine ⟨?_, by omega⟩
    rw [e3, e4, Nat.mul_add, Nat.mul_one]
    omega
end Go.Proofs.Qxb6500848aGreatDoor.Pl
