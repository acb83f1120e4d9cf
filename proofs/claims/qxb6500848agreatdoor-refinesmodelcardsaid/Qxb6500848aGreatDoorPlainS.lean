/-
  The plain side: the size of a regex's syntax tree.
-/
import Derived.Test.Qxb6500848aGreatDoorPlain2
namespace Go.Proofs.Qxb6500848aGreatDoor.Pl

def szF (A : List Nd) : Nat → Int → Nat
  | 0, _ => 0
  | n + 1, x => 1 + ((nodeAt A x).kids.map (szF A n)).sum
def sz (A : List Nd) (x : Int) : Nat := szF A (x.toNat + 1) x

theorem map_sum_congr {f g : Int → Nat} : ∀ {l : List Int}, (∀ x ∈ l, f x = g x) → (l.map f).sum = (l.map g).sum
  | [], _ => rfl
  | a :: l, h => by
    rw [List.map_cons, List.map_cons, List.sum_cons, List.sum_cons, h a (List.mem_cons_self ..), map_sum_congr (fun x hx => h x (List.mem_cons_of_mem _ hx))]
theorem szF_eq {A : List Nd} (hA : Wf A) : ∀ (n : Nat) (x : Int), Valid A x → x.toNat < n → szF A n x = sz A x := by
  intro n
  induction n using Nat.strongRecOn with
  | ind n ih =>
    intro x hx hn
    cases n with
    | zero => omega
    | succ n =>
      show 1 + ((nodeAt A x).kids.map (szF A n)).sum = 1 + ((nodeAt A x).kids.map (szF A x.toNat)).sum
      congr 1
      refine map_sum_congr fun k hk => ?_
      obtain ⟨hv, hlt⟩ := hA.kidValid hx hk
      rw [ih n (by omega) k hv (by omega)]
      by_cases e : x.toNat < n + 1
      · rw [ih x.toNat (by omega) k hv hlt]
      · omega
theorem sz_unfold {A : List Nd} (hA : Wf A) {x : Int} (hx : Valid A x) : sz A x = 1 + ((nodeAt A x).kids.map (sz A)).sum := by
  show 1 + ((nodeAt A x).kids.map (szF A x.toNat)).sum = _
  congr 1
  refine map_sum_congr fun k hk => ?_
  obtain ⟨hv, hlt⟩ := hA.kidValid hx hk
  exact szF_eq hA _ k hv hlt
theorem sz_le {A B : List Nd} (hA : Wf A) (hB : Wf B) (hAB : Le A B) : ∀ (n : Nat) (x : Int), x.toNat = n → Valid A x → sz B x = sz A x := by
  intro n
  induction n using Nat.strongRecOn with
  | ind n ih =>
    intro x hn hx
    subst hn
    rw [sz_unfold hA hx, sz_unfold hB (hAB.valid hx), hAB.node hx]
    congr 1
    refine map_sum_congr fun k hk => ?_
    obtain ⟨hv, hlt⟩ := hA.kidValid hx hk
    exact ih k.toNat hlt k rfl hv
theorem sum_mem {f : Int → Nat} : ∀ {l : List Int} {x : Int}, x ∈ l → f x ≤ (l.map f).sum
  | a :: l, x, h => by
    rw [List.map_cons, List.sum_cons]
    rcases List.mem_cons.1 h with rfl | h
    · omega
    · have := sum_mem (f := f) h
      omega
theorem sz_kid {A : List Nd} (hA : Wf A) {x k : Int} (hx : Valid A x) (hk : k ∈ (nodeAt A x).kids) : sz A k < sz A x := by
  rw [sz_unfold hA hx]
  have := sum_mem (f := sz A) hk
  omega
theorem sz_low {A : List Nd} (hA : Wf A) {x : Int} (hx : Valid A x) (h : (nodeAt A x).kids = []) : sz A x = 1 := by rw [sz_unfold hA hx, h]; rfl
theorem sz_pos {A : List Nd} (hA : Wf A) {x : Int} (hx : Valid A x) : 1 ≤ sz A x := by rw [sz_unfold hA hx]; omega
theorem sz0 {A : List Nd} (hA : Wf A) : sz A 0 = 1 := sz_low hA hA.v0 (by rw [hA.at0]; rfl)
theorem sz1 {A : List Nd} (hA : Wf A) : sz A 1 = 1 := sz_low hA hA.v1 (by rw [hA.at1])
theorem sz2 {A : List Nd} (hA : Wf A) : sz A 2 = 1 := sz_low hA hA.v2 (by rw [hA.at2])

/-- A register: small. -/
def Sm (A : List Nd) (r : Int) : Prop := Valid A r ∧ sz A r ≤ 18
theorem Sm.le {A B : List Nd} {r : Int} (h : Sm A r) (hA : Wf A) (hB : Wf B) (hAB : Le A B) : Sm B r := ⟨hAB.valid h.1, by rw [sz_le hA hB hAB _ r rfl h.1]; exact h.2⟩

theorem sub_sum {f : Int → Nat} : ∀ {p l : List Int}, p.Nodup → (∀ x ∈ p, x ∈ l) → (p.map f).sum ≤ (l.map f).sum
  | [], l, _, _ => Nat.zero_le _
  | a :: p, l, hn, hs => by
    obtain ⟨h1, h2⟩ := List.nodup_cons.1 hn
    obtain ⟨s, t, rfl⟩ := List.append_of_mem (hs a (List.mem_cons_self ..))
    have := sub_sum (f := f) (p := p) (l := s ++ t) h2 (fun x hx => by
      have hne : x ≠ a := fun e => h1 (e ▸ hx)
      rcases List.mem_append.1 (hs x (List.mem_cons_of_mem _ hx)) with h | h
      · exact List.mem_append_left _ h
      · rcases List.mem_cons.1 h with h | h
        · exact absurd h hne
        · exact List.mem_append_right _ h)
    simp only [List.map_cons, List.map_append, List.sum_cons, List.sum_append] at this ⊢
    omega
theorem parts_sz {A : List Nd} (hA : Wf A) (kind unit : Int) : ∀ {xs : List Int}, (∀ x ∈ xs, Valid A x) → ((parts A kind unit xs).map (sz A)).sum ≤ (xs.map (sz A)).sum
  | [], _ => Nat.le_refl _
  | x :: xs, h => by
    have ih := parts_sz hA kind unit (xs := xs) (fun y hy => h y (List.mem_cons_of_mem _ hy))
    have hu := sz_unfold hA (h x (List.mem_cons_self ..))
    unfold parts at *
    rw [List.flatMap_cons, List.map_append, List.sum_append, List.map_cons, List.sum_cons]
    split
    · omega
    · split
      · simp only [List.map_cons, List.map_nil, List.sum_cons, List.sum_nil]; omega
      · simp only [List.map_nil, List.sum_nil]; omega
theorem rising_nodup {l : List Int} (h : l.Pairwise (· < ·)) : l.Nodup := h.imp (fun {a b} h => by omega)
theorem flat_sz {A : List Nd} (hA : Wf A) (kind unit : Int) {xs : List Int} (h : ∀ x ∈ xs, Valid A x) : ((flat A kind unit xs).map (sz A)).sum ≤ (xs.map (sz A)).sum :=
  Nat.le_trans (sub_sum (rising_nodup flat_rising) (fun _ hx => mem_flat.1 hx)) (parts_sz hA kind unit h)

theorem concat_sz {A : List Nd} (hA : Wf A) {x y z : Int} (h : Val A (concatN x y) z) : sz A z ≤ sz A x + sz A y + 1 := by
  have h0 := sz0 hA
  unfold concatN at h
  split at h
  · rw [← h.1, h0]; omega
  · split at h
    · rw [← h.1]; omega
    · split at h
      · rw [← h.1]; omega
      · rw [sz_unfold hA h.1, h.2]
        simp only [List.map_cons, List.map_nil, List.sum_cons, List.sum_nil]
        omega
theorem union_sz {A : List Nd} (hA : Wf A) {xs : List Int} (hx : ∀ x ∈ xs, Valid A x) {z : Int} (h : Val A (unionN A xs) z) : sz A z ≤ 1 + (xs.map (sz A)).sum := by
  have h0 := sz0 hA
  have h2 := sz2 hA
  have hf := flat_sz hA 5 0 hx
  unfold unionN at h
  simp only at h
  split at h
  · rw [← h.1, h2]; omega
  · split at h
    · rw [← h.1, h0]; omega
    · split at h
      · rename_i h1
        obtain ⟨a, e⟩ := List.length_eq_one_iff.1 h1
        rw [e] at h hf
        have ez : a = z := h.1
        rw [← ez]
        simp only [List.map_cons, List.map_nil, List.sum_cons, List.sum_nil] at hf
        omega
      · rw [sz_unfold hA h.1, h.2]
        exact Nat.add_le_add_left hf 1
theorem inter_sz {A : List Nd} (hA : Wf A) {xs : List Int} (hx : ∀ x ∈ xs, Valid A x) {z : Int} (h : Val A (interN A xs) z) : sz A z ≤ 1 + (xs.map (sz A)).sum := by
  have h0 := sz0 hA
  have h2 := sz2 hA
  have hf := flat_sz hA 6 2 hx
  unfold interN at h
  simp only at h
  split at h
  · rw [← h.1, h0]; omega
  · split at h
    · rw [← h.1, h2]; omega
    · split at h
      · rename_i h1
        obtain ⟨a, e⟩ := List.length_eq_one_iff.1 h1
        rw [e] at h hf
        have ez : a = z := h.1
        rw [← ez]
        simp only [List.map_cons, List.map_nil, List.sum_cons, List.sum_nil] at hf
        omega
      · rw [sz_unfold hA h.1, h.2]
        exact Nat.add_le_add_left hf 1
theorem comp_sz {A : List Nd} (hA : Wf A) {x z : Int} (hx : Valid A x) (h : Val A (compN A x) z) : sz A z ≤ 1 + sz A x := by
  have h0 := sz0 hA
  have h2 := sz2 hA
  unfold compN at h
  split at h
  · rw [← h.1, h2]; omega
  · split at h
    · rw [← h.1, h0]; omega
    · split at h
      · rename_i h7
        have hl := len1 hA hx (Or.inl h7)
        have hm : kid (nodeAt A x) 0 ∈ (nodeAt A x).kids := getD_mem (by omega)
        have := sz_kid hA hx hm
        have ez : kid (nodeAt A x) 0 = z := h.1
        rw [← ez]; omega
      · rw [sz_unfold hA h.1, h.2]
        simp only [List.map_cons, List.map_nil, List.sum_cons, List.sum_nil]
        omega
theorem star_sz {A : List Nd} (hA : Wf A) {x z : Int} (h : Val A (starN A x) z) : sz A z ≤ 1 + sz A x := by
  have h1 := sz1 hA
  have h2 := sz2 hA
  unfold starN at h
  split at h
  · rw [← h.1, h1]; omega
  · split at h
    · rw [← h.1]; omega
    · split at h
      · rw [← h.1, h2]; omega
      · rw [sz_unfold hA h.1, h.2]
        simp only [List.map_cons, List.map_nil, List.sum_cons, List.sum_nil]
        omega
theorem loop_sz {A : List Nd} (hA : Wf A) {x lo hi z : Int} (h : Val A (loopN A x lo hi) z) : sz A z ≤ 1 + sz A x := by
  have h0 := sz0 hA
  have h1 := sz1 hA
  unfold loopN at h
  split at h
  · rw [← h.1, h0]; omega
  · split at h
    · rw [← h.1, h1]; omega
    · split at h
      · rw [← h.1, h1]; omega
      · split at h
        · rw [← h.1, h0]; omega
        · split at h
          · rw [← h.1]; omega
          · split at h
            · rw [← h.1]; omega
            · split at h
              · exact star_sz hA h
              · rw [sz_unfold hA h.1, h.2]
                simp only [List.map_cons, List.map_nil, List.sum_cons, List.sum_nil]
                omega

/-! ### what a step of build makes -/
section
variable {A A' : List Nd} {r s z : Int}
theorem mk_concat (hA : Wf A) (hr : Sm A r) (hs : Sm A s) (hAB : Le A A') (hB : Wf A') (h : Val A' (concatN r s) z) : sz A' z ≤ 100 := by
  have h1 := concat_sz hB h
  have h2 := (hr.le hA hB hAB).2
  have h3 := (hs.le hA hB hAB).2
  omega
theorem pair_valid (hr : Valid A r) (hs : Valid A s) : ∀ x ∈ [r, s], Valid A x := fun x hx => by
  rcases List.mem_cons.1 hx with rfl | hx
  · exact hr
  · rw [List.mem_singleton.1 hx]; exact hs
theorem mk_union (hA : Wf A) (hr : Sm A r) (hs : Sm A s) (hAB : Le A A') (hB : Wf A') (h : Val A' (unionN A [r, s]) z) : sz A' z ≤ 100 := by
  rw [← unionN_le hAB (pair_valid hr.1 hs.1)] at h
  have h1 := union_sz hB (pair_valid (hAB.valid hr.1) (hAB.valid hs.1)) h
  have h2 := (hr.le hA hB hAB).2
  have h3 := (hs.le hA hB hAB).2
  simp only [List.map_cons, List.map_nil, List.sum_cons, List.sum_nil] at h1
  omega
theorem mk_inter (hA : Wf A) (hr : Sm A r) (hs : Valid A s ∧ sz A s ≤ 60) (hAB : Le A A') (hB : Wf A') (h : Val A' (interN A [r, s]) z) : sz A' z ≤ 100 := by
  rw [← interN_le hAB (pair_valid hr.1 hs.1)] at h
  have h1 := inter_sz hB (pair_valid (hAB.valid hr.1) (hAB.valid hs.1)) h
  have h2 := (hr.le hA hB hAB).2
  have h3 := hs.2
  rw [← sz_le hA hB hAB _ s rfl hs.1] at h3
  simp only [List.map_cons, List.map_nil, List.sum_cons, List.sum_nil] at h1
  omega
theorem Sm.sixty (h : Sm A s) : Valid A s ∧ sz A s ≤ 60 := ⟨h.1, by have := h.2; omega⟩
theorem mk_comp (hA : Wf A) (hr : Sm A r) (hAB : Le A A') (hB : Wf A') (h : Val A' (compN A r) z) : sz A' z ≤ 60 := by
  rw [← compN_le hAB hr.1] at h
  have h1 := comp_sz hB (hAB.valid hr.1) h
  have h2 := (hr.le hA hB hAB).2
  omega
theorem mk_star (hA : Wf A) (hr : Sm A r) (hAB : Le A A') (hB : Wf A') (h : Val A' (starN A r) z) : sz A' z ≤ 60 := by
  rw [← starN_le hAB hr.1] at h
  have h1 := star_sz hB h
  have h2 := (hr.le hA hB hAB).2
  omega
theorem mk_loop (hA : Wf A) (hr : Sm A r) {lo hi : Int} (hAB : Le A A') (hB : Wf A') (h : Val A' (loopN A r lo hi) z) : sz A' z ≤ 60 := by
  rw [← loopN_le hAB hr.1] at h
  have h1 := loop_sz hB h
  have h2 := (hr.le hA hB hAB).2
  omega
end
end Go.Proofs.Qxb6500848aGreatDoor.Pl
