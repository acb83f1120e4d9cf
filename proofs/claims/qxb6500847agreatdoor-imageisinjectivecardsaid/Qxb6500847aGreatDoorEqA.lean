/-
  Two rows of numbers and truth values are compared.
-/
import Derived.Test.Qxb6500847aGreatDoorOxEq
namespace Go.Proofs.Qxb6500847aGreatDoor.Os
open Go.RowKit FloorA
set_option maxRecDepth 100000
def numV : Value → Int
  | .int _ a => a
  | .bool b => if b then 1 else 0
  | _ => 0
def kdV : Value → Option IntKind
  | .int k _ => some k
  | _ => none
/-- The places that are compared. -/
def offT (P : Program) : Nat → TypeId → Nat → List Nat
  | 0, _, _ => []
  | d + 1, t, base => match P.underlying t with
    | some (.int _) => [base]
    | some .bool => [base]
    | some (.struct fs) => fs.toList.flatMap (fun f => if f.name ≠ "_" then offT P d f.type (base + f.offset) else [])
    | some (.array len e) => (List.range' 0 len).flatMap (fun j => offT P d e (base + j * sizT P e))
    | _ => []
def Agr (X X' : List Value) (o : Nat) : Prop := ∃ v v', X[o]? = some v ∧ X'[o]? = some v' ∧ numV v = numV v'
def Kin (cs cs' : List Value) : Prop := ∀ (k : Nat) (v v' : Value), cs[k]? = some v → cs'[k]? = some v' → kdV v = kdV v'
def Sub (cs X : List Value) (base : Nat) : Prop := ∀ (k : Nat) (v : Value), cs[k]? = some v → X[base + k]? = some v
theorem Kin.cut {cs cs' : List Value} (h : Kin cs cs') (o n : Nat) : Kin ((cs.drop o).take n) ((cs'.drop o).take n) := fun k v v' a b => by
  rw [List.getElem?_take] at a b
  by_cases q : k < n
  · rw [if_pos q, List.getElem?_drop] at a b
    exact h _ _ _ a b
  · rw [if_neg q] at a
    cases a
theorem Sub.cut {cs X : List Value} {base : Nat} (h : Sub cs X base) (o n : Nat) : Sub ((cs.drop o).take n) X (base + o) := fun k v a => by
  rw [List.getElem?_take] at a
  by_cases q : k < n
  · rw [if_pos q, List.getElem?_drop] at a
    rw [Nat.add_assoc]
    exact h _ _ a
  · rw [if_neg q] at a
    cases a
theorem prt_fit {P : Program} {d : Nat} {t : TypeId} {off : Nat} {cs : List Value} (h : prtT P (fitsT P d) t off (cs.map tagV) = true) : fitsT P d t (((cs.drop off).take (if aggT P t then sizT P t else 1)).map tagV) = true := by
  unfold prtT at h
  rw [map_cut, Bool.and_eq_true] at h
  exact h.2
theorem eq_any {P : Program} : ∀ (d : Nat) (t : TypeId) (cs cs' : List Value), fitsT P d t (cs.map tagV) = true → fitsT P d t (cs'.map tagV) = true → Kin cs cs' →
    ∃ b, (∀ w, (Op.equalIn d t (valT P t cs) (valT P t cs')).run P w = .ok b w) ∧ (b = true → ∀ base X X', Sub cs X base → Sub cs' X' base → ∀ o ∈ offT P d t base, Agr X X' o)
  | 0, _, _, _, h, _, _ => by simp [fitsT] at h
  | d + 1, t, cs, cs', h, h', hk => by
    unfold fitsT at h h'
    unfold offT
    revert h h'
    cases hu : P.underlying t with
    | none => intro h; simp at h
    | some u =>
      cases u with
      | int k =>
        intro h h'
        obtain ⟨v, rfl, hv⟩ := one_of h
        obtain ⟨v', rfl, hv'⟩ := one_of h'
        have ha : aggT P t = false := by unfold aggT; rw [hu]
        have hkk := hk 0 v v' rfl rfl
        unfold valT
        rw [ha]
        match v, v', hv, hv', hkk with
        | .int k2 a, .int k3 b, _, _, hkk =>
          obtain rfl : k2 = k3 := Option.some.inj hkk
          refine ⟨a == b, fun w => by simp [run_equalIn_int w d t k2 k a b hu], fun hb base X X' s1 s2 o ho => ?_⟩
          obtain rfl : o = base := by simpa using ho
          exact ⟨_, _, s1 0 _ rfl, s2 0 _ rfl, by simpa [numV] using hb⟩
      | bool =>
        intro h h'
        obtain ⟨v, rfl, hv⟩ := one_of h
        obtain ⟨v', rfl, hv'⟩ := one_of h'
        have ha : aggT P t = false := by unfold aggT; rw [hu]
        unfold valT
        rw [ha]
        match v, v', hv, hv' with
        | .bool a, .bool b, _, _ =>
          refine ⟨a == b, fun w => by simp [run_equalIn_bool' w d t a b hu], fun hb base X X' s1 s2 o ho => ?_⟩
          obtain rfl : o = base := by simpa using ho
          obtain rfl : a = b := by simpa using hb
          exact ⟨_, _, s1 0 _ rfl, s2 0 _ rfl, rfl⟩
      | struct fs =>
        intro h h'
        have h1 : P.stoodInHeld t = false := Bool.not_eq_true' _ ▸ (Bool.and_eq_true _ _ ▸ h).1
        have h2 := (Bool.and_eq_true _ _ ▸ h).2
        have h2' := (Bool.and_eq_true _ _ ▸ h').2
        have ha : aggT P t = true := by unfold aggT; rw [hu]
        have hf : P.fieldsOf t = fs := by unfold Program.fieldsOf; rw [hu]
        unfold valT
        rw [ha]
        have key : ∀ w, (Op.equalIn (d + 1) t (.agg cs.toArray) (.agg cs'.toArray)).run P w = (Op.eqFields d cs.toArray cs'.toArray fs.toList).run P w := fun w => by
          rw [run_equalIn_struct w d t _ _ (by rw [hf]; exact hu) h1, hf]
        simp only [if_true, key]
        clear key h h'
        generalize fs.toList = l at h2 h2' ⊢
        induction l with
        | nil => exact ⟨true, fun w => by simp [Op.eqFields], fun _ _ _ _ _ _ o ho => by simp at ho⟩
        | cons f l ih =>
          rw [List.all_cons, Bool.and_eq_true] at h2 h2'
          obtain ⟨b, ih1, ih2⟩ := ih h2.2 h2'.2
          obtain ⟨b1, e1, e2⟩ := eq_any d f.type _ _ (prt_fit h2.1) (prt_fit h2'.1) (hk.cut _ _)
          by_cases hn : f.name ≠ "_"
          · refine ⟨b1 && b, fun w => ?_, fun hb base X X' s1 s2 o ho => ?_⟩
            · unfold Op.eqFields
              rw [if_pos hn]
              simp only [Sem.run_bind, (run_prt h2.1 w).1, (run_prt h2'.1 w).1, Result.andThen_ok, e1 w]
              cases b1
              · simp
              · simp [ih1 w]
            · rw [Bool.and_eq_true] at hb
              rw [List.flatMap_cons, if_pos hn, List.mem_append] at ho
              exact ho.elim (e2 hb.1 _ X X' (s1.cut _ _) (s2.cut _ _) o) (ih2 hb.2 base X X' s1 s2 o)
          · refine ⟨b, fun w => ?_, fun hb base X X' s1 s2 o ho => ?_⟩
            · unfold Op.eqFields
              rw [if_neg hn]
              exact ih1 w
            · rw [List.flatMap_cons, if_neg hn, List.nil_append] at ho
              exact ih2 hb base X X' s1 s2 o ho
      | array len e =>
        intro h h'
        have ha : aggT P t = true := by unfold aggT; rw [hu]
        unfold valT
        rw [ha]
        simp only [if_true]
        rw [Bool.and_eq_true] at h h'
        obtain ⟨hi, h2⟩ := h
        obtain ⟨_, h2'⟩ := h'
        simp only [Op.equalIn, Sem.run_bind, run_underlying hu, Result.andThen_ok, run_sizT hi]
        simp only [Std.Legacy.Range.forIn_eq_forIn_range', Std.Legacy.Range.size]
        generalize hr : List.range' 0 len = l at h2 h2' ⊢
        have hr' : List.range' 0 ((len - 0 + 1 - 1) / 1) 1 = l := by rw [← hr]; simp
        rw [hr']
        clear hr hr'
        induction l with
        | nil => exact ⟨true, fun w => by simp, fun _ _ _ _ _ _ o ho => by simp at ho⟩
        | cons j l ih =>
          rw [List.all_cons, Bool.and_eq_true] at h2 h2'
          obtain ⟨b, ih1, ih2⟩ := ih h2.2 h2'.2
          obtain ⟨b1, e1, e2⟩ := eq_any d e _ _ (prt_fit h2.1) (prt_fit h2'.1) (hk.cut _ _)
          refine ⟨b1 && b, fun w => ?_, fun hb base X X' s1 s2 o ho => ?_⟩
          · simp only [List.forIn_cons, Sem.run_bind, (run_prt h2.1 w).1, (run_prt h2'.1 w).1, Result.andThen_ok, e1 w]
            cases b1
            · simp
            · simp only [Bool.not_true, Bool.false_eq_true, if_false, Sem.run_pure, Result.andThen_ok, Bool.true_and]
              exact ih1 w
          · rw [Bool.and_eq_true] at hb
            rw [List.flatMap_cons, List.mem_append] at ho
            exact ho.elim (e2 hb.1 _ X X' (s1.cut _ _) (s2.cut _ _) o) (ih2 hb.2 base X X' s1 s2 o)
      | _ => intro h; simp at h
end Go.Proofs.Qxb6500847aGreatDoor.Os
