/-
  A row is equal to itself: numbers and truth values alone.
-/
import Derived.Test.Qxb6500847aGreatDoorFloorA
import Derived.Laws.StructEq
namespace Go.Proofs.Qxb6500847aGreatDoor.Os
open Go.RowKit FloorA
set_option maxRecDepth 100000
def tagV : Value → Nat
  | .int _ _ => 0
  | .bool _ => 1
  | _ => 2
def aggT (P : Program) (t : TypeId) : Bool := match P.underlying t with
  | some (.struct _) => true
  | some (.array _ _) => true
  | _ => false
def sizT (P : Program) (t : TypeId) : Nat := match P.info? t with
  | some i => i.size
  | none => 0
def prtT (P : Program) (F : TypeId → List Nat → Bool) (t : TypeId) (off : Nat) (ks : List Nat) : Bool :=
  (P.info? t).isSome && F t ((ks.drop off).take (if aggT P t then sizT P t else 1))
/-- Cells of these kinds fill the type. -/
def fitsT (P : Program) : Nat → TypeId → List Nat → Bool
  | 0, _, _ => false
  | d + 1, t, ks => match P.underlying t with
    | some (.int _) => ks == [0]
    | some .bool => ks == [1]
    | some (.struct fs) => !P.stoodInHeld t && fs.toList.all (fun f => prtT P (fitsT P d) f.type f.offset ks)
    | some (.array len e) => (P.info? e).isSome && (List.range' 0 len).all (fun j => prtT P (fitsT P d) e (j * sizT P e) ks)
    | _ => false
def valT (P : Program) (t : TypeId) (cs : List Value) : Value := if aggT P t then .agg cs.toArray else cs.headD .nilIface
theorem run_sizT {P : Program} {t : TypeId} (h : (P.info? t).isSome = true) (w : World) : (sizeOf t).run P w = .ok (sizT P t) w := by
  obtain ⟨i, hi⟩ := Option.isSome_iff_exists.1 h
  simp [sizeOf, typeInfo, sizT, hi]
theorem map_cut (cs : List Value) (off n : Nat) : ((cs.map tagV).drop off).take n = ((cs.drop off).take n).map tagV := by rw [← List.map_drop, ← List.map_take]
theorem one_of {l : List Value} {k : Nat} (h : (l.map tagV == [k]) = true) : ∃ v, l = [v] ∧ tagV v = k := by
  have h' := eq_of_beq h
  match l, h' with
  | [v], h' => exact ⟨v, rfl, by simpa using h'⟩
theorem run_prt {P : Program} {d : Nat} {t : TypeId} {off : Nat} {cs : List Value} (h : prtT P (fitsT P d) t off (cs.map tagV) = true) (w : World) :
    (part t cs.toArray off).run P w = .ok (valT P t ((cs.drop off).take (if aggT P t then sizT P t else 1))) w ∧ fitsT P d t (((cs.drop off).take (if aggT P t then sizT P t else 1)).map tagV) = true := by
  unfold prtT at h
  rw [map_cut, Bool.and_eq_true] at h
  refine ⟨?_, h.2⟩
  have h2 := h.2
  have hs := run_sizT h.1 w
  obtain ⟨d, rfl⟩ : ∃ k, d = k + 1 := by
    match d, h2 with
    | 0, h2 => simp [fitsT] at h2
    | k + 1, _ => exact ⟨k, rfl⟩
  unfold valT part isAgg
  unfold fitsT at h2
  unfold aggT at h2 ⊢
  revert h2
  cases hu : P.underlying t with
  | none => intro h2; simp at h2
  | some u =>
    cases u with
    | int k =>
      intro h2
      simp only [Bool.false_eq_true, if_false] at h2 ⊢
      obtain ⟨v, e, _⟩ := one_of h2
      have e2 : cs[off]? = some v := by
        have : ((cs.drop off).take 1)[0]? = some v := by rw [e]; rfl
        simpa using this
      simp [run_underlying hu, e, e2]
    | bool =>
      intro h2
      simp only [Bool.false_eq_true, if_false] at h2 ⊢
      obtain ⟨v, e, _⟩ := one_of h2
      have e2 : cs[off]? = some v := by
        have : ((cs.drop off).take 1)[0]? = some v := by rw [e]; rfl
        simpa using this
      simp [run_underlying hu, e, e2]
    | struct fs =>
      intro _
      simp [run_underlying hu, hs, List.extract_toArray, List.extract_eq_take_drop]
    | array len e =>
      intro _
      simp [run_underlying hu, hs, List.extract_toArray, List.extract_eq_take_drop]
    | _ => intro h2; simp at h2
theorem eq_self {P : Program} : ∀ (d : Nat) (t : TypeId) (cs : List Value), fitsT P d t (cs.map tagV) = true → ∀ w, (Op.equalIn d t (valT P t cs) (valT P t cs)).run P w = .ok true w
  | 0, _, _, h, _ => by simp [fitsT] at h
  | d + 1, t, cs, h, w => by
    unfold fitsT at h
    revert h
    cases hu : P.underlying t with
    | none => intro h; simp at h
    | some u =>
      cases u with
      | int k =>
        intro h
        obtain ⟨v, rfl, hv⟩ := one_of h
        have ha : aggT P t = false := by unfold aggT; rw [hu]
        unfold valT
        rw [ha]
        match v, hv with
        | .int k2 a, _ => simp [run_equalIn_int w d t k2 k a a hu]
      | bool =>
        intro h
        obtain ⟨v, rfl, hv⟩ := one_of h
        have ha : aggT P t = false := by unfold aggT; rw [hu]
        unfold valT
        rw [ha]
        match v, hv with
        | .bool a, _ => simp [run_equalIn_bool' w d t a a hu]
      | struct fs =>
        intro h
        have h1 : P.stoodInHeld t = false := Bool.not_eq_true' _ ▸ (Bool.and_eq_true _ _ ▸ h).1
        have h2 := (Bool.and_eq_true _ _ ▸ h).2
        have ha : aggT P t = true := by unfold aggT; rw [hu]
        have hf : P.fieldsOf t = fs := by unfold Program.fieldsOf; rw [hu]
        unfold valT
        rw [ha, if_pos rfl, run_equalIn_struct w d t _ _ (by rw [hf]; exact hu) h1, hf]
        generalize fs.toList = l at h2
        clear h
        induction l with
        | nil => simp [Op.eqFields]
        | cons f l ih =>
          rw [List.all_cons, Bool.and_eq_true] at h2
          obtain ⟨hp, hq⟩ := run_prt h2.1 w
          have ih' := ih h2.2
          have hs := eq_self d f.type _ hq w
          unfold Op.eqFields
          by_cases hn : f.name ≠ "_"
          · rw [if_pos hn]
            simp [hp, hs, ih']
          · rw [if_neg hn]
            exact ih'
      | array len e =>
        intro h
        have ha : aggT P t = true := by unfold aggT; rw [hu]
        unfold valT
        rw [ha, if_pos rfl]
        rw [Bool.and_eq_true] at h
        obtain ⟨hi, h2⟩ := h
        simp only [Op.equalIn, Sem.run_bind, run_underlying hu, Result.andThen_ok, run_sizT hi]
        rw [Std.Legacy.Range.forIn_eq_forIn_range']
        simp only [Std.Legacy.Range.size]
        generalize hr : List.range' 0 len = l at h2
        have hr' : List.range' 0 ((len - 0 + 1 - 1) / 1) 1 = l := by rw [← hr]; simp
        rw [hr']
        clear hr hr'
        induction l with
        | nil => simp
        | cons j l ih =>
          rw [List.all_cons, Bool.and_eq_true] at h2
          obtain ⟨hp, hq⟩ := run_prt h2.1 w
          have ih' := ih h2.2
          have hs := eq_self d e _ hq w
          simp only [List.forIn_cons, Sem.run_bind, hp, Result.andThen_ok, hs, Bool.not_true, Bool.false_eq_true, if_false, Sem.run_pure]
          exact ih'
      | _ => intro h; simp at h
end Go.Proofs.Qxb6500847aGreatDoor.Os
