/-
  Encode: the floor, the place of an entry.
-/
import Derived.Test.Qxb6500847aGreatDoorOsPg
import Derived.Test.Qxb6500847aGreatDoorOsEa
import Derived.Test.Qxb6500847aGreatDoorFloorG
namespace Go.Proofs.Qxb6500847aGreatDoor.Os
open Go.RowKit FloorA
set_option maxRecDepth 100000
/-- The varints of a list of numbers. -/
def eN (l : List Nat) : List Int := l.flatMap uvs
theorem eN_append (a b : List Nat) : eN (a ++ b) = eN a ++ eN b := by unfold eN; rw [List.flatMap_append]
theorem eN_one (a : Nat) : eN [a] = uvs a := by unfold eN; simp
theorem eN_len : ∀ {l : List Nat}, (∀ x ∈ l, x < 18446744073709551616) → (eN l).length ≤ 10 * l.length
  | [], _ => by simp [eN]
  | a :: l, h => by
    have h1 := uvs_len (h a (List.mem_cons_self ..))
    have h2 := eN_len (l := l) (fun x hx => h x (List.mem_cons_of_mem _ hx))
    have e : eN (a :: l) = uvs a ++ eN l := by unfold eN; rw [List.flatMap_cons]
    rw [e, List.length_append, List.length_cons]
    omega
/-- The least generation of the first k entries, and of the first. -/
def flG (s : Av) : Nat → Int
  | 0 => (s.hd 0).gen
  | k + 1 => if flG s k ≤ (s.hd k).gen then flG s k else (s.hd k).gen
theorem flG_mem (s : Av) : ∀ k, k ≤ 320 → ∃ x, x < 320 ∧ flG s k = (s.hd x).gen
  | 0, _ => ⟨0, by omega, rfl⟩
  | k + 1, h => by
    unfold flG
    split
    · exact flG_mem s k (by omega)
    · exact ⟨k, by omega, rfl⟩
theorem flG_le (s : Av) : ∀ k x, x < k → flG s k ≤ (s.hd x).gen
  | 0, x, h => absurd h (Nat.not_lt_zero _)
  | k + 1, x, h => by
    unfold flG
    by_cases e : x = k
    · subst e
      split
      · assumption
      · exact Int.le_refl _
    · have := flG_le s k x (by omega)
      split
      · exact this
      · omega
section
variable {A : Nat} {rb sb : Nat → Nat} {s : Av} {tl : Nat → List Int} {ws : Nat → Nat → Nat → Int} {w w' : World} {L : Nat → List Nat} {n : Nat}
/-- The store stays where only blocks from base on turn. -/
theorem Ms.belowB {base : Nat} (h : Ms w A rb sb s tl ws) (k : Below base w w') (hT : ∀ b, Tz A rb sb b → b < base) : Ms w' A rb sb s tl ws :=
  h.ext (T := fun b => base ≤ b) ⟨k.os, k.tape, k.output, k.size, fun q _ hq => k.block q (by omega)⟩ (fun b hb => by have := hT b hb; omega)
theorem Am.belowB {base : Nat} (h : Am w A s) (k : Below base w w') (hT : A < base) : Am w' A s :=
  h.ext (T := fun b => base ≤ b) ⟨k.os, k.tape, k.output, k.size, fun q _ hq => k.block q (by omega)⟩ (by omega)
theorem Gr.belowO {base : Nat} {b b' : Value} {bs : List Int} (h : Gr w w' b.ownBlock b'.ownBlock) (ho : Own base w b bs) (hB : base ≤ w.heap.size) : Below base w w' := h.below (fun k e => ho.above k e) hB
set_option maxHeartbeats 1600000 in
theorem floorGen_walk (hA : Am w A s) : Calls Tryz.prog 232 #[.pointer (some ⟨A, 0, none⟩)] w fun e w' => e = .returned (.int .u32 (flG s 320)) ∧ w' = w := by
  have e0 := hA.gen (i := 0) (by omega)
  have HA := hideIt hA
  clear hA
  go_enter Tryz.func232, Tryz.ntmps232
  go_wp2_with fail
  go_loopw [3, 11] (fun v3 v11 wr => ∃ k : Nat, k ≤ 320 ∧ v11 = .int .i64 (k : Int) ∧ v3 = .int .u32 (flG s k) ∧ wr = w) (fun _ v11 _ => 320 - (intOf v11).toNat)
  case atStart => exact ⟨0, by omega, rfl, rfl, rfl⟩
  case round =>
    obtain ⟨k, hk, rfl, rfl, rfl⟩ := hrel
    by_cases hlt : k < 320
    · have hlt' : (k : Int) < 320 := by omega
      have ek := HA.out.gen hlt
      have HS : Hid (flG s (k + 1) = if flG s k ≤ (s.hd k).gen then flG s k else (s.hd k).gen) := rfl
      generalize flG s k = x at *
      generalize (s.hd k).gen = y at *
      clear e0
      go_wp2_with fail
      exact ⟨⟨k + 1, by omega, by go_num, by rw [HS.out, Int.min_def], trivial⟩, by simp [intOf]; omega⟩
    · obtain rfl : k = 320 := by omega
      go_wp2_with fail
      go_ret
      exact ⟨rfl, rfl⟩
/-- Where an entry lies, as numbers. -/
def shT (z : Int) : Nat := (tzF tabC z.toNat).toNat
def whN (h : Hd) : List Nat := if h.par = 65535 then [0, h.bas.toNat, h.siz.toNat] else [(h.par - 256).toNat + 1] ++ (if h.typ = 1 then [shT h.siz] else []) ++ [h.bas.toNat / 2 ^ shT h.siz]
def ApPost (base : Nat) (b : Value) (bs more : List Int) (w : World) (e : Ending) (w' : World) : Prop := ∃ b', e = .returned b' ∧ Own base w' b' (bs ++ more) ∧ Gr w w' b.ownBlock b'.ownBlock
theorem tzC_bd (x : Nat) (hx : x < 2 ^ 64) : 0 ≤ tzF tabC x ∧ tzF tabC x ≤ 64 := by
  by_cases h : x = 0
  · subst h; unfold tzF; rw [if_pos rfl]; omega
  · obtain ⟨k, m, e⟩ := low_bit x h
    have := (low_and e hx).1
    rw [tz_ok tabC_ok e hx]
    omega
set_option maxHeartbeats 4000000 in
theorem appendWhere_walk {base i : Nat} {b : Value} {bs : List Int} (hA : Am w A s) (hi : i < 320) (hp : (s.hd i).par = 65535 ∨ ∃ p : Nat, 256 ≤ p ∧ p < 320 ∧ (s.hd i).par = (p : Int)) (hz : 0 ≤ (s.hd i).bas ∧ (s.hd i).bas < 18446744073709551616 ∧ 0 ≤ (s.hd i).siz ∧ (s.hd i).siz < 18446744073709551616) (hg : Gd tabC w) (gl : 3 < base) (la : A < base) (ho : Own base w b bs) (hl : bs.length ≤ 90000000) (hb : base ≤ w.heap.size) :
    Calls Tryz.prog 233 #[.pointer (some ⟨A, 0, none⟩), b, .pointer (some ⟨A, i * 8, none⟩)] w (ApPost base b bs (eN (whN (s.hd i))) w) := by
  have e3 := hA.par hi
  have i' : (i : Int) < 320 := by omega
  obtain ⟨bn, hbn⟩ := Int.eq_ofNat_of_zero_le hz.1
  obtain ⟨zn, hzn⟩ := Int.eq_ofNat_of_zero_le hz.2.2.1
  have HA := hideIt hA
  have HO := hideIt ho
  have HG : Hid (Gd tabC w) := hg
  have HU : Hid (∀ (w1 : World) (b1 : Value) (more : List Int) (v : Nat) (x : Int), x = (v : Int) → v < 18446744073709551616 → more.length ≤ 100 → Own base w1 b1 (bs ++ more) → Gr w w1 b.ownBlock b1.ownBlock → Calls Tryz.prog 120 #[b1, .int .u64 x] w1 (fun e w2 => ∃ b2, e = .returned b2 ∧ Own base w2 b2 (bs ++ (more ++ uvs v)) ∧ Gr w w2 b.ownBlock b2.ownBlock ∧ Am w2 A s ∧ Gd tabC w2)) := fun w1 b1 more v x hx hv hm ho1 hg1 => by
    subst hx
    refine (uvar_walk base b1 (bs ++ more) v w1 hv ho1 (by unfold big; rw [List.length_append]; omega) (Nat.le_trans hb hg1.grown.size)).mono ?_
    rintro e w2 ⟨b2, rfl, h1, h2⟩
    have g2 := hg1.trans h2
    have bb := Gr.belowO g2 HO.out hb
    exact ⟨b2, rfl, by rw [← List.append_assoc]; exact h1, g2, HA.out.belowB bb la, HG.out.below bb gl⟩
  have hw1 := uvs_len (v := bn) (by omega)
  have hw2 := uvs_len (v := zn) (by omega)
  rcases hp with hp | ⟨p, p1, p2, hp⟩
  · rw [hp] at e3
    have HF : Hid (eN (whN (s.hd i)) = [] ++ uvs 0 ++ uvs bn ++ uvs zn) := by
      show _ = _
      unfold whN eN
      rw [if_pos hp, hbn, hzn]
      simp
    clear hA ho hg
    go_enter Tryz.func233, Tryz.ntmps233
    go_wp2_with fail
    go_at_call 120
    refine (HU.out w b [] 0 0 rfl (by omega) (by simp) (by rw [List.append_nil]; exact HO.out) (Gr.refl _ _)).mono ?_
    rintro e w1 ⟨b1, rfl, o1, g1, am1, gd1⟩
    have e6 := am1.bas hi
    rw [hbn] at e6
    obtain ⟨ad1, cp1, rfl⟩ := OwnK.shape o1
    have O1 := hideIt o1
    have G1 := hideIt g1
    clear o1 g1 am1 gd1 e3
    generalize (bs ++ ([] ++ uvs 0)).length = l1 at *
    go_wp2_with fail
    go_at_call 120
    refine (HU.out w1 _ ([] ++ uvs 0) bn _ rfl (by omega) (by rw [uvs_lo (by omega)]; simp) O1.out G1.out).mono ?_
    rintro e w2 ⟨b2, rfl, o2, g2, am2, gd2⟩
    have e7 := am2.siz hi
    rw [hzn] at e7
    obtain ⟨ad2, cp2, rfl⟩ := OwnK.shape o2
    have O2 := hideIt o2
    have G2 := hideIt g2
    clear o2 g2 am2 gd2 e6
    generalize (bs ++ ([] ++ uvs 0 ++ uvs bn)).length = l2 at *
    go_wp2_with fail
    go_at_call 120
    refine (HU.out w2 _ ([] ++ uvs 0 ++ uvs bn) zn _ rfl (by omega) (by rw [uvs_lo (v := 0) (by omega)]; simp; omega) O2.out G2.out).mono ?_
    rintro e w3 ⟨b3, rfl, o3, g3, am3, gd3⟩
    obtain ⟨ad3, cp3, rfl⟩ := OwnK.shape o3
    have O3 := hideIt o3
    have G3 := hideIt g3
    clear o3 g3 am3 gd3 e7
    have HE : Hid (ApPost base b bs (eN (whN (s.hd i))) w (.returned (.slice ad3 (bs ++ ([] ++ uvs 0 ++ uvs bn ++ uvs zn)).length cp3)) w3) := ⟨_, rfl, by rw [HF.out]; exact O3.out, G3.out⟩
    clear HF
    generalize (bs ++ ([] ++ uvs 0 ++ uvs bn ++ uvs zn)).length = l3 at *
    go_wp2_with fail
    exact bodyPost_ret (by simp [results, Tryz.results233]) rfl HE.out
  · rw [hp] at e3
    have e7 := hA.siz hi
    rw [hzn] at e7
    obtain ⟨t0, t1⟩ := tzC_bd zn (by omega)
    have HTZ := hideIt (tz_walk tabC_bd zn (by omega) hg)
    obtain ⟨sh, hsh⟩ := Int.eq_ofNat_of_zero_le t0
    rw [hsh] at HTZ t0 t1
    have HSH : Hid (shT (s.hd i).siz = sh) := by
      show _ = _
      unfold shT
      rw [hzn, Int.toNat_natCast, hsh]
      rfl
    have kn : ((p : Int) == 65535) = false := by rw [beq_eq_false_iff_ne]; omega
    have ip : IntKind.u16.wrap ((p : Int) - 256) = (p : Int) - 256 := by unfold IntKind.wrap; simp [IntKind.bits, IntKind.signed]; omega
    have ipn : (p : Int) - 256 = ((p - 256 : Nat) : Int) := by omega
    have HQ : Hid (bn / 2 ^ sh < 18446744073709551616) := Nat.lt_of_le_of_lt (Nat.div_le_self _ _) (by omega)
    have hw3 := uvs_len (v := p - 256 + 1) (by omega)
    have hw4 := uvs_len (v := sh) (by omega)
    clear hA ho hg hsh
    go_enter Tryz.func233, Tryz.ntmps233
    go_wp2_with fail
    go_at_call 237
    refine HTZ.out.mono ?_
    rintro e w' ⟨rfl, hw'⟩
    obtain rfl := hw'.symm
    clear hw'
    go_wp2_with fail
    go_at_call 120
    refine (HU.out w b [] (p - 256 + 1) _ (by omega) (by omega) (by simp) (by rw [List.append_nil]; exact HO.out) (Gr.refl _ _)).mono ?_
    rintro e w1 ⟨b1, rfl, o1, g1, am1, gd1⟩
    have e1 := am1.typ hi
    have e6 := am1.bas hi
    rw [hbn] at e6
    obtain ⟨ad1, cp1, rfl⟩ := OwnK.shape o1
    have O1 := hideIt o1
    have G1 := hideIt g1
    clear o1 g1 am1 gd1 e3 e7
    generalize (bs ++ ([] ++ uvs (p - 256 + 1))).length = l1 at *
    by_cases ht : (s.hd i).typ = 1
    · rw [ht] at e1
      have HF : Hid (eN (whN (s.hd i)) = [] ++ uvs (p - 256 + 1) ++ uvs sh ++ uvs (bn / 2 ^ sh)) := by
        show _ = _
        have e : ((p : Int) - 256).toNat = p - 256 := by omega
        unfold whN eN
        rw [if_neg (by rw [hp]; omega), if_pos ht, HSH.out, hbn, hp, e]
        simp
      clear ht
      go_wp2_with fail
      go_at_call 120
      refine (HU.out w1 _ ([] ++ uvs (p - 256 + 1)) sh _ rfl (by omega) (by simp; omega) O1.out G1.out).mono ?_
      rintro e w2 ⟨b2, rfl, o2, g2, am2, gd2⟩
      have e62 := am2.bas hi
      rw [hbn] at e62
      obtain ⟨ad2, cp2, rfl⟩ := OwnK.shape o2
      have O2 := hideIt o2
      have G2 := hideIt g2
      clear o2 g2 am2 gd2 e1 e6
      generalize (bs ++ ([] ++ uvs (p - 256 + 1) ++ uvs sh)).length = l2 at *
      go_wp2_with fail
      go_at_call 120
      refine (HU.out w2 _ ([] ++ uvs (p - 256 + 1) ++ uvs sh) (bn / 2 ^ sh) _ ?_ HQ.out (by simp; omega) O2.out G2.out).mono ?_
      · rw [Int.natCast_ediv, Int.natCast_pow]; rfl
      · rintro e w9 ⟨b9, rfl, o9, g9, am9, gd9⟩
        obtain ⟨ad9, cp9, rfl⟩ := OwnK.shape o9
        have O9 := hideIt o9
        have G9 := hideIt g9
        clear o9 g9 am9 gd9
        have HE : Hid (ApPost base b bs (eN (whN (s.hd i))) w (.returned (.slice ad9 (bs ++ ([] ++ uvs (p - 256 + 1) ++ uvs sh ++ uvs (bn / 2 ^ sh))).length cp9)) w9) := ⟨_, rfl, by rw [HF.out]; exact O9.out, G9.out⟩
        clear HF
        generalize (bs ++ ([] ++ uvs (p - 256 + 1) ++ uvs sh ++ uvs (bn / 2 ^ sh))).length = l9 at *
        go_wp2_with fail
        exact bodyPost_ret (by simp [results, Tryz.results233]) rfl HE.out
    · have kt : ((s.hd i).typ == 1) = false := by rw [beq_eq_false_iff_ne]; exact ht
      have HF : Hid (eN (whN (s.hd i)) = [] ++ uvs (p - 256 + 1) ++ uvs (bn / 2 ^ sh)) := by
        show _ = _
        have e : ((p : Int) - 256).toNat = p - 256 := by omega
        unfold whN eN
        rw [if_neg (by rw [hp]; omega), if_neg ht, HSH.out, hbn, hp, e]
        simp
      clear ht
      go_wp2_with fail
      go_at_call 120
      refine (HU.out w1 _ ([] ++ uvs (p - 256 + 1)) (bn / 2 ^ sh) _ ?_ HQ.out (by simp; omega) O1.out G1.out).mono ?_
      · rw [Int.natCast_ediv, Int.natCast_pow]; rfl
      · rintro e w9 ⟨b9, rfl, o9, g9, am9, gd9⟩
        obtain ⟨ad9, cp9, rfl⟩ := OwnK.shape o9
        have O9 := hideIt o9
        have G9 := hideIt g9
        clear o9 g9 am9 gd9
        have HE : Hid (ApPost base b bs (eN (whN (s.hd i))) w (.returned (.slice ad9 (bs ++ ([] ++ uvs (p - 256 + 1) ++ uvs (bn / 2 ^ sh))).length cp9)) w9) := ⟨_, rfl, by rw [HF.out]; exact O9.out, G9.out⟩
        clear HF
        generalize (bs ++ ([] ++ uvs (p - 256 + 1) ++ uvs (bn / 2 ^ sh))).length = l9 at *
        go_wp2_with fail
        exact bodyPost_ret (by simp [results, Tryz.results233]) rfl HE.out
end
end Go.Proofs.Qxb6500847aGreatDoor.Os
