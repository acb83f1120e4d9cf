/-
  Decode: where.
-/
import Derived.Test.Qxb6500847aGreatDoorOsDb
namespace Go.Proofs.Qxb6500847aGreatDoor.Os
open Go.RowKit FloorA
set_option maxRecDepth 100000
theorem shT_pow (k : Nat) (hk : k ≤ 47) : shT ((2 ^ k : Nat) : Int) = k := by
  unfold shT
  rw [Int.toNat_natCast, tz_ok tabC_ok (k := k) (m := 0) (by simp) (Nat.pow_lt_pow_right (by omega) (by omega))]
  rfl
section
variable {D A g cap : Nat} {N rest : List Nat} {w w' : World}
theorem Rn.not_flt (h : Rn D A g cap N rest w) : ¬ Flt D A w := fun q => by
  obtain ⟨⟨b, _, _, h1, _⟩, _⟩ := q
  rw [h.err] at h1
  cases h1
/-- The reader, or a fault. -/
def Rf (D A g cap : Nat) (N rest : List Nat) (w : World) : Prop := Rn D A g cap N rest w ∨ Flt D A w
theorem Rf.lt (h : Rf D A g cap N rest w) : D < w.heap.size := by
  rcases h with h | ⟨⟨b, _, _, h1, _⟩, _⟩
  · exact h.lt
  · exact cell_lt h1
def NaPost (D A g cap : Nat) (N : List Nat) (v : Nat) (rest : List Nat) (most : Int) (w : World) (e : Ending) (w' : World) : Prop :=
  Ext w.heap.size (fun b => b = D) w w' ∧ ∃ x : Nat, e = .returned (.int .u64 (x : Int)) ∧ x < 18446744073709551616 ∧ ((x = v ∧ (v : Int) ≤ most ∧ Rn D A g cap N (v :: rest) w ∧ Rn D A g cap N rest w') ∨ (x = 0 ∧ Flt D A w'))
theorem num_any {v : Nat} (h : Rf D A g cap N (v :: rest) w) (what : ByteArray) (most : Int) (hws : what.size ≤ 100) :
    Calls Tryz.prog 103 #[.pointer (some ⟨D, 0, none⟩), .string what, .int .u64 most] w (NaPost D A g cap N v rest most w) := by
  rcases h with h | h
  · refine (num_walk h what most hws).mono ?_
    rintro e w' ⟨hx, ⟨k1, rfl, k2⟩ | ⟨_, rfl, k2⟩⟩
    · exact ⟨hx, v, rfl, h.sm v (by obtain ⟨pre, e, _⟩ := h.rd; rw [e]; simp), Or.inl ⟨rfl, k1, h, k2⟩⟩
    · exact ⟨hx, 0, rfl, by omega, Or.inr ⟨rfl, k2⟩⟩
  · refine (number_dead h what most).mono ?_
    rintro e w' ⟨rfl, rfl⟩
    exact ⟨Ext.refl _ _ _, 0, rfl, by omega, Or.inr ⟨rfl, h⟩⟩
theorem fail_rf (h : Rf D A g cap N rest w) (at' : Int) (reason : ByteArray) :
    Calls Tryz.prog 104 #[.pointer (some ⟨D, 0, none⟩), .int .i64 at', .string reason] w (FaPost D A w) := by
  rcases h with h | h
  · exact h.fail at' reason
  · refine (fail_again h at' reason).mono ?_
    rintro e w' ⟨rfl, rfl⟩
    exact ⟨rfl, h, Ext.refl _ _ _⟩
theorem Rf.pos (h : Rf D A g cap N rest w) : ∃ p : Int, w.cell? ⟨D, 1, none⟩ = some (.int .i64 p) := by
  rcases h with h | h
  · obtain ⟨p, hp, _⟩ := h.pos
    exact ⟨_, hp⟩
  · exact h.pos
/-- What where reads. -/
def WhPost (D A g cap : Nat) (N : List Nat) (h : Hd) (rest : List Nat) (w : World) (e : Ending) (w' : World) : Prop :=
  Ext w.heap.size (fun b => b = D) w w' ∧ ((Flt D A w' ∧ ∃ p b z : Int, e = .returned (.tuple #[.int .u16 p, .int .u64 b, .int .u64 z])) ∨
    (Rn D A g cap N rest w' ∧ ∃ b z : Nat, e = .returned (.tuple #[.int .u16 h.par, .int .u64 (b : Int), .int .u64 (z : Int)]) ∧ b < 18446744073709551616 ∧ z < 18446744073709551616 ∧ (h.par = 65535 → h.typ = 1 ∧ 0 < z ∧ b + z ≤ 281474976710656) ∧ ∀ h' : Hd, h'.par = h.par → h'.typ = h.typ → h'.bas = (b : Int) → h'.siz = (z : Int) → whN h' = whN h))
set_option maxHeartbeats 8000000 in
theorem where_walk {h : Hd} {t : Nat} (hR : Rn D A g cap N (whN h ++ rest) w) (hK : Kd w) (kl : 1 < w.heap.size) (kD : 1 ≠ D) (ht : h.typ = (t : Int)) (t1 : 1 ≤ t) (t7 : t ≤ 7) (hp : h.par = 65535 ∨ ∃ p : Nat, 256 ≤ p ∧ p < 320 ∧ h.par = (p : Int)) (hb : 0 ≤ h.bas ∧ h.bas < 18446744073709551616 ∧ 0 ≤ h.siz ∧ h.siz < 18446744073709551616) :
    Calls Tryz.prog 228 #[.pointer (some ⟨D, 0, none⟩), .int .u8 (t : Int)] w (WhPost D A g cap N h rest w) := by
  obtain ⟨p0, hp0, _⟩ := hR.pos
  have t8 : (t : Int) < 8 := by omega
  have HKB : Hid (∀ w', Ext w.heap.size (fun b => b = D) w w' → w'.cell? ⟨1, t * 4 + 1, none⟩ = some (.int .u8 (kBits t : Int))) := fun w' e => (e.cell (p := ⟨1, t * 4 + 1, none⟩) kl kD).trans (hK t (by omega)).2.1
  have hkb := kBits_le t
  have HTt := hideIt ht
  have HP : Hid (h.par = 65535 ∨ ∃ p : Nat, 256 ≤ p ∧ p < 320 ∧ h.par = (p : Int)) := hp
  -- the first number
  obtain ⟨v, tl, hwh, hroot, hsub⟩ : ∃ v tl, whN h = v :: tl ∧ (h.par = 65535 → v = 0 ∧ tl = [h.bas.toNat, h.siz.toNat]) ∧ (∀ p : Nat, 256 ≤ p → p < 320 → h.par = (p : Int) → v = p - 255 ∧ tl = (if t = 1 then [shT h.siz] else []) ++ [h.bas.toNat / 2 ^ shT h.siz]) := by
    by_cases q : h.par = 65535
    · exact ⟨0, [h.bas.toNat, h.siz.toNat], by unfold whN; rw [if_pos q], fun _ => ⟨rfl, rfl⟩, fun p _ h2 e => by omega⟩
    · refine ⟨(h.par - 256).toNat + 1, (if h.typ = 1 then [shT h.siz] else []) ++ [h.bas.toNat / 2 ^ shT h.siz], by unfold whN; rw [if_neg q]; simp, fun e => absurd e q, fun p h1 h2 e => ⟨by omega, ?_⟩⟩
      have : (h.typ = 1) = (t = 1) := by rw [ht]; simp; omega
      simp only [this]
  rw [hwh, List.cons_append] at hR
  have HN := hideIt (num_any (Or.inl hR))
  have HRO : Hid (h.par = 65535 → v = 0 ∧ tl = [h.bas.toNat, h.siz.toNat]) := hroot
  have HSU : Hid (∀ p : Nat, 256 ≤ p → p < 320 → h.par = (p : Int) → v = p - 255 ∧ tl = (if t = 1 then [shT h.siz] else []) ++ [h.bas.toNat / 2 ^ shT h.siz]) := hsub
  have HWH := hideIt hwh
  have HBZ := hideIt hb
  clear hK kl kD hR hroot hsub hwh hb hp ht
  go_enter Tryz.func228, Tryz.ntmps228
  go_wp2_with fail
  go_at_call 103
  refine (HN.out _ _ (by decide)).mono ?_
  rintro e w1 ⟨hx1, x, rfl, x64, hh⟩
  have HX1 := hideIt hx1
  clear hx1 HN hp0
  by_cases x0 : x = 0
  · subst x0
    have k0 : (((0 : Nat) : Int) == 0) = true := rfl
    -- a root region, or a fault
    obtain ⟨b, z, hst, hal⟩ : ∃ b z : Nat, Rf D A g cap N (b :: z :: rest) w1 ∧ (Rn D A g cap N (b :: z :: rest) w1 → h.par = 65535 ∧ b = h.bas.toNat ∧ z = h.siz.toNat) := by
      rcases hh with ⟨e, _, _, hr⟩ | ⟨_, hf⟩
      · have hpar : h.par = 65535 := by
          rcases HP.out with q | ⟨p, p1, p2, q⟩
          · exact q
          · have := (HSU.out p p1 p2 q).1
            omega
        obtain ⟨_, e2⟩ := HRO.out hpar
        rw [e2] at hr
        exact ⟨_, _, Or.inl hr, fun _ => ⟨hpar, rfl, rfl⟩⟩
      · exact ⟨0, 0, Or.inr hf, fun q => absurd hf q.not_flt⟩
    have HST := hideIt hst
    have HAL : Hid (Rn D A g cap N (b :: z :: rest) w1 → h.par = 65535 ∧ b = h.bas.toNat ∧ z = h.siz.toNat) := hal
    clear hh hst hal
    by_cases h1 : t = 1
    · subst h1
      have HN1 := hideIt (num_any HST.out)
      go_wp2_with fail
      go_at_call 103
      refine (HN1.out _ _ (by decide)).mono ?_
      rintro e w2 ⟨hx2, y, rfl, y64, hh⟩
      have HX2 := hideIt (HX1.out.trans hx2 HX1.out.size (fun _ _ q => q))
      have HH := hideIt hh
      have hst2 : Rf D A g cap N (z :: rest) w2 := by
        rcases hh with ⟨_, _, _, q⟩ | ⟨_, q⟩
        · exact Or.inl q
        · exact Or.inr q
      have HN2 := hideIt (num_any hst2)
      have yb : (y : Int) ≤ 281474976710655 := by
        rcases hh with ⟨e, q, _⟩ | ⟨e, _⟩
        · rw [e]; exact q
        · rw [e]; decide
      have ysub : IntKind.u64.wrap (281474976710656 - (y : Int)) = 281474976710656 - (y : Int) := by unfold IntKind.wrap; simp [IntKind.bits, IntKind.signed]; omega
      clear hx2 hh hst2 HN1
      go_wp2_with fail
      go_at_call 103
      refine (HN2.out _ _ (by decide)).mono ?_
      rintro e w3 ⟨hx3, y3, rfl, y364, hh3⟩
      have HX3 := hideIt (HX2.out.trans hx3 HX2.out.size (fun _ _ q => q))
      have HH3 := hideIt hh3
      have hst3 : Rf D A g cap N rest w3 := by
        rcases hh3 with ⟨_, _, _, q⟩ | ⟨_, q⟩
        · exact Or.inl q
        · exact Or.inr q
      clear hx3 hh3 HN2
      by_cases y30 : y3 = 0
      · subst y30
        have HFl := hideIt (fun a r => fail_rf hst3 a r)
        clear hst3
        go_wp2_with fail
        go_at_call 104
        refine (HFl.out _ _).mono ?_
        rintro e w4 ⟨rfl, hf4, hx4⟩
        have HF : Hid (WhPost D A g cap N h rest w (.returned (.tuple #[.int .u16 65535, .int .u64 (y : Int), .int .u64 ((0 : Nat) : Int)])) w4) := ⟨HX3.out.trans hx4 HX3.out.size (fun _ _ q => q), Or.inl ⟨hf4, _, _, _, rfl⟩⟩
        clear hf4 hx4
        go_wp2_with fail
        exact bodyPost_ret (by simp [results, Tryz.results228]) rfl HF.out
      · have k3 : ((y3 : Int) == 0) = false := by rw [beq_eq_false_iff_ne]; omega
        have HF : Hid (WhPost D A g cap N h rest w (.returned (.tuple #[.int .u16 65535, .int .u64 (y : Int), .int .u64 (y3 : Int)])) w3) := by
          rcases HH3.out with ⟨e3, q3, r2, r3⟩ | ⟨e3, _⟩
          · rcases HH.out with ⟨e1, q1, r1, _⟩ | ⟨_, hf⟩
            · obtain ⟨a1, a2, a3⟩ := HAL.out r1
              refine ⟨HX3.out, Or.inr ⟨r3, y, y3, by rw [a1], y64, y364, fun _ => ⟨HTt.out, by omega, by omega⟩, fun h' k1 k2 k3 k4 => ?_⟩⟩
              have := HBZ.out
              unfold whN
              rw [k1, if_pos a1, if_pos a1, k3, k4]
              congr 1
              · congr 1
                · omega
                · congr 1
                  omega
            · exact absurd hf r2.not_flt
          · exact absurd e3 y30
        clear hst3
        go_wp2_with fail
        exact bodyPost_ret (by simp [results, Tryz.results228]) rfl HF.out
    · have kt : ((t : Int) != 1) = true := by rw [bne_iff_ne]; omega
      have HFl := hideIt (fun a r => fail_rf HST.out a r)
      clear h1
      go_wp2_with fail
      go_at_call 104
      refine (HFl.out _ _).mono ?_
      rintro e w2 ⟨rfl, hf2, hx2⟩
      have HF : Hid (WhPost D A g cap N h rest w (.returned (.tuple #[.int .u16 65535, .int .u64 0, .int .u64 0])) w2) := ⟨HX1.out.trans hx2 HX1.out.size (fun _ _ q => q), Or.inl ⟨hf2, _, _, _, rfl⟩⟩
      clear hf2 hx2
      go_wp2_with fail
      exact bodyPost_ret (by simp [results, Tryz.results228]) rfl HF.out
  · have k0 : ((x : Int) == 0) = false := by rw [beq_eq_false_iff_ne]; omega
    obtain ⟨p, p1, p2, hpar, hxp, hr1⟩ : ∃ p : Nat, 256 ≤ p ∧ p < 320 ∧ h.par = (p : Int) ∧ x = p - 255 ∧ Rn D A g cap N ((if t = 1 then [shT h.siz] else []) ++ [h.bas.toNat / 2 ^ shT h.siz] ++ rest) w1 := by
      rcases hh with ⟨e, _, _, hr⟩ | ⟨e, _⟩
      · rcases HP.out with q | ⟨p, p1, p2, q⟩
        · exact absurd (by rw [e]; exact (HRO.out q).1) x0
        · obtain ⟨a1, a2⟩ := HSU.out p p1 p2 q
          rw [a2] at hr
          exact ⟨p, p1, p2, q, by omega, hr⟩
      · exact absurd e x0
    clear hh x0
    have ekb := HKB.out w1 HX1.out
    have HPar := hideIt hpar
    have c1 : IntKind.u64.wrap ((x : Int) - 1) = (x : Int) - 1 := by unfold IntKind.wrap; simp [IntKind.bits, IntKind.signed]; omega
    have c2 : ((x : Int) - 1) % 65536 = (x : Int) - 1 := by omega
    have c3 : (x : Int) - 1 < 65536 := by omega
    have c4 : ((x : Int) - 1 + 256) % 65536 = (p : Int) := by omega
    have c5 : (0 : Int) ≤ (x : Int) - 1 := by omega
    have c6 : (x : Int) - 1 + 256 = (p : Int) := by omega
    -- what stands behind the shift
    have HEnd : Hid (∀ (k M : Nat) (w2 : World), 2 ^ k * M = 281474976710656 → 4 ≤ k → k ≤ 47 → (t = 1 → k = shT h.siz) → Ext w.heap.size (fun b => b = D) w w2 → ∀ (y : Nat) (w3 : World), Ext w2.heap.size (fun b => b = D) w2 w3 → ((y = h.bas.toNat / 2 ^ shT h.siz ∧ ((h.bas.toNat / 2 ^ shT h.siz : Nat) : Int) ≤ (M : Int) - 1 ∧ Rn D A g cap N (h.bas.toNat / 2 ^ shT h.siz :: rest) w2 ∧ Rn D A g cap N rest w3) ∨ (y = 0 ∧ Flt D A w3)) → WhPost D A g cap N h rest w (.returned (.tuple #[.int .u16 (p : Int), .int .u64 ((y * 2 ^ k : Nat) : Int), .int .u64 ((2 ^ k : Nat) : Int)])) w3 ∧ y * 2 ^ k < 18446744073709551616) := fun k M w2 hpw k4 k47 hk e2 y w3 e3 hh => by
      have hpp : 0 < 2 ^ k := Nat.two_pow_pos k
      have hle : 2 ^ k ≤ 140737488355328 := (Nat.pow_le_pow_right (by omega) k47 : 2 ^ k ≤ 2 ^ 47)
      rcases hh with ⟨hy, hm, _, r3⟩ | ⟨hy, hf⟩
      · have hlt : y * 2 ^ k < 281474976710656 := by
          rw [← hpw, Nat.mul_comm]
          exact Nat.mul_lt_mul_of_pos_left (by rw [hy]; omega) hpp
        refine ⟨⟨e2.trans e3 e2.size (fun _ _ q => q), Or.inr ⟨r3, y * 2 ^ k, 2 ^ k, by rw [HPar.out], by omega, by omega, fun q => absurd q (by rw [HPar.out]; omega), fun h' q1 q2 q3 q4 => ?_⟩⟩, by omega⟩
        have np : h.par ≠ 65535 := by rw [HPar.out]; omega
        unfold whN
        rw [q1, if_neg np, if_neg np, q2, q4, shT_pow k k47, q3]
        have e5 : ((y * 2 ^ k : Nat) : Int).toNat / 2 ^ k = h.bas.toNat / 2 ^ shT h.siz := by rw [Int.toNat_natCast, Nat.mul_div_cancel _ hpp]; exact hy
        rw [e5]
        by_cases q : h.typ = 1
        · rw [if_pos q, if_pos q, hk (by rw [HTt.out] at q; omega)]
        · rw [if_neg q, if_neg q]
      · rw [hy]
        refine ⟨⟨e2.trans e3 e2.size (fun _ _ q => q), Or.inl ⟨hf, _, _, _, rfl⟩⟩, by rw [Nat.zero_mul]; decide⟩
    have hnum : ∀ k : Nat, k ≤ 47 → ∃ M : Nat, 2 ^ k * M = 281474976710656 ∧ (281474976710656 : Int) / 2 ^ k = (M : Int) ∧ IntKind.u64.wrap ((M : Int) - 1) = (M : Int) - 1 := fun k hk => by
      have hpw : 2 ^ k * 2 ^ (48 - k) = 281474976710656 := by rw [← Nat.pow_add, show k + (48 - k) = 48 by omega]
      have hpp : 0 < 2 ^ k := Nat.two_pow_pos k
      have hle : 2 ^ (48 - k) ≤ 2 ^ 48 := Nat.pow_le_pow_right (by omega) (by omega)
      have h1 : 0 < 2 ^ (48 - k) := Nat.two_pow_pos _
      have h2 : ((281474976710656 / 2 ^ k : Nat) : Int) = ((2 ^ (48 - k) : Nat) : Int) := by rw [← hpw, Nat.mul_div_cancel_left _ hpp]
      generalize 2 ^ (48 - k) = M at *
      refine ⟨M, hpw, ?_, by unfold IntKind.wrap; simp [IntKind.bits, IntKind.signed]; omega⟩
      rw [← h2]
      simp
    have HNU := hideIt hnum
    have hsl : ∀ y k : Nat, k ≤ 47 → y * 2 ^ k < 18446744073709551616 → IntKind.u64.wrap ((y : Int) * 2 ^ k) = ((y * 2 ^ k : Nat) : Int) ∧ IntKind.u64.wrap (2 ^ k) = ((2 ^ k : Nat) : Int) := fun y k hk hy => by
      have e1 : (y : Int) * 2 ^ k = ((y * 2 ^ k : Nat) : Int) := by simp
      refine ⟨?_, shl64 k (by omega)⟩
      rw [e1]
      generalize y * 2 ^ k = q at *
      unfold IntKind.wrap
      simp [IntKind.bits, IntKind.signed]
      omega
    have HSL := hideIt hsl
    clear hnum hsl hpar hxp
    by_cases h1 : t = 1
    · subst h1
      rw [if_pos rfl] at hr1
      have HN1 := hideIt (num_any (Or.inl (show Rn D A g cap N (shT h.siz :: ([h.bas.toNat / 2 ^ shT h.siz] ++ rest)) w1 from hr1)))
      obtain ⟨q0, hq0, _⟩ := hr1.pos
      clear hr1
      go_wp2_with fail
      go_at_call 103
      refine (HN1.out _ _ (by decide)).mono ?_
      rintro e w2 ⟨hx2, y, rfl, y64, hh⟩
      have HX2 := hideIt (HX1.out.trans hx2 HX1.out.size (fun _ _ q => q))
      clear hx2 HN1 ekb hq0
      by_cases y4 : y < 4
      · have y4' : (y : Int) < 4 := by omega
        have hst2 : Rf D A g cap N ([h.bas.toNat / 2 ^ shT h.siz] ++ rest) w2 := by
          rcases hh with ⟨_, _, _, q⟩ | ⟨_, q⟩
          · exact Or.inl q
          · exact Or.inr q
        have HFl := hideIt (fun a r => fail_rf hst2 a r)
        clear hst2 hh
        go_wp2_with fail
        go_at_call 104
        refine (HFl.out _ _).mono ?_
        rintro e w4 ⟨rfl, hf4, hx4⟩
        have HF : Hid (WhPost D A g cap N h rest w (.returned (.tuple #[.int .u16 65535, .int .u64 0, .int .u64 0])) w4) := ⟨HX2.out.trans hx4 HX2.out.size (fun _ _ q => q), Or.inl ⟨hf4, _, _, _, rfl⟩⟩
        clear hf4 hx4
        go_wp2_with fail
        exact bodyPost_ret (by simp [results, Tryz.results228]) rfl HF.out
      · have y4' : ¬ (y : Int) < 4 := by omega
        obtain ⟨hy, y47, hr2⟩ : y = shT h.siz ∧ y ≤ 47 ∧ Rn D A g cap N ([h.bas.toNat / 2 ^ shT h.siz] ++ rest) w2 := by
          rcases hh with ⟨e, q, _, r⟩ | ⟨e, _⟩
          · exact ⟨e, by rw [e]; omega, r⟩
          · omega
        have HN2 := hideIt (num_any (Or.inl (show Rn D A g cap N (h.bas.toNat / 2 ^ shT h.siz :: rest) w2 from hr2)))
        obtain ⟨M, n0, n1, n2⟩ := HNU.out y y47
        have HN0 := hideIt n0
        clear n0
        have HY := hideIt hy
        have yt : (y : Int).toNat = y := by omega
        have y64' : (y : Int) < 64 := by omega
        have y0' : ¬ (y : Int) < 0 := by omega
        clear hh hr2 hy
        go_wp2_with fail
        go_at_call 103
        refine (HN2.out _ _ (by decide)).mono ?_
        rintro e w3 ⟨hx3, z, rfl, z64, hh3⟩
        obtain ⟨hF, hlt⟩ := HEnd.out y M w2 HN0.out (by omega) y47 (fun _ => HY.out) HX2.out z w3 hx3 hh3
        obtain ⟨m1, m2⟩ := HSL.out z y y47 hlt
        have HF := hideIt hF
        clear hx3 hh3 hF HN2 n1 n2
        go_wp2_with fail
        exact bodyPost_ret (by simp [results, Tryz.results228]) rfl HF.out
    · have kt : ((t : Int) == 1) = false := by rw [beq_eq_false_iff_ne]; omega
      rw [if_neg h1] at hr1
      have HN2 := hideIt (num_any (Or.inl (show Rn D A g cap N (h.bas.toNat / 2 ^ shT h.siz :: rest) w1 from hr1)))
      have k4 : 4 ≤ kBits t := by
        match t, t1, t7, h1 with
        | 2, _, _, _ => decide
        | 3, _, _, _ => decide
        | 4, _, _, _ => decide
        | 5, _, _, _ => decide
        | 6, _, _, _ => decide
        | 7, _, _, _ => decide
        | 0, q, _, _ => exact absurd q (by omega)
        | 1, _, _, q => exact absurd rfl q
        | t + 8, _, q, _ => exact absurd q (by omega)
      have HT1 := hideIt h1
      clear hr1 h1
      generalize kBits t = k at *
      obtain ⟨M, n0, n1, n2⟩ := HNU.out k hkb
      have HN0 := hideIt n0
      clear n0
      have yt : (k : Int).toNat = k := by omega
      have y64' : (k : Int) < 64 := by omega
      have y0' : ¬ (k : Int) < 0 := by omega
      go_wp2_with fail
      go_at_call 103
      refine (HN2.out _ _ (by decide)).mono ?_
      rintro e w3 ⟨hx3, z, rfl, z64, hh3⟩
      obtain ⟨hF, hlt⟩ := HEnd.out k M w1 HN0.out k4 hkb (fun q => absurd q HT1.out) HX1.out z w3 hx3 hh3
      obtain ⟨m1, m2⟩ := HSL.out z k hkb hlt
      have HF := hideIt hF
      clear hx3 hh3 hF HN2 n1 n2
      go_wp2_with fail
      exact bodyPost_ret (by simp [results, Tryz.results228]) rfl HF.out
end
end Go.Proofs.Qxb6500847aGreatDoor.Os
