/-
  Decode: where, exactly.
-/
import Derived.Test.Qxb6500847aGreatDoorOsDd
import Derived.Test.Qxb6500847aGreatDoorOxD
namespace Go.Proofs.Qxb6500847aGreatDoor.Os
open Go.RowKit FloorA
set_option maxRecDepth 100000
section
variable {D A g cap : Nat} {N rest : List Nat} {w w' : World}
/-- A place that an image can hold. -/
def GoodP (h : Hd) (t : Nat) : Prop :=
  (h.par = 65535 ∧ t = 1 ∧ 0 ≤ h.bas ∧ 0 < h.siz ∧ h.bas + h.siz ≤ 281474976710656) ∨
  ∃ p k u : Nat, 256 ≤ p ∧ p < 320 ∧ h.par = (p : Int) ∧ h.siz = ((2 ^ k : Nat) : Int) ∧ h.bas = ((u * 2 ^ k : Nat) : Int) ∧ h.bas + h.siz ≤ 281474976710656 ∧ k ≤ 47 ∧ (t = 1 → 4 ≤ k) ∧ (t ≠ 1 → k = kBits t)
def WhXP (D A g cap : Nat) (N : List Nat) (h : Hd) (rest : List Nat) (w : World) (e : Ending) (w' : World) : Prop :=
  e = .returned (.tuple #[.int .u16 h.par, .int .u64 h.bas, .int .u64 h.siz]) ∧ Ext w.heap.size (fun b => b = D) w w' ∧ Rn D A g cap N rest w'
set_option maxHeartbeats 8000000 in
theorem where_x {h : Hd} {t : Nat} (hR : Rn D A g cap N (whN h ++ rest) w) (hK : Kd w) (kl : 1 < w.heap.size) (kD : 1 ≠ D) (ht : h.typ = (t : Int)) (t1 : 1 ≤ t) (t7 : t ≤ 7) (hgo : GoodP h t) :
    Calls Tryz.prog 228 #[.pointer (some ⟨D, 0, none⟩), .int .u8 (t : Int)] w (WhXP D A g cap N h rest w) := by
  obtain ⟨p0, hp0, _⟩ := hR.pos
  have t8 : (t : Int) < 8 := by omega
  rcases hgo with ⟨hpar, rfl, b0, z0, bz⟩ | ⟨p, k, u, p1, p2, hpar, hz, hb, bz, k47, k4, kb⟩
  · have hwh : whN h = [0, h.bas.toNat, h.siz.toNat] := by unfold whN; rw [if_pos hpar]
    rw [hwh] at hR
    obtain ⟨b, hb⟩ : ∃ b : Nat, h.bas = (b : Int) := ⟨_, (Int.toNat_of_nonneg b0).symm⟩
    obtain ⟨z, hz⟩ : ∃ b : Nat, h.siz = (b : Int) := ⟨_, (Int.toNat_of_nonneg (by omega)).symm⟩
    rw [hb, hz, Int.toNat_natCast, Int.toNat_natCast] at hR
    rw [hb, hz] at bz
    have bb : (b : Int) ≤ 281474976710655 := by omega
    have zz : (z : Int) ≤ 281474976710656 - (b : Int) := by omega
    have z1 : ((z : Int) == 0) = false := by rw [beq_eq_false_iff_ne]; omega
    have bsub : IntKind.u64.wrap (281474976710656 - (b : Int)) = 281474976710656 - (b : Int) := u64_same (by omega) (by omega)
    have HFin : Hid (∀ w5 : World, Ext w.heap.size (fun b => b = D) w w5 → Rn D A g cap N rest w5 → WhXP D A g cap N h rest w (.returned (.tuple #[.int .u16 65535, .int .u64 (b : Int), .int .u64 (z : Int)])) w5) := fun w5 a1 a2 => ⟨by rw [hpar, hb, hz], a1, a2⟩
    have HR := hideIt hR
    clear hR hwh hpar hb hz b0 z0 bz ht hK kl kD
    go_enter Tryz.func228, Tryz.ntmps228
    go_wp2_with fail
    go_at_call 103
    refine (num_x HR.out _ _ (by decide) (by decide)).mono ?_
    rintro e w1 ⟨rfl, hx1, hr1⟩
    have HX1 := hideIt hx1
    have HR1 := hideIt hr1
    clear hx1 hr1 hp0 HR
    rw [show (((0 : Nat)) : Int) = 0 from rfl]
    go_wp2_with fail
    go_at_call 103
    refine (num_x HR1.out _ _ (by decide) bb).mono ?_
    rintro e w2 ⟨rfl, hx2, hr2⟩
    have HX2 := hideIt (HX1.out.trans hx2 HX1.out.size (fun _ _ q => q))
    have HR2 := hideIt hr2
    clear hx2 hr2 HR1
    go_wp2_with fail
    go_at_call 103
    refine (num_x HR2.out _ _ (by decide) zz).mono ?_
    rintro e w3 ⟨rfl, hx3, hr3⟩
    have HF := hideIt (HFin.out w3 (HX2.out.trans hx3 HX2.out.size (fun _ _ q => q)) hr3)
    clear hx3 hr3 HR2
    go_wp2_with fail
    exact bodyPost_ret (by simp [results, Tryz.results228]) rfl HF.out
  · have np : h.par ≠ 65535 := by rw [hpar]; omega
    have hpp : 0 < 2 ^ k := Nat.two_pow_pos k
    have hwh : whN h = (p - 255) :: ((if t = 1 then [k] else []) ++ [u]) := by
      unfold whN
      rw [if_neg np, hz, shT_pow k k47, hb, Int.toNat_natCast, Nat.mul_div_cancel _ hpp, hpar, ht]
      have e1 : ((p : Int) - 256).toNat + 1 = p - 255 := by omega
      rw [e1]
      by_cases q : t = 1
      · rw [if_pos q, if_pos (by omega)]; rfl
      · rw [if_neg q, if_neg (by omega)]; rfl
    rw [hwh, List.cons_append] at hR
    obtain ⟨M, hpw, n1, n2, hM⟩ : ∃ M : Nat, 2 ^ k * M = 281474976710656 ∧ (281474976710656 : Int) / 2 ^ k = (M : Int) ∧ IntKind.u64.wrap ((M : Int) - 1) = (M : Int) - 1 ∧ 0 < M := by
      have hpw : 2 ^ k * 2 ^ (48 - k) = 281474976710656 := by rw [← Nat.pow_add, show k + (48 - k) = 48 by omega]
      have hle : 2 ^ (48 - k) ≤ 2 ^ 48 := Nat.pow_le_pow_right (by omega) (by omega)
      have h1 : 0 < 2 ^ (48 - k) := Nat.two_pow_pos _
      have h2 : ((281474976710656 / 2 ^ k : Nat) : Int) = ((2 ^ (48 - k) : Nat) : Int) := by rw [← hpw, Nat.mul_div_cancel_left _ hpp]
      generalize 2 ^ (48 - k) = M at *
      refine ⟨M, hpw, ?_, by unfold IntKind.wrap; simp [IntKind.bits, IntKind.signed]; omega, h1⟩
      rw [← h2]
      simp
    have uM : (u : Int) ≤ (M : Int) - 1 := by
      have h1 : u * 2 ^ k + 2 ^ k ≤ 2 ^ k * M := by
        rw [hpw]
        rw [hb, hz] at bz
        omega
      rw [Nat.mul_comm (2 ^ k) M, ← Nat.succ_mul] at h1
      have := Nat.le_of_mul_le_mul_right h1 hpp
      omega
    have m1 : IntKind.u64.wrap ((u : Int) * 2 ^ k) = ((u * 2 ^ k : Nat) : Int) := by
      have e1 : (u : Int) * 2 ^ k = ((u * 2 ^ k : Nat) : Int) := by simp
      rw [e1]
      rw [hb, hz] at bz
      exact u64_same (by omega) (by omega)
    have m2 : IntKind.u64.wrap (2 ^ k) = ((2 ^ k : Nat) : Int) := shl64 k (by omega)
    have HFin : Hid (∀ w5 : World, Ext w.heap.size (fun b => b = D) w w5 → Rn D A g cap N rest w5 → WhXP D A g cap N h rest w (.returned (.tuple #[.int .u16 (p : Int), .int .u64 ((u * 2 ^ k : Nat) : Int), .int .u64 ((2 ^ k : Nat) : Int)])) w5) := fun w5 a1 a2 => ⟨by rw [hpar, hb, hz], a1, a2⟩
    have HKB : Hid (∀ w', Ext w.heap.size (fun b => b = D) w w' → w'.cell? ⟨1, t * 4 + 1, none⟩ = some (.int .u8 (kBits t : Int))) := fun w' e => (e.cell (p := ⟨1, t * 4 + 1, none⟩) kl kD).trans (hK t (by omega)).2.1
    have HR := hideIt hR
    obtain ⟨x, hx⟩ : ∃ x, x = p - 255 := ⟨_, rfl⟩
    have hx64 : ((p - 255 : Nat) : Int) ≤ 64 := by omega
    rw [← hx] at HR hx64
    have k0 : ((x : Int) == 0) = false := by rw [beq_eq_false_iff_ne]; omega
    have c1 : IntKind.u64.wrap ((x : Int) - 1) = (x : Int) - 1 := u64_same (by omega) (by omega)
    have c2 : ((x : Int) - 1) % 65536 = (x : Int) - 1 := by omega
    have c3 : (x : Int) - 1 < 65536 := by omega
    have c4 : ((x : Int) - 1 + 256) % 65536 = (p : Int) := by omega
    have c5 : (0 : Int) ≤ (x : Int) - 1 := by omega
    have c6 : (x : Int) - 1 + 256 = (p : Int) := by omega
    have HUM := hideIt uM
    clear hR hwh hb hz bz ht hK kl kD np hpar hx hpw uM
    go_enter Tryz.func228, Tryz.ntmps228
    go_wp2_with fail
    go_at_call 103
    refine (num_x HR.out _ _ (by decide) hx64).mono ?_
    rintro e w1 ⟨rfl, hx1, hr1⟩
    have HX1 := hideIt hx1
    have ekb := HKB.out w1 hx1
    clear hx1 hp0 HR
    by_cases h1 : t = 1
    · subst h1
      rw [if_pos rfl] at hr1
      have HR1 := hideIt (show Rn D A g cap N (k :: ([u] ++ rest)) w1 from hr1)
      obtain ⟨q0, hq0, _⟩ := hr1.pos
      have y4' : ¬ (k : Int) < 4 := by have := k4 rfl; omega
      have k47' : (k : Int) ≤ 47 := by omega
      have yt : (k : Int).toNat = k := by omega
      have y64' : (k : Int) < 64 := by omega
      have y0' : ¬ (k : Int) < 0 := by omega
      clear hr1
      go_wp2_with fail
      go_at_call 103
      refine (num_x HR1.out _ _ (by decide) k47').mono ?_
      rintro e w2 ⟨rfl, hx2, hr2⟩
      have HX2 := hideIt (HX1.out.trans hx2 HX1.out.size (fun _ _ q => q))
      have HR2 := hideIt (show Rn D A g cap N (u :: rest) w2 from hr2)
      clear hx2 hr2 HR1 ekb hq0
      go_wp2_with fail
      go_at_call 103
      refine (num_x HR2.out _ _ (by decide) HUM.out).mono ?_
      rintro e w3 ⟨rfl, hx3, hr3⟩
      have HF := hideIt (HFin.out w3 (HX2.out.trans hx3 HX2.out.size (fun _ _ q => q)) hr3)
      clear hx3 hr3 HR2 n1 n2
      go_wp2_with fail
      exact bodyPost_ret (by simp [results, Tryz.results228]) rfl HF.out
    · have kt : ((t : Int) == 1) = false := by rw [beq_eq_false_iff_ne]; omega
      rw [if_neg h1] at hr1
      have HR1 := hideIt (show Rn D A g cap N (u :: rest) w1 from hr1)
      rw [← kb h1] at ekb
      have yt : (k : Int).toNat = k := by omega
      have y64' : (k : Int) < 64 := by omega
      have y0' : ¬ (k : Int) < 0 := by omega
      clear hr1 h1
      go_wp2_with fail
      go_at_call 103
      refine (num_x HR1.out _ _ (by decide) HUM.out).mono ?_
      rintro e w3 ⟨rfl, hx3, hr3⟩
      have HF := hideIt (HFin.out w3 (HX1.out.trans hx3 HX1.out.size (fun _ _ q => q)) hr3)
      clear hx3 hr3 HR1 n1 n2 ekb
      go_wp2_with fail
      exact bodyPost_ret (by simp [results, Tryz.results228]) rfl HF.out
end
end Go.Proofs.Qxb6500847aGreatDoor.Os
