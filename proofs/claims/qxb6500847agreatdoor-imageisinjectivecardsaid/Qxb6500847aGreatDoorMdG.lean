/-
  The abstract model: places.
-/
import Derived.Test.Qxb6500847aGreatDoorMdE
import Derived.Test.Qxb6500847aGreatDoorOxRp
namespace Go.Proofs.Qxb6500847aGreatDoor.Os
open Go.RowKit FloorA
set_option maxRecDepth 100000
/-- The addresses of k objects of size z from st on. -/
def plL (st z k : Nat) : List Int := (List.range k).map (fun j => ((st + j * z : Nat) : Int))
theorem plL_succ (st z k : Nat) : plL st z (k + 1) = plL st z k ++ [((st + k * z : Nat) : Int)] := by
  unfold plL
  rw [List.range_succ, List.map_append]
  rfl
theorem plL_len (st z k : Nat) : (plL st z k).length = k := by unfold plL; simp
def UOwn (base : Nat) (w : World) (v : Value) (l : List Int) : Prop := w.ownsRow base 34 1 v l.length (l.map (.int .u64))
theorem UOwn.nil (base : Nat) (w : World) : UOwn base w (.slice none 0 0) [] := ⟨rfl, Or.inl ⟨rfl, rfl⟩⟩
theorem UOwn.form {base : Nat} {w : World} {v : Value} {l : List Int} (h : UOwn base w v l) : ∃ a c, v = .slice a l.length c := by
  rcases h.2 with ⟨e, e2⟩ | ⟨g, c, cur, e1, _⟩
  · exact ⟨none, 0, by rw [e, e2]⟩
  · exact ⟨_, c, e1⟩
theorem one_u (a : Int) : ∀ u ∈ [Value.int .u64 a], u.oneCell' = true := by
  intro u hu
  simp at hu
  subst hu
  rfl
theorem al_pos {x z : Nat} (hz : 0 < z) : x ≤ alU x z ∧ alU x z < x + z ∧ z ∣ alU x z := by
  unfold alU
  have h1 := Nat.div_add_mod (x + z - 1) z
  have h2 := Nat.mod_lt (x + z - 1) hz
  have h3 : (x + z - 1) / z * z = z * ((x + z - 1) / z) := Nat.mul_comm _ _
  refine ⟨by omega, by omega, ⟨_, h3⟩⟩
theorem al_same {x z : Nat} (hz : 0 < z) (h : x % z = 0) : alU x z = x := by
  obtain ⟨a, b, ⟨c, hc⟩⟩ := al_pos (x := x) hz
  obtain ⟨d, hd⟩ := Nat.dvd_of_mod_eq_zero h
  rw [hc] at a b ⊢
  rw [hd] at a b ⊢
  have h1 : d ≤ c := Nat.le_of_mul_le_mul_left a hz
  have h2 : c < d + 1 := Nat.lt_of_mul_lt_mul_left (a := z) (by rw [Nat.mul_succ]; omega)
  rw [show c = d by omega]
theorem al_up {x z : Nat} (hz : 0 < z) (h : x % z ≠ 0) : x + z - x % z = alU x z := by
  obtain ⟨a, b, ⟨c, hc⟩⟩ := al_pos (x := x) hz
  have h1 := Nat.div_add_mod x z
  have h2 := Nat.mod_lt x hz
  have h3 : x + z - x % z = z * (x / z + 1) := by rw [Nat.mul_succ]; omega
  rw [hc] at a b ⊢
  rw [h3]
  have k1 : x / z < c := Nat.lt_of_mul_lt_mul_left (a := z) (by omega)
  have k2 : c < x / z + 2 := Nat.lt_of_mul_lt_mul_left (a := z) (by rw [Nat.mul_succ, Nat.mul_succ]; omega)
  rw [show c = x / z + 1 by omega]
theorem mod_step {st z k : Nat} (h : z ∣ st) : (st + k * z) % z = 0 := by
  obtain ⟨c, rfl⟩ := h
  rw [Nat.mul_comm k z, ← Nat.mul_add]
  exact Nat.mul_mod_right _ _
section
variable {w : World} {B : Nat} {wb : Nat → Nat} {M : Nat → En}
/-- What places answers: E the region's end, st the first address. -/
def PcP (E st z k : Nat) (w : World) (e : Ending) (w' : World) : Prop := Below w.heap.size w w' ∧ ((E < st + k * z ∧ e = .returned (.slice none 0 0)) ∨ (st + k * z ≤ E ∧ ∃ v, e = .returned v ∧ UOwn w.heap.size w' v (plL st z k)))
set_option maxHeartbeats 8000000 in
theorem places_m (h : Md w B wb M) (hM : Mk M) {p z k : Nat} (hp : p < 320) (hK : ∃ l, IsK M p l) (hT : tf M (M p).bas (kdsM M p) = topM M p) {T E : Nat} (hTn : topM M p = (T : Int)) (hE : (M p).bas + (M p).siz = (E : Int)) (hTE : T ≤ E) (hz : 0 < z) (hz2 : z ≤ 140737488355328) (hk1 : 1 ≤ k) (hk : k ≤ 32) :
    Calls Tryz.prog 209 #[.pointer (some ⟨B, 0, none⟩), .int .i64 (p : Int), .int .u64 (z : Int), .int .i64 (k : Int)] w (PcP E (alU T z) z k w) := by
  obtain ⟨i4, hi4, hz4, hs4, hb4⟩ := info_parts inf34
  have hE2 : E ≤ 281474976710656 := by have := (hM.bas p hp).2.2; omega
  have HM := hideIt h
  have HMk := hideIt hM
  have HE := hideIt hE
  have HT := hideIt (top_m h hM hp hK hT)
  rw [hTn] at HT
  clear h hM hT hK hTn hE
  obtain ⟨a1, a2, a3⟩ := al_pos (x := T) hz
  have HDV := hideIt a3
  obtain ⟨st, hst⟩ : ∃ st, st = alU T z := ⟨_, rfl⟩
  rw [← hst] at a1 a2 HDV
  rw [← hst]
  have HST := hideIt hst
  clear a3 hst
  go_enter Tryz.func209, Tryz.ntmps209
  go_wp2_with fail
  go_at_call 216
  refine HT.out.mono ?_
  rintro e w1 ⟨rfl, hb1⟩
  have HB1 := hideIt hb1
  clear hb1 HT
  go_wp2_with fail
  go_loopw [9, 10, 11] (fun v9 v10 v11 wr => ∃ j : Nat, j ≤ k ∧ v11 = .int .i64 (j : Int) ∧ v10 = .int .u64 (if j = 0 then (T : Int) else ((st + j * z : Nat) : Int)) ∧ UOwn w.heap.size wr v9 (plL st z j) ∧ (j = 0 ∨ st + j * z ≤ E) ∧ Below w.heap.size w wr) (fun _ _ i _ => k - (intOf i).toNat)
  case atStart => exact ⟨0, Nat.zero_le _, rfl, rfl, UOwn.nil _ _, Or.inl rfl, HB1.out⟩
  case round =>
    obtain ⟨j, hj, rfl, rfl, hown, hjE, hbr⟩ := hrel
    have HO := hideIt hown
    have HB := hideIt hbr
    have HJE : Hid (j = 0 ∨ st + j * z ≤ E) := hjE
    by_cases hlt : j < k
    · have hlt' : (j : Int) < (k : Int) := by omega
      obtain ⟨x, hx⟩ : ∃ x : Nat, (if j = 0 then (T : Int) else ((st + j * z : Nat) : Int)) = (x : Int) ∧ x ≤ E ∧ ((x % z = 0 ∧ x = st + j * z) ∨ (x % z ≠ 0 ∧ x + z - x % z = st + j * z)) := by
        by_cases q : j = 0
        · rw [if_pos q]
          refine ⟨T, rfl, hTE, ?_⟩
          by_cases q2 : T % z = 0
          · exact Or.inl ⟨q2, by rw [HST.out, al_same hz q2, q]; omega⟩
          · exact Or.inr ⟨q2, by rw [HST.out, al_up hz q2, q]; omega⟩
        · rw [if_neg q]
          exact ⟨_, rfl, hjE.resolve_left q, Or.inl ⟨mod_step HDV.out, rfl⟩⟩
      obtain ⟨hx0, hxE, hx2⟩ := hx
      rw [hx0]
      have HEn := hideIt (fun wq (hq : Below wr.heap.size wr wq) => end_m (HM.out.below (Below.thr HB.out hq)) HMk.out hp)
      have hzn : ((z : Int) == 0) = false := by rw [beq_eq_false_iff_ne]; omega
      obtain ⟨r, hr⟩ : ∃ r : Nat, r = x % z := ⟨_, rfl⟩
      have hmod : ((x : Int) % (z : Int)) = (r : Int) := by rw [hr]; simp
      have hrz : r < z := by rw [hr]; exact Nat.mod_lt _ hz
      obtain ⟨y, hy⟩ : ∃ y : Nat, y = st + j * z := ⟨_, rfl⟩
      have HY := hideIt hy
      rw [← hr, ← hy] at hx2
      have HO1 := hideIt (fun m => (show UOwn w.heap.size (wr.drewN m) _ (plL st z j) from HO.out))
      have HLn := hideIt (plL_len st z j)
      have HBw := hideIt HB.out.size
      clear hown hbr hjE hx0 hr hy
      rcases hx2 with ⟨hm0, hxy⟩ | ⟨hm0, hxy⟩
      · have hyx := hxy.symm
        clear hxy
        subst hyx
        rw [hm0] at hmod
        clear hm0 hrz
        by_cases hgt : E < y + z
        · have hgt' : (y : Int) + (z : Int) > (E : Int) := by omega
          have HG := hideIt hgt
          go_wp2_with (first | (go_at_call 204; refine (HEn.out _ (Below.refl _ _)).mono ?_; rintro e w' ⟨rfl, m1, hw'⟩; obtain rfl := hw'.symm; rw [HE.out]) | (at_builtin; refine wpList_append_own_at _ rfl (.tmp 38) (.tmp 40) 35 rfl w.heap.size 34 i4 (.int .u64 0) 1 8 Tryz.underlying35 hi4 hz4 hs4 hb4 rfl (by decide) _ _ _ rfl (World.ownsRow.alloc (HO1.out m1) _) ⟨wr.heap.size, 0, none⟩ 1 1 [.int .u64 (y : Int)] rfl rfl (cell_one_new (wr.drewN m1) _ _) (one_u _) (by have := HLn.out; unfold maxLen; omega) (by have := HLn.out; omega) (by have := HBw.out; simp; omega) ?_; intro v' w8 hown8 hgrow8 _ hwh8; have HB8 := hideIt ((Below.thr HB.out (belowN wr m1)).trans (Grown.below HBw.out hgrow8 (fun b hb => (owns_lt HO.out b hb).1))); have HO8 := hideIt hown8; clear hown8 hgrow8 hwh8))
          go_ret
          refine ⟨Below.thr HB.out (belowN _ _), Or.inl ⟨?_, rfl⟩⟩
          have h1 := HG.out
          rw [HY.out] at h1
          have h2 : (j + 1) * z ≤ k * z := Nat.mul_le_mul_right z (by omega)
          rw [Nat.succ_mul] at h2
          omega
        · have hgt' : ¬ (y : Int) + (z : Int) > (E : Int) := by omega
          have HG : Hid (st + (j + 1) * z ≤ E ∧ (y : Int) + (z : Int) = ((st + (j + 1) * z : Nat) : Int)) := by
            have h1 : st + (j + 1) * z = y + z := by rw [Nat.succ_mul, HY.out]; omega
            exact ⟨by omega, by omega⟩
          go_wp2_with (first | (go_at_call 204; refine (HEn.out _ (Below.refl _ _)).mono ?_; rintro e w' ⟨rfl, m1, hw'⟩; obtain rfl := hw'.symm; rw [HE.out]) | (at_builtin; refine wpList_append_own_at _ rfl (.tmp 38) (.tmp 40) 35 rfl w.heap.size 34 i4 (.int .u64 0) 1 8 Tryz.underlying35 hi4 hz4 hs4 hb4 rfl (by decide) _ _ _ rfl (World.ownsRow.alloc (HO1.out m1) _) ⟨wr.heap.size, 0, none⟩ 1 1 [.int .u64 (y : Int)] rfl rfl (cell_one_new (wr.drewN m1) _ _) (one_u _) (by have := HLn.out; unfold maxLen; omega) (by have := HLn.out; omega) (by have := HBw.out; simp; omega) ?_; intro v' w8 hown8 hgrow8 _ hwh8; have HB8 := hideIt ((Below.thr HB.out (belowN wr m1)).trans (Grown.below HBw.out hgrow8 (fun b hb => (owns_lt HO.out b hb).1))); have HO8 := hideIt hown8; clear hown8 hgrow8 hwh8))
          go_roundw
          case rel => exact ⟨j + 1, by omega, by go_num, by rw [if_neg (by omega), ← HG.out.2], by unfold UOwn; rw [plL_succ, List.length_append, List.map_append, ← HY.out]; exact HO8.out, Or.inr HG.out.1, HB8.out⟩
          case measure => simp [intOf]; omega
      · have hne : ((r : Int) != 0) = true := by rw [bne_iff_ne]; omega
        have hw2 : IntKind.u64.wrap ((x : Int) + (z : Int) - (r : Int)) = (y : Int) := by rw [u64_same (by omega) (by omega)]; omega
        have hyb : y ≤ x + z := by omega
        clear hm0 hxy
        by_cases hgt : E < y + z
        · have hgt' : (y : Int) + (z : Int) > (E : Int) := by omega
          have HG := hideIt hgt
          go_wp2_with (first | (go_at_call 204; refine (HEn.out _ (Below.refl _ _)).mono ?_; rintro e w' ⟨rfl, m1, hw'⟩; obtain rfl := hw'.symm; rw [HE.out]) | (at_builtin; refine wpList_append_own_at _ rfl (.tmp 38) (.tmp 40) 35 rfl w.heap.size 34 i4 (.int .u64 0) 1 8 Tryz.underlying35 hi4 hz4 hs4 hb4 rfl (by decide) _ _ _ rfl (World.ownsRow.alloc (HO1.out m1) _) ⟨wr.heap.size, 0, none⟩ 1 1 [.int .u64 (y : Int)] rfl rfl (cell_one_new (wr.drewN m1) _ _) (one_u _) (by have := HLn.out; unfold maxLen; omega) (by have := HLn.out; omega) (by have := HBw.out; simp; omega) ?_; intro v' w8 hown8 hgrow8 _ hwh8; have HB8 := hideIt ((Below.thr HB.out (belowN wr m1)).trans (Grown.below HBw.out hgrow8 (fun b hb => (owns_lt HO.out b hb).1))); have HO8 := hideIt hown8; clear hown8 hgrow8 hwh8))
          go_ret
          refine ⟨Below.thr HB.out (belowN _ _), Or.inl ⟨?_, rfl⟩⟩
          have h1 := HG.out
          rw [HY.out] at h1
          have h2 : (j + 1) * z ≤ k * z := Nat.mul_le_mul_right z (by omega)
          rw [Nat.succ_mul] at h2
          omega
        · have hgt' : ¬ (y : Int) + (z : Int) > (E : Int) := by omega
          have HG : Hid (st + (j + 1) * z ≤ E ∧ (y : Int) + (z : Int) = ((st + (j + 1) * z : Nat) : Int)) := by
            have h1 : st + (j + 1) * z = y + z := by rw [Nat.succ_mul, HY.out]; omega
            exact ⟨by omega, by omega⟩
          go_wp2_with (first | (go_at_call 204; refine (HEn.out _ (Below.refl _ _)).mono ?_; rintro e w' ⟨rfl, m1, hw'⟩; obtain rfl := hw'.symm; rw [HE.out]) | (at_builtin; refine wpList_append_own_at _ rfl (.tmp 38) (.tmp 40) 35 rfl w.heap.size 34 i4 (.int .u64 0) 1 8 Tryz.underlying35 hi4 hz4 hs4 hb4 rfl (by decide) _ _ _ rfl (World.ownsRow.alloc (HO1.out m1) _) ⟨wr.heap.size, 0, none⟩ 1 1 [.int .u64 (y : Int)] rfl rfl (cell_one_new (wr.drewN m1) _ _) (one_u _) (by have := HLn.out; unfold maxLen; omega) (by have := HLn.out; omega) (by have := HBw.out; simp; omega) ?_; intro v' w8 hown8 hgrow8 _ hwh8; have HB8 := hideIt ((Below.thr HB.out (belowN wr m1)).trans (Grown.below HBw.out hgrow8 (fun b hb => (owns_lt HO.out b hb).1))); have HO8 := hideIt hown8; clear hown8 hgrow8 hwh8))
          go_roundw
          case rel => exact ⟨j + 1, by omega, by go_num, by rw [if_neg (by omega), ← HG.out.2], by unfold UOwn; rw [plL_succ, List.length_append, List.map_append, ← HY.out]; exact HO8.out, Or.inr HG.out.1, HB8.out⟩
          case measure => simp [intOf]; omega
    · have hjk : j = k := by omega
      subst hjk
      clear hown hbr
      go_wp2_with fail
      go_ret
      refine ⟨HB.out, Or.inr ⟨?_, _, rfl, HO.out⟩⟩
      exact HJE.out.resolve_left (by omega)
end
end Go.Proofs.Qxb6500847aGreatDoor.Os
