/-
  The abstract model: stats.
-/
import Derived.Test.Qxb6500847aGreatDoorMdSs
import Derived.Test.Qxb6500847aGreatDoorMdM
import Derived.Test.Qxb6500847aGreatDoorMdK
import Derived.Deep.MidRow
namespace Go.Proofs.Qxb6500847aGreatDoor.Os
open Go.RowKit FloorA
set_option maxRecDepth 100000
theorem inf34s : (Tryz.prog.info? 34).map (fun i => (i.zero, i.size, i.bytes)) = some (some (.int .u64 0), 1, 8) := by kernel_rfl
theorem two_u (a b : Int) : ∀ u ∈ [Value.int .u64 a, Value.int .u64 b], u.oneCell' = true := by
  intro u hu
  simp at hu
  rcases hu with rfl | rfl <;> rfl
theorem new_uu (w : World) (a b : Int) : ∀ j u, [Value.int .u64 a, Value.int .u64 b][j]? = some u → (w.alloc (.cells #[.int .u64 a, .int .u64 b] 34)).cell? ((⟨w.heap.size, 0, none⟩ : Addr).add j) = some u := fun j u hu => by
  have e : (⟨w.heap.size, 0, none⟩ : Addr).add j = ⟨w.heap.size, j, none⟩ := by unfold Addr.add; by_cases e : j = 0 <;> simp [e]
  rw [e, box_cell (heap_new w _) j, List.getElem?_toArray]
  exact hu
theorem own_form {base T k n : Nat} {w : World} {v : Value} {xs : List Value} (h : w.ownsRow base T k v n xs) : ∃ a c, v = .slice a n c := by
  rcases h.2 with ⟨e, e2⟩ | ⟨g, c, cur, e1, _⟩
  · exact ⟨none, 0, by rw [e, e2]⟩
  · exact ⟨_, c, e1⟩
theorem fz_ss {W : World} {q T : Nat} {cs : Array Value} (h : W.heap[q]? = some (.cells cs T (0, 0))) (o : Nat) : W.frozen? ⟨q, o, none⟩ = false := by simp [World.frozen?, h]
theorem pz_nb9 {M : Nat → En} (hM : Mk M) {k : Nat} (hk : k < 320) (h : (M k).par ≠ 65535) : (pz (M k).par == -1) = false := by
  rw [beq_eq_false_iff_ne]
  unfold pz
  rw [if_neg h]
  rcases hM.par k hk with q | ⟨p, _, q⟩
  · exact absurd q h
  · omega
section
variable {w w' : World} {B : Nat} {wb : Nat → Nat} {M : Nat → En}
set_option maxHeartbeats 16000000 in
theorem stats_m (h : Md w B wb M) (hM : Mk M) (hO : ∀ i, i < 256 → (M i).typ ≠ 0 → (M i).par ≠ 65535) :
    Calls Tryz.prog 80 #[.pointer (some ⟨B, 0, none⟩)] w (MsP B wb M (stsX M, M) w) := by
  have H0 := hideIt h
  have HMk := hideIt hM
  obtain ⟨W0, hW0⟩ : ∃ W0, W0 = (w.alloc (.cells #[.int .u8 0, .slice none 0 0, .slice none 0 0] 57)).alloc (.cells #[.int .u64 0, .int .u64 0, .int .u64 0, .int .u64 0, .int .u64 0, .int .u64 0, .int .u64 0, .int .u64 0] 334) := ⟨_, rfl⟩
  have hb0 : Below w.heap.size w W0 := by rw [hW0]; exact two_below _ _
  have hs0 : W0.heap[w.heap.size]? = some (.cells #[.int .u8 0, .slice none 0 0, .slice none 0 0] 57 (0, 0)) := by rw [hW0]; exact (heap_alloc_old _ _ (by simp)).trans (heap_new _ _)
  have ht0 : W0.heap[w.heap.size + 1]? = some (.cells #[.int .u64 0, .int .u64 0, .int .u64 0, .int .u64 0, .int .u64 0, .int .u64 0, .int .u64 0, .int .u64 0] 334 (0, 0)) := by rw [hW0]; exact new_at _ _ (by simp)
  obtain ⟨vs, hvs, hrg⟩ := (h.below hb0).rng
  have HVs := hideIt hvs
  have HRg := hideIt hrg
  have HI8 : Hid ((Tryz.prog.info? 148).map (·.size) = some (csM M vs).length) := by show _ = _; rw [csM_len]; exact inf148
  have HIx := hideIt (fun k (hk : k < 320) w => idx148 M vs hk w)
  have HX := hideIt (sts_eq hM hO)
  have HB := hideIt hb0
  have HS := hideIt hs0
  have HT := hideIt ht0
  obtain ⟨X, hX⟩ : ∃ X, X = (stsX M, M) := ⟨_, rfl⟩
  rw [← hX]
  have HXX := hideIt hX
  have HL0 : Hid (Lw w W0 M 0) := ⟨hb0, hs0, fun t h8 => by
    rw [box_cell ht0 t]
    match t, h8 with
    | 0, _ => rfl
    | 1, _ => rfl
    | 2, _ => rfl
    | 3, _ => rfl
    | 4, _ => rfl
    | 5, _ => rfl
    | 6, _ => rfl
    | 7, _ => rfl, fun o => fz_ss ht0 o⟩
  clear h hM hb0 hs0 ht0 hrg hX hvs hO
  generalize hcs : csM M vs = cs at *
  clear hcs
  go_enter Tryz.func80, Tryz.ntmps80
  go_upto_region 3 with fail
  rw [← hW0]
  clear hW0
  go_wp2_with (refine wpList_load_mid rfl 148 (.tmp 19) rfl B 0 rfl cs _ HRg.out Tryz.underlying148 rfl HI8.out ?_)
  go_loopw [3, 4, 5, 6, 7, 8, 9, 10, 11, 21] (fun v3 v4 v5 v6 v7 v8 v9 v10 v11 v21 wr => ∃ k : Nat, k ≤ 320 ∧ v21 = .int .i64 (k : Int) ∧ v3 = .int .u64 (stO M k) ∧ v4 = .int .u64 (stG M k) ∧ v5 = .int .u64 (stR M k) ∧ v6 = .int .u64 (stA M k) ∧ v7 = .int .u64 (stB M k) ∧ v8 = .int .u64 (stC M k) ∧ v9 = .int .u64 (stD M k) ∧ v10 = .int .u64 (stX M k) ∧ v11 = .int .u64 (stY M k) ∧ Lw w wr M k) (fun _ _ _ _ _ _ _ _ _ j _ => 320 - (intOf j).toNat)
  case atStart => exact ⟨0, by omega, rfl, rfl, rfl, rfl, rfl, rfl, rfl, rfl, rfl, rfl, HL0.out⟩
  case round =>
    obtain ⟨k, hk, rfl, rfl, rfl, rfl, rfl, rfl, rfl, rfl, rfl, rfl, hlw⟩ := hrel
    by_cases hlt : k < 320
    · have hlt' : (k : Int) < 320 := by omega
      have hix : ∀ w, (Instr.index 148 (.agg cs.toArray) (.int .i64 (k : Int))).run Tryz.prog w = .ok (.agg #[.int .u32 (M k).gen, .int .u8 (M k).typ, .int .u64 (M k).bas, .int .u64 (M k).siz, .int .i64 (pz (M k).par), vs k]) w := fun w => HIx.out k hlt w
      have hvf := (HVs.out k hlt).form
      have hO3 := sumF_one1 (p := fun i => (M i).typ ≠ 0 ∧ i < 256) k
      have hO4 := sumF_one1 (p := fun i => (M i).typ ≠ 0 ∧ 256 ≤ i) k
      have hO5 := sumF_one1 (p := fun i => (M i).typ ≠ 0 ∧ 256 ≤ i ∧ (M i).par = 65535) k
      have hO6 := sumF_one1 (p := fun i => (M i).typ = 0 ∧ (M i).gen ≠ 4294967295 ∧ i < 256) k
      have hO7 := sumF_one1 (p := fun i => (M i).typ = 0 ∧ (M i).gen ≠ 4294967295 ∧ 256 ≤ i) k
      have hO8 := sumF_one1 (p := fun i => (M i).typ = 0 ∧ (M i).gen = 4294967295 ∧ i < 256) k
      have hO9 := sumF_one1 (p := fun i => (M i).typ = 0 ∧ (M i).gen = 4294967295 ∧ 256 ≤ i) k
      have hO10 := stX_rng HMk.out k hk
      have hO11 := stY_rng HMk.out k hk
      change 0 ≤ stO M k ∧ stO M k ≤ _ at hO3
      change 0 ≤ stG M k ∧ stG M k ≤ _ at hO4
      change 0 ≤ stR M k ∧ stR M k ≤ _ at hO5
      change 0 ≤ stA M k ∧ stA M k ≤ _ at hO6
      change 0 ≤ stB M k ∧ stB M k ≤ _ at hO7
      change 0 ≤ stC M k ∧ stC M k ≤ _ at hO8
      change 0 ≤ stD M k ∧ stD M k ≤ _ at hO9
      obtain ⟨tk, htk, tk7, _⟩ := HMk.out.typ k hlt
      obtain ⟨hsb, hsc, hsd⟩ := HMk.out.bas k hlt
      by_cases ht : (M k).typ = 0
      · by_cases hg : (M k).gen = 4294967295
        · by_cases hr : k < 256
          · have hr' : ¬ (k : Int) ≥ 256 := by omega
            have q3 : stO M (k + 1) = stO M k := by show stO M k + one _ = _; rw [one_neg (by omega)]; omega
            have q4 : stG M (k + 1) = stG M k := by show stG M k + one _ = _; rw [one_neg (by omega)]; omega
            have q5 : stR M (k + 1) = stR M k := by show stR M k + one _ = _; rw [one_neg (by omega)]; omega
            have q6 : stA M (k + 1) = stA M k := by show stA M k + one _ = _; rw [one_neg (by omega)]; omega
            have q7 : stB M (k + 1) = stB M k := by show stB M k + one _ = _; rw [one_neg (by omega)]; omega
            have q8 : stC M (k + 1) = stC M k + 1 := by show stC M k + one _ = _; rw [one_pos (by omega)]
            have q9 : stD M (k + 1) = stD M k := by show stD M k + one _ = _; rw [one_neg (by omega)]; omega
            have q10 : stX M (k + 1) = stX M k := by show stX M k + siF _ _ = _; rw [siF_neg (by omega)]; omega
            have q11 : stY M (k + 1) = stY M k := by show stY M k + siF _ _ = _; rw [siF_neg (by omega)]; omega
            have u8w : IntKind.u64.wrap (stC M k + 1) = stC M k + 1 := u64_same (by omega) (by omega)
            have Q3 := hideIt q3
            have Q4 := hideIt q4
            have Q5 := hideIt q5
            have Q6 := hideIt q6
            have Q7 := hideIt q7
            have Q8 := hideIt q8
            have Q9 := hideIt q9
            have Q10 := hideIt q10
            have Q11 := hideIt q11
            clear q3 hO3 q4 hO4 q5 hO5 q6 hO6 q7 hO7 q8 hO8 q9 hO9 q10 hO10 q11 hO11
            have HLw2 := hideIt (hlw.dead (.cells #[.int .u32 (M k).gen, .int .u8 0, .int .u64 (M k).bas, .int .u64 (M k).siz, .int .i64 (pz (M k).par), vs k] 147) (fun t _ => by
              show stT M t k + one _ = _
              rw [one_neg (fun z => z.1 ht)]
              omega))
            rw [ht] at hix
            rw [hg] at hix HLw2
            clear htk ht hg hr
            generalize stO M k = c3 at *
            generalize stG M k = c4 at *
            generalize stR M k = c5 at *
            generalize stA M k = c6 at *
            generalize stB M k = c7 at *
            generalize stC M k = c8 at *
            generalize stD M k = c9 at *
            generalize stX M k = c10 at *
            generalize stY M k = c11 at *
            generalize (M k).siz = sz at *
            generalize (M k).gen = gn at *
            generalize (M k).bas = ba at *
            generalize pz (M k).par = pk at *
            generalize vs k = vk at *
            obtain ⟨va, vc, rfl⟩ := hvf
            generalize (M k).wds.length = vl at *
            clear hlw
            go_wp2_with fail
            go_roundw
            case rel => exact ⟨k + 1, by omega, by go_num, by rw [Q3.out], by rw [Q4.out], by rw [Q5.out], by rw [Q6.out], by rw [Q7.out], by rw [Q8.out], by rw [Q9.out], by rw [Q10.out], by rw [Q11.out], HLw2.out⟩
            case measure => simp [intOf]; omega
          · have hr' : (k : Int) ≥ 256 := by omega
            have q3 : stO M (k + 1) = stO M k := by show stO M k + one _ = _; rw [one_neg (by omega)]; omega
            have q4 : stG M (k + 1) = stG M k := by show stG M k + one _ = _; rw [one_neg (by omega)]; omega
            have q5 : stR M (k + 1) = stR M k := by show stR M k + one _ = _; rw [one_neg (by omega)]; omega
            have q6 : stA M (k + 1) = stA M k := by show stA M k + one _ = _; rw [one_neg (by omega)]; omega
            have q7 : stB M (k + 1) = stB M k := by show stB M k + one _ = _; rw [one_neg (by omega)]; omega
            have q8 : stC M (k + 1) = stC M k := by show stC M k + one _ = _; rw [one_neg (by omega)]; omega
            have q9 : stD M (k + 1) = stD M k + 1 := by show stD M k + one _ = _; rw [one_pos (by omega)]
            have q10 : stX M (k + 1) = stX M k := by show stX M k + siF _ _ = _; rw [siF_neg (by omega)]; omega
            have q11 : stY M (k + 1) = stY M k := by show stY M k + siF _ _ = _; rw [siF_neg (by omega)]; omega
            have u9w : IntKind.u64.wrap (stD M k + 1) = stD M k + 1 := u64_same (by omega) (by omega)
            have Q3 := hideIt q3
            have Q4 := hideIt q4
            have Q5 := hideIt q5
            have Q6 := hideIt q6
            have Q7 := hideIt q7
            have Q8 := hideIt q8
            have Q9 := hideIt q9
            have Q10 := hideIt q10
            have Q11 := hideIt q11
            clear q3 hO3 q4 hO4 q5 hO5 q6 hO6 q7 hO7 q8 hO8 q9 hO9 q10 hO10 q11 hO11
            have HLw2 := hideIt (hlw.dead (.cells #[.int .u32 (M k).gen, .int .u8 0, .int .u64 (M k).bas, .int .u64 (M k).siz, .int .i64 (pz (M k).par), vs k] 147) (fun t _ => by
              show stT M t k + one _ = _
              rw [one_neg (fun z => z.1 ht)]
              omega))
            rw [ht] at hix
            rw [hg] at hix HLw2
            clear htk ht hg hr
            generalize stO M k = c3 at *
            generalize stG M k = c4 at *
            generalize stR M k = c5 at *
            generalize stA M k = c6 at *
            generalize stB M k = c7 at *
            generalize stC M k = c8 at *
            generalize stD M k = c9 at *
            generalize stX M k = c10 at *
            generalize stY M k = c11 at *
            generalize (M k).siz = sz at *
            generalize (M k).gen = gn at *
            generalize (M k).bas = ba at *
            generalize pz (M k).par = pk at *
            generalize vs k = vk at *
            obtain ⟨va, vc, rfl⟩ := hvf
            generalize (M k).wds.length = vl at *
            clear hlw
            go_wp2_with fail
            go_roundw
            case rel => exact ⟨k + 1, by omega, by go_num, by rw [Q3.out], by rw [Q4.out], by rw [Q5.out], by rw [Q6.out], by rw [Q7.out], by rw [Q8.out], by rw [Q9.out], by rw [Q10.out], by rw [Q11.out], HLw2.out⟩
            case measure => simp [intOf]; omega
        · by_cases hr : k < 256
          · have hr' : ¬ (k : Int) ≥ 256 := by omega
            have hgb : ((M k).gen == 4294967295) = false := by rw [beq_eq_false_iff_ne]; exact hg
            have q3 : stO M (k + 1) = stO M k := by show stO M k + one _ = _; rw [one_neg (by omega)]; omega
            have q4 : stG M (k + 1) = stG M k := by show stG M k + one _ = _; rw [one_neg (by omega)]; omega
            have q5 : stR M (k + 1) = stR M k := by show stR M k + one _ = _; rw [one_neg (by omega)]; omega
            have q6 : stA M (k + 1) = stA M k + 1 := by show stA M k + one _ = _; rw [one_pos (by omega)]
            have q7 : stB M (k + 1) = stB M k := by show stB M k + one _ = _; rw [one_neg (by omega)]; omega
            have q8 : stC M (k + 1) = stC M k := by show stC M k + one _ = _; rw [one_neg (by omega)]; omega
            have q9 : stD M (k + 1) = stD M k := by show stD M k + one _ = _; rw [one_neg (by omega)]; omega
            have q10 : stX M (k + 1) = stX M k := by show stX M k + siF _ _ = _; rw [siF_neg (by omega)]; omega
            have q11 : stY M (k + 1) = stY M k := by show stY M k + siF _ _ = _; rw [siF_neg (by omega)]; omega
            have u6w : IntKind.u64.wrap (stA M k + 1) = stA M k + 1 := u64_same (by omega) (by omega)
            have Q3 := hideIt q3
            have Q4 := hideIt q4
            have Q5 := hideIt q5
            have Q6 := hideIt q6
            have Q7 := hideIt q7
            have Q8 := hideIt q8
            have Q9 := hideIt q9
            have Q10 := hideIt q10
            have Q11 := hideIt q11
            clear q3 hO3 q4 hO4 q5 hO5 q6 hO6 q7 hO7 q8 hO8 q9 hO9 q10 hO10 q11 hO11
            have HLw2 := hideIt (hlw.dead (.cells #[.int .u32 (M k).gen, .int .u8 0, .int .u64 (M k).bas, .int .u64 (M k).siz, .int .i64 (pz (M k).par), vs k] 147) (fun t _ => by
              show stT M t k + one _ = _
              rw [one_neg (fun z => z.1 ht)]
              omega))
            rw [ht] at hix
            clear htk ht hg hr
            generalize stO M k = c3 at *
            generalize stG M k = c4 at *
            generalize stR M k = c5 at *
            generalize stA M k = c6 at *
            generalize stB M k = c7 at *
            generalize stC M k = c8 at *
            generalize stD M k = c9 at *
            generalize stX M k = c10 at *
            generalize stY M k = c11 at *
            generalize (M k).siz = sz at *
            generalize (M k).gen = gn at *
            generalize (M k).bas = ba at *
            generalize pz (M k).par = pk at *
            generalize vs k = vk at *
            obtain ⟨va, vc, rfl⟩ := hvf
            generalize (M k).wds.length = vl at *
            clear hlw
            go_wp2_with fail
            go_roundw
            case rel => exact ⟨k + 1, by omega, by go_num, by rw [Q3.out], by rw [Q4.out], by rw [Q5.out], by rw [Q6.out], by rw [Q7.out], by rw [Q8.out], by rw [Q9.out], by rw [Q10.out], by rw [Q11.out], HLw2.out⟩
            case measure => simp [intOf]; omega
          · have hr' : (k : Int) ≥ 256 := by omega
            have hgb : ((M k).gen == 4294967295) = false := by rw [beq_eq_false_iff_ne]; exact hg
            have q3 : stO M (k + 1) = stO M k := by show stO M k + one _ = _; rw [one_neg (by omega)]; omega
            have q4 : stG M (k + 1) = stG M k := by show stG M k + one _ = _; rw [one_neg (by omega)]; omega
            have q5 : stR M (k + 1) = stR M k := by show stR M k + one _ = _; rw [one_neg (by omega)]; omega
            have q6 : stA M (k + 1) = stA M k := by show stA M k + one _ = _; rw [one_neg (by omega)]; omega
            have q7 : stB M (k + 1) = stB M k + 1 := by show stB M k + one _ = _; rw [one_pos (by omega)]
            have q8 : stC M (k + 1) = stC M k := by show stC M k + one _ = _; rw [one_neg (by omega)]; omega
            have q9 : stD M (k + 1) = stD M k := by show stD M k + one _ = _; rw [one_neg (by omega)]; omega
            have q10 : stX M (k + 1) = stX M k := by show stX M k + siF _ _ = _; rw [siF_neg (by omega)]; omega
            have q11 : stY M (k + 1) = stY M k := by show stY M k + siF _ _ = _; rw [siF_neg (by omega)]; omega
            have u7w : IntKind.u64.wrap (stB M k + 1) = stB M k + 1 := u64_same (by omega) (by omega)
            have Q3 := hideIt q3
            have Q4 := hideIt q4
            have Q5 := hideIt q5
            have Q6 := hideIt q6
            have Q7 := hideIt q7
            have Q8 := hideIt q8
            have Q9 := hideIt q9
            have Q10 := hideIt q10
            have Q11 := hideIt q11
            clear q3 hO3 q4 hO4 q5 hO5 q6 hO6 q7 hO7 q8 hO8 q9 hO9 q10 hO10 q11 hO11
            have HLw2 := hideIt (hlw.dead (.cells #[.int .u32 (M k).gen, .int .u8 0, .int .u64 (M k).bas, .int .u64 (M k).siz, .int .i64 (pz (M k).par), vs k] 147) (fun t _ => by
              show stT M t k + one _ = _
              rw [one_neg (fun z => z.1 ht)]
              omega))
            rw [ht] at hix
            clear htk ht hg hr
            generalize stO M k = c3 at *
            generalize stG M k = c4 at *
            generalize stR M k = c5 at *
            generalize stA M k = c6 at *
            generalize stB M k = c7 at *
            generalize stC M k = c8 at *
            generalize stD M k = c9 at *
            generalize stX M k = c10 at *
            generalize stY M k = c11 at *
            generalize (M k).siz = sz at *
            generalize (M k).gen = gn at *
            generalize (M k).bas = ba at *
            generalize pz (M k).par = pk at *
            generalize vs k = vk at *
            obtain ⟨va, vc, rfl⟩ := hvf
            generalize (M k).wds.length = vl at *
            clear hlw
            go_wp2_with fail
            go_roundw
            case rel => exact ⟨k + 1, by omega, by go_num, by rw [Q3.out], by rw [Q4.out], by rw [Q5.out], by rw [Q6.out], by rw [Q7.out], by rw [Q8.out], by rw [Q9.out], by rw [Q10.out], by rw [Q11.out], HLw2.out⟩
            case measure => simp [intOf]; omega
      · by_cases hr : k < 256
        · have hr' : ¬ (k : Int) ≥ 256 := by omega
          have q3 : stO M (k + 1) = stO M k + 1 := by show stO M k + one _ = _; rw [one_pos (by omega)]
          have q4 : stG M (k + 1) = stG M k := by show stG M k + one _ = _; rw [one_neg (by omega)]; omega
          have q5 : stR M (k + 1) = stR M k := by show stR M k + one _ = _; rw [one_neg (by omega)]; omega
          have q6 : stA M (k + 1) = stA M k := by show stA M k + one _ = _; rw [one_neg (by omega)]; omega
          have q7 : stB M (k + 1) = stB M k := by show stB M k + one _ = _; rw [one_neg (by omega)]; omega
          have q8 : stC M (k + 1) = stC M k := by show stC M k + one _ = _; rw [one_neg (by omega)]; omega
          have q9 : stD M (k + 1) = stD M k := by show stD M k + one _ = _; rw [one_neg (by omega)]; omega
          have q10 : stX M (k + 1) = stX M k + (M k).siz := by show stX M k + siF _ _ = _; rw [siF_pos (by omega)]
          have q11 : stY M (k + 1) = stY M k := by show stY M k + siF _ _ = _; rw [siF_neg (by omega)]; omega
          have u3w : IntKind.u64.wrap (stO M k + 1) = stO M k + 1 := u64_same (by omega) (by omega)
          have u10w : IntKind.u64.wrap (stX M k + (M k).siz) = stX M k + (M k).siz := u64_same (by omega) (by omega)
          have Q3 := hideIt q3
          have Q4 := hideIt q4
          have Q5 := hideIt q5
          have Q6 := hideIt q6
          have Q7 := hideIt q7
          have Q8 := hideIt q8
          have Q9 := hideIt q9
          have Q10 := hideIt q10
          have Q11 := hideIt q11
          clear q3 hO3 q4 hO4 q5 hO5 q6 hO6 q7 hO7 q8 hO8 q9 hO9 q10 hO10 q11 hO11
          have htr := sumF_one1 (p := fun i => (M i).typ ≠ 0 ∧ (M i).typ = (tk : Int)) k
          have hutw : IntKind.u64.wrap (stT M tk k + 1) = stT M tk k + 1 := u64_same (by unfold stT; omega) (by unfold stT; omega)
          have HLw2 := hideIt (hlw.live (.cells #[.int .u32 (M k).gen, .int .u8 (tk : Int), .int .u64 (M k).bas, .int .u64 (M k).siz, .int .i64 (pz (M k).par), vs k] 147) (tk := tk) (by omega) (fun t _ => by
            show stT M t k + one _ = _
            by_cases e : t = tk
            · rw [if_pos e, one_pos ⟨ht, by rw [e]; exact htk⟩, e]
            · rw [if_neg e, one_neg (fun z => e (by omega))]
              omega))
          have hct := ((alloc_below (w := wr) (.cells #[.int .u32 (M k).gen, .int .u8 (tk : Int), .int .u64 (M k).bas, .int .u64 (M k).siz, .int .i64 (pz (M k).par), vs k] 147)).cell (p := ⟨w.heap.size + 1, tk, none⟩) hlw.lt).trans (hlw.cnt tk (by omega))
          have hcf := (World.frozen?_of_block (a := ⟨w.heap.size + 1, tk, none⟩) ((alloc_below (w := wr) (.cells #[.int .u32 (M k).gen, .int .u8 (tk : Int), .int .u64 (M k).bas, .int .u64 (M k).siz, .int .i64 (pz (M k).par), vs k] 147)).block _ hlw.lt)).trans (hlw.fz tk)
          have ht8 : (tk : Int) < 8 := by omega
          have htb : ((tk : Int) == 0) = false := by rw [beq_eq_false_iff_ne]; omega
          have htn : ((tk : Int) != 0) = true := by rw [bne_iff_ne]; omega
          rw [htk] at hix
          clear htk htr ht hr
          generalize stT M tk k = ct at *
          generalize stO M k = c3 at *
          generalize stG M k = c4 at *
          generalize stR M k = c5 at *
          generalize stA M k = c6 at *
          generalize stB M k = c7 at *
          generalize stC M k = c8 at *
          generalize stD M k = c9 at *
          generalize stX M k = c10 at *
          generalize stY M k = c11 at *
          generalize (M k).siz = sz at *
          generalize (M k).gen = gn at *
          generalize (M k).bas = ba at *
          generalize pz (M k).par = pk at *
          generalize vs k = vk at *
          obtain ⟨va, vc, rfl⟩ := hvf
          generalize (M k).wds.length = vl at *
          clear hlw
          go_wp2_with fail
          go_roundw
          case rel => exact ⟨k + 1, by omega, by go_num, by rw [Q3.out], by rw [Q4.out], by rw [Q5.out], by rw [Q6.out], by rw [Q7.out], by rw [Q8.out], by rw [Q9.out], by rw [Q10.out], by rw [Q11.out], HLw2.out⟩
          case measure => simp [intOf]; omega
        · have hr' : (k : Int) ≥ 256 := by omega
          by_cases hp : (M k).par = 65535
          · have hpz : pz (M k).par = -1 := by rw [hp]; rfl
            have q3 : stO M (k + 1) = stO M k := by show stO M k + one _ = _; rw [one_neg (by omega)]; omega
            have q4 : stG M (k + 1) = stG M k + 1 := by show stG M k + one _ = _; rw [one_pos (by omega)]
            have q5 : stR M (k + 1) = stR M k + 1 := by show stR M k + one _ = _; rw [one_pos (by omega)]
            have q6 : stA M (k + 1) = stA M k := by show stA M k + one _ = _; rw [one_neg (by omega)]; omega
            have q7 : stB M (k + 1) = stB M k := by show stB M k + one _ = _; rw [one_neg (by omega)]; omega
            have q8 : stC M (k + 1) = stC M k := by show stC M k + one _ = _; rw [one_neg (by omega)]; omega
            have q9 : stD M (k + 1) = stD M k := by show stD M k + one _ = _; rw [one_neg (by omega)]; omega
            have q10 : stX M (k + 1) = stX M k := by show stX M k + siF _ _ = _; rw [siF_neg (by omega)]; omega
            have q11 : stY M (k + 1) = stY M k + (M k).siz := by show stY M k + siF _ _ = _; rw [siF_pos (by omega)]
            have u4w : IntKind.u64.wrap (stG M k + 1) = stG M k + 1 := u64_same (by omega) (by omega)
            have u5w : IntKind.u64.wrap (stR M k + 1) = stR M k + 1 := u64_same (by omega) (by omega)
            have u11w : IntKind.u64.wrap (stY M k + (M k).siz) = stY M k + (M k).siz := u64_same (by omega) (by omega)
            have Q3 := hideIt q3
            have Q4 := hideIt q4
            have Q5 := hideIt q5
            have Q6 := hideIt q6
            have Q7 := hideIt q7
            have Q8 := hideIt q8
            have Q9 := hideIt q9
            have Q10 := hideIt q10
            have Q11 := hideIt q11
            clear q3 hO3 q4 hO4 q5 hO5 q6 hO6 q7 hO7 q8 hO8 q9 hO9 q10 hO10 q11 hO11
            have htr := sumF_one1 (p := fun i => (M i).typ ≠ 0 ∧ (M i).typ = (tk : Int)) k
            have hutw : IntKind.u64.wrap (stT M tk k + 1) = stT M tk k + 1 := u64_same (by unfold stT; omega) (by unfold stT; omega)
            have HLw2 := hideIt (hlw.live (.cells #[.int .u32 (M k).gen, .int .u8 (tk : Int), .int .u64 (M k).bas, .int .u64 (M k).siz, .int .i64 (pz (M k).par), vs k] 147) (tk := tk) (by omega) (fun t _ => by
              show stT M t k + one _ = _
              by_cases e : t = tk
              · rw [if_pos e, one_pos ⟨ht, by rw [e]; exact htk⟩, e]
              · rw [if_neg e, one_neg (fun z => e (by omega))]
                omega))
            have hct := ((alloc_below (w := wr) (.cells #[.int .u32 (M k).gen, .int .u8 (tk : Int), .int .u64 (M k).bas, .int .u64 (M k).siz, .int .i64 (pz (M k).par), vs k] 147)).cell (p := ⟨w.heap.size + 1, tk, none⟩) hlw.lt).trans (hlw.cnt tk (by omega))
            have hcf := (World.frozen?_of_block (a := ⟨w.heap.size + 1, tk, none⟩) ((alloc_below (w := wr) (.cells #[.int .u32 (M k).gen, .int .u8 (tk : Int), .int .u64 (M k).bas, .int .u64 (M k).siz, .int .i64 (pz (M k).par), vs k] 147)).block _ hlw.lt)).trans (hlw.fz tk)
            have ht8 : (tk : Int) < 8 := by omega
            have htb : ((tk : Int) == 0) = false := by rw [beq_eq_false_iff_ne]; omega
            have htn : ((tk : Int) != 0) = true := by rw [bne_iff_ne]; omega
            rw [htk] at hix
            rw [hpz] at hix HLw2 hct hcf
            clear htk htr ht hr hp hpz
            generalize stT M tk k = ct at *
            generalize stO M k = c3 at *
            generalize stG M k = c4 at *
            generalize stR M k = c5 at *
            generalize stA M k = c6 at *
            generalize stB M k = c7 at *
            generalize stC M k = c8 at *
            generalize stD M k = c9 at *
            generalize stX M k = c10 at *
            generalize stY M k = c11 at *
            generalize (M k).siz = sz at *
            generalize (M k).gen = gn at *
            generalize (M k).bas = ba at *
            generalize pz (M k).par = pk at *
            generalize vs k = vk at *
            obtain ⟨va, vc, rfl⟩ := hvf
            generalize (M k).wds.length = vl at *
            clear hlw
            go_wp2_with fail
            go_roundw
            case rel => exact ⟨k + 1, by omega, by go_num, by rw [Q3.out], by rw [Q4.out], by rw [Q5.out], by rw [Q6.out], by rw [Q7.out], by rw [Q8.out], by rw [Q9.out], by rw [Q10.out], by rw [Q11.out], HLw2.out⟩
            case measure => simp [intOf]; omega
          · have hpb := pz_nb9 HMk.out hlt hp
            have q3 : stO M (k + 1) = stO M k := by show stO M k + one _ = _; rw [one_neg (by omega)]; omega
            have q4 : stG M (k + 1) = stG M k + 1 := by show stG M k + one _ = _; rw [one_pos (by omega)]
            have q5 : stR M (k + 1) = stR M k := by show stR M k + one _ = _; rw [one_neg (by omega)]; omega
            have q6 : stA M (k + 1) = stA M k := by show stA M k + one _ = _; rw [one_neg (by omega)]; omega
            have q7 : stB M (k + 1) = stB M k := by show stB M k + one _ = _; rw [one_neg (by omega)]; omega
            have q8 : stC M (k + 1) = stC M k := by show stC M k + one _ = _; rw [one_neg (by omega)]; omega
            have q9 : stD M (k + 1) = stD M k := by show stD M k + one _ = _; rw [one_neg (by omega)]; omega
            have q10 : stX M (k + 1) = stX M k := by show stX M k + siF _ _ = _; rw [siF_neg (by omega)]; omega
            have q11 : stY M (k + 1) = stY M k := by show stY M k + siF _ _ = _; rw [siF_neg (by omega)]; omega
            have u4w : IntKind.u64.wrap (stG M k + 1) = stG M k + 1 := u64_same (by omega) (by omega)
            have Q3 := hideIt q3
            have Q4 := hideIt q4
            have Q5 := hideIt q5
            have Q6 := hideIt q6
            have Q7 := hideIt q7
            have Q8 := hideIt q8
            have Q9 := hideIt q9
            have Q10 := hideIt q10
            have Q11 := hideIt q11
            clear q3 hO3 q4 hO4 q5 hO5 q6 hO6 q7 hO7 q8 hO8 q9 hO9 q10 hO10 q11 hO11
            have htr := sumF_one1 (p := fun i => (M i).typ ≠ 0 ∧ (M i).typ = (tk : Int)) k
            have hutw : IntKind.u64.wrap (stT M tk k + 1) = stT M tk k + 1 := u64_same (by unfold stT; omega) (by unfold stT; omega)
            have HLw2 := hideIt (hlw.live (.cells #[.int .u32 (M k).gen, .int .u8 (tk : Int), .int .u64 (M k).bas, .int .u64 (M k).siz, .int .i64 (pz (M k).par), vs k] 147) (tk := tk) (by omega) (fun t _ => by
              show stT M t k + one _ = _
              by_cases e : t = tk
              · rw [if_pos e, one_pos ⟨ht, by rw [e]; exact htk⟩, e]
              · rw [if_neg e, one_neg (fun z => e (by omega))]
                omega))
            have hct := ((alloc_below (w := wr) (.cells #[.int .u32 (M k).gen, .int .u8 (tk : Int), .int .u64 (M k).bas, .int .u64 (M k).siz, .int .i64 (pz (M k).par), vs k] 147)).cell (p := ⟨w.heap.size + 1, tk, none⟩) hlw.lt).trans (hlw.cnt tk (by omega))
            have hcf := (World.frozen?_of_block (a := ⟨w.heap.size + 1, tk, none⟩) ((alloc_below (w := wr) (.cells #[.int .u32 (M k).gen, .int .u8 (tk : Int), .int .u64 (M k).bas, .int .u64 (M k).siz, .int .i64 (pz (M k).par), vs k] 147)).block _ hlw.lt)).trans (hlw.fz tk)
            have ht8 : (tk : Int) < 8 := by omega
            have htb : ((tk : Int) == 0) = false := by rw [beq_eq_false_iff_ne]; omega
            have htn : ((tk : Int) != 0) = true := by rw [bne_iff_ne]; omega
            rw [htk] at hix
            clear htk htr ht hr hp
            generalize stT M tk k = ct at *
            generalize stO M k = c3 at *
            generalize stG M k = c4 at *
            generalize stR M k = c5 at *
            generalize stA M k = c6 at *
            generalize stB M k = c7 at *
            generalize stC M k = c8 at *
            generalize stD M k = c9 at *
            generalize stX M k = c10 at *
            generalize stY M k = c11 at *
            generalize (M k).siz = sz at *
            generalize (M k).gen = gn at *
            generalize (M k).bas = ba at *
            generalize pz (M k).par = pk at *
            generalize vs k = vk at *
            obtain ⟨va, vc, rfl⟩ := hvf
            generalize (M k).wds.length = vl at *
            clear hlw
            go_wp2_with fail
            go_roundw
            case rel => exact ⟨k + 1, by omega, by go_num, by rw [Q3.out], by rw [Q4.out], by rw [Q5.out], by rw [Q6.out], by rw [Q7.out], by rw [Q8.out], by rw [Q9.out], by rw [Q10.out], by rw [Q11.out], HLw2.out⟩
            case measure => simp [intOf]; omega
    · have hk3 : k = 320 := by omega
      subst hk3
      obtain ⟨k2, hi2, hz2, hs2, hb2⟩ := info_parts inf34s
      have HBr := hideIt hlw.bel
      have HBx := hideIt hlw.box
      have HLr : Hid (w.heap.size < wr.heap.size) := by have := hlw.lt; show _ < _; omega
      obtain ⟨zs, hzs⟩ : ∃ zs, zs = (List.range 8).map (fun t => Value.int .u64 (stT M t 320)) := ⟨_, rfl⟩
      have HZl : Hid (zs.length = 8 * 1) := by show _ = _; rw [hzs]; simp
      have HZc : Hid (∀ j u, zs[j]? = some u → (wr.alloc (.cells #[.int .u64 (stO M 320), .int .u64 (stG M 320), .int .u64 (stR M 320), .int .u64 (stA M 320), .int .u64 (stB M 320), .int .u64 (stC M 320), .int .u64 (stD M 320)] 34)).cell? ((⟨w.heap.size + 1, 0, none⟩ : Addr).add j) = some u) := fun j u hu => by
        rw [hzs, List.getElem?_map] at hu
        obtain ⟨t, ht, rfl⟩ := Option.map_eq_some_iff.1 hu
        have hj : j < 8 := by have := (List.getElem?_eq_some_iff.1 ht).1; simpa using this
        rw [List.getElem?_range hj] at ht
        obtain rfl := Option.some.inj ht
        have e : (⟨w.heap.size + 1, 0, none⟩ : Addr).add j = ⟨w.heap.size + 1, j, none⟩ := by unfold Addr.add; by_cases e : j = 0 <;> simp [e]
        rw [e]
        exact ((alloc_below (w := wr) _).cell (p := ⟨w.heap.size + 1, j, none⟩) hlw.lt).trans (hlw.cnt j hj)
      have HZo : Hid (∀ v ∈ zs, v.oneCell' = true) := fun v hv => by
        rw [hzs] at hv
        obtain ⟨t, _, rfl⟩ := List.mem_map.1 hv
        rfl
      have HX3 : Hid (X = (⟨0, [], [stO M 320, stG M 320, stR M 320, stA M 320, stB M 320, stC M 320, stD M 320] ++ (List.range 8).map (fun t => stT M t 320) ++ [stX M 320, stY M 320]⟩, M)) := by show X = _; rw [HXX.out, HX.out]
      have HZs : Hid (zs = ((List.range 8).map (fun t => stT M t 320)).map (Value.int .u64)) := by show zs = _; rw [hzs, List.map_map]; rfl
      obtain ⟨tl, htl⟩ : ∃ tl, tl = (List.range 8).map (fun t => stT M t 320) := ⟨_, rfl⟩
      rw [← htl] at HX3 HZs
      have HTl : Hid (tl.length = 8) := by show _ = _; rw [htl]; simp
      clear hlw hzs htl HXX HX HRg HI8 HIx HL0
      generalize stO M 320 = c3 at *
      generalize stG M 320 = c4 at *
      generalize stR M 320 = c5 at *
      generalize stA M 320 = c6 at *
      generalize stB M 320 = c7 at *
      generalize stC M 320 = c8 at *
      generalize stD M 320 = c9 at *
      generalize stX M 320 = c10 at *
      generalize stY M 320 = c11 at *
      go_wp2_with (first | (at_builtin; refine wpList_append_own_at _ rfl (.tmp 104) (.tmp 105) 35 rfl wr.heap.size 34 k2 (.int .u64 0) 1 8 Tryz.underlying35 hi2 hz2 hs2 hb2 rfl (by decide) _ 7 [.int .u64 c3, .int .u64 c4, .int .u64 c5, .int .u64 c6, .int .u64 c7, .int .u64 c8, .int .u64 c9] rfl (World.ownsRow_lit wr #[.int .u64 c3, .int .u64 c4, .int .u64 c5, .int .u64 c6, .int .u64 c7, .int .u64 c8, .int .u64 c9] 7 (Nat.le_refl _) (by unfold maxLen; omega) rfl) ⟨w.heap.size + 1, 0, none⟩ 8 8 zs rfl HZl.out HZc.out HZo.out (by unfold maxLen; omega) (by omega) (by simp) ?_; intro v1 w8 hown8 hgrow8 _ hwh8; have HO8 := hideIt hown8; have HB8 := hideIt (Grown.below (Nat.le_refl _) hgrow8 (fun b hb => Nat.le_of_eq (Option.some.inj (show some wr.heap.size = some b from hb)))); clear hown8 hgrow8 hwh8) | (at_builtin; refine wpList_append_own_at _ rfl (.tmp 107) (.tmp 110) 35 rfl wr.heap.size 34 k2 (.int .u64 0) 1 8 Tryz.underlying35 hi2 hz2 hs2 hb2 rfl (by decide) _ _ _ rfl (World.ownsRow.alloc HO8.out _) ⟨w8.heap.size, 0, none⟩ 2 2 [.int .u64 c10, .int .u64 c11] rfl rfl (new_uu w8 c10 c11) (two_u c10 c11) (by unfold maxLen; omega) (by omega) (by have := HB8.out.size; simp; omega) ?_; intro v2 w9 hown9 hgrow9 _ hwh9; have hb9 := HB8.out.trans (Grown.below HB8.out.size hgrow9 (fun b hb => (owns_lt HO8.out b hb).1)); have HO9 := hideIt hown9; obtain ⟨a9, n9, rfl⟩ := own_form hown9; have hs9 := (hb9.block _ HLr.out).trans HBx.out; obtain ⟨q0, q1, q2, m0, m1, m2⟩ := three_cells hs9; have HB9 := hideIt hb9; have HS9 := hideIt hs9; clear hown9 hgrow9 hwh9 hb9 hs9))
      have hiu : IsU (w.heap.size + 1) w9 (.slice a9 (7 + 8 + 2) n9) ([c3, c4, c5, c6, c7, c8, c9] ++ tl ++ [c10, c11]) := by
        have h7 := Sq.mono (Sq.of_owns HO9.out ⟨a9, n9, rfl⟩) (show w.heap.size + 1 ≤ wr.heap.size from HLr.out)
        unfold IsU
        have e1 : ([c3, c4, c5, c6, c7, c8, c9] ++ tl ++ [c10, c11]).length = 7 + 8 + 2 := by simp [HTl.out]
        have e2 : ([c3, c4, c5, c6, c7, c8, c9] ++ tl ++ [c10, c11]).map (Value.int .u64) = [.int .u64 c3, .int .u64 c4, .int .u64 c5, .int .u64 c6, .int .u64 c7, .int .u64 c8, .int .u64 c9] ++ zs ++ [.int .u64 c10, .int .u64 c11] := by rw [HZs.out]; simp
        rw [e1, e2]
        exact h7
      have HZ := hideIt (three_set HS9.out (.int .u8 0) (.slice none 0 0) (.slice a9 (7 + 8 + 2) n9))
      have HF : Hid (MsP B wb M X w (.returned (.agg #[.int .u8 0, .slice none 0 0, .slice a9 (7 + 8 + 2) n9])) (((w9.setCell ⟨w.heap.size, 0, none⟩ (.int .u8 0)).setCell ⟨w.heap.size, 1, none⟩ (.slice none 0 0)).setCell ⟨w.heap.size, 2, none⟩ (.slice a9 (7 + 8 + 2) n9))) := by
        show MsP _ _ _ _ _ _ _
        rw [HX3.out]
        exact MsP.finR (X := ⟨0, [], [c3, c4, c5, c6, c7, c8, c9] ++ tl ++ [c10, c11]⟩) H0.out (Below.thr HBr.out HB9.out) (Nat.le_refl _) rfl (IsR.nil _ _) hiu (.int .u8 0) (.slice none 0 0) (.slice a9 (7 + 8 + 2) n9)
      refine bodyPost_ret (v := .agg #[.int .u8 0, (.slice none 0 0), (.slice a9 (7 + 8 + 2) n9)]) ?_ rfl HF.out
      exact results_cell_row (by exact Tryz.results80) _ _ (w.heap.size) _ _ _ _ (by rfl) (by exact HZ.out) Tryz.underlying57 rfl (by kernel_rfl)
end
end Go.Proofs.Qxb6500847aGreatDoor.Os
