/-
  The wire layer, at every number.
-/
import Derived.Test.Qxb6500847aGreatDoorOsB
namespace Go.Proofs.Qxb6500847aGreatDoor.Os
open Go.RowKit FloorA
set_option maxRecDepth 100000
/-- The varint of a number. -/
def uvs (v : Nat) : List Int := if v < 128 then [(v : Int)] else ((v % 128 + 128 : Nat) : Int) :: uvs (v / 128)
termination_by v
decreasing_by omega
theorem uvs_lo {v : Nat} (h : v < 128) : uvs v = [(v : Int)] := by rw [uvs, if_pos h]
theorem uvs_hi {v : Nat} (h : 128 ≤ v) : uvs v = ((v % 128 + 128 : Nat) : Int) :: uvs (v / 128) := by rw [uvs, if_neg (by omega)]
theorem uvs_len' : ∀ (n v : Nat), v < 128 ^ (n + 1) → (uvs v).length ≤ n + 1
  | 0, v, h => by rw [uvs_lo (by simpa using h)]; simp
  | n + 1, v, h => by
    by_cases q : v < 128
    · rw [uvs_lo q]; simp
    · rw [uvs_hi (by omega)]
      have := uvs_len' n (v / 128) (Nat.div_lt_of_lt_mul (by rw [Nat.mul_comm, ← Nat.pow_succ]; exact h))
      simp only [List.length_cons]
      omega
theorem uvs_len {v : Nat} (h : v < 18446744073709551616) : (uvs v).length ≤ 10 := uvs_len' 9 v (Nat.lt_of_lt_of_le h (by decide))
theorem uvs_pos (v : Nat) : 1 ≤ (uvs v).length := by rw [uvs]; split <;> simp
theorem uvs_range : ∀ (v : Nat), ∀ b ∈ uvs v, 0 ≤ b ∧ b ≤ 255 := fun v => by
  induction v using Nat.strongRecOn with
  | _ v ih =>
    intro b hb
    by_cases q : v < 128
    · rw [uvs_lo q] at hb
      have : b = (v : Int) := by simpa using hb
      omega
    · rw [uvs_hi (by omega)] at hb
      rcases List.mem_cons.1 hb with e | e
      · omega
      · exact ih (v / 128) (by omega) b e
def big : Nat := 100000000
set_option maxHeartbeats 800000 in
theorem uvar_walk (base : Nat) (b : Value) (bs : List Int) (v : Nat) (w : World) (hv : v < 18446744073709551616) (ho : Own base w b bs) (hl : bs.length ≤ big) (hb : base ≤ w.heap.size) :
    Calls Tryz.prog 120 #[b, .int .u64 (v : Int)] w fun e w' => ∃ b', e = .returned b' ∧ Own base w' b' (bs ++ uvs v) ∧ Gr w w' b.ownBlock b'.ownBlock := by
  obtain ⟨i0, hi, hz0, hz1, hz2⟩ := info_parts Tryz.info5
  have HO := hideIt ho
  have hL := uvs_len hv
  unfold big at hl
  clear ho
  generalize hob : b.ownBlock = ob at *
  have HOB := hideIt hob
  clear hob
  go_enter Tryz.func120, Tryz.ntmps120
  go_wp2
  go_loopw [0, 1] (fun s0 s1 wr => ∃ (v' : Nat) (bs' : List Int), s1 = .int .u64 (v' : Int) ∧ v' < 18446744073709551616 ∧ Own base wr s0 bs' ∧ Gr w wr ob s0.ownBlock ∧ bs'.length ≤ bs.length + 10 ∧ bs ++ uvs v = bs' ++ uvs v') (fun _ s1 _ => (intOf s1).toNat)
  case atStart => exact ⟨v, bs, rfl, hv, HO.out, by rw [HOB.out]; exact Gr.refl _ _, by omega, rfl⟩
  case round =>
    obtain ⟨v', bs', rfl, hv', hown, hgr, hlen, hst⟩ := hrel
    have HO' := hideIt hown
    have HG := hideIt hgr
    have HST := hideIt hst
    have hsz : base ≤ wr.heap.size := by have := hgr.grown.size; omega
    obtain ⟨ad, cap, rfl⟩ := hown.shape
    clear hown hgr hst
    by_cases hlt : 128 ≤ v'
    · have c1 : (v' : Int) ≥ 128 := by omega
      go_wp2_with ((at_builtin; refine wpList_append_own_at _ rfl (.tmp 7) (.tmp 12) 38 rfl base 5 i0 (.int .u8 0) 1 1 Tryz.underlying38 hi hz0 hz1 hz2 rfl (by decide) _ _ _ rfl (HO'.out.alloc _) ⟨wr.heap.size, 0, none⟩ 1 1 [.int .u8 ((v' : Int) % 128 + 128)] rfl rfl (new_one wr _ rfl _ _) (ones _ _) (by unfold maxLen; omega) (by omega) (by simp; omega) ?_; intro b1 w1 hown1 hgrow1 _ hwh1))
      obtain ⟨o1, o2⟩ := OwnK.app (xs := [(v' : Int) % 128 + 128]) hown1 rfl hgrow1 hwh1
      have he : bs ++ uvs v = bs' ++ [(v' : Int) % 128 + 128] ++ uvs (v' / 128) := by
        rw [HST.out, uvs_hi hlt]
        have : (((v' % 128 + 128 : Nat) : Int)) = (v' : Int) % 128 + 128 := by omega
        rw [this]
        simp
      go_roundw
      case rel =>
        refine ⟨v' / 128, _, by go_num, by omega, o1, HG.out.trans o2, ?_, he⟩
        have := congrArg List.length he
        simp only [List.length_append] at this ⊢
        have := uvs_pos (v' / 128)
        omega
      case measure => simp [intOf]; omega
    · have c1 : ¬ (v' : Int) ≥ 128 := by omega
      go_wp2_with ((at_builtin; refine wpList_append_own_at _ rfl (.tmp 16) (.tmp 19) 38 rfl base 5 i0 (.int .u8 0) 1 1 Tryz.underlying38 hi hz0 hz1 hz2 rfl (by decide) _ _ _ rfl (HO'.out.alloc _) ⟨wr.heap.size, 0, none⟩ 1 1 [.int .u8 (v' : Int)] rfl rfl (new_one wr _ rfl _ _) (ones _ _) (by unfold maxLen; omega) (by omega) (by simp; omega) ?_; intro b1 w1 hown1 hgrow1 _ hwh1))
      obtain ⟨o1, o2⟩ := OwnK.app (xs := [(v' : Int)]) hown1 rfl hgrow1 hwh1
      obtain ⟨ad1, cap1, rfl⟩ := o1.shape
      go_ret
      refine ⟨_, rfl, ?_, HG.out.trans o2⟩
      rw [HST.out, uvs_lo (by omega)]
      exact o1
set_option maxHeartbeats 800000 in
theorem appDig_walk (base : Nat) (b : Value) (bs : List Int) (d : Int) (w : World) (hd0 : 0 ≤ d) (hd1 : d ≤ 18446744073709551615) (ho : Own base w b bs) (hl : bs.length ≤ big) (hb : base ≤ w.heap.size) :
    Calls Tryz.prog 121 #[b, .int .u64 d] w fun e w' => ∃ b', e = .returned b' ∧ Own base w' b' (bs ++ dbytes 8 d) ∧ Gr w w' b.ownBlock b'.ownBlock := by
  obtain ⟨i0, hi, hz0, hz1, hz2⟩ := info_parts Tryz.info5
  have HO := hideIt ho
  unfold big at hl
  clear ho
  generalize hob : b.ownBlock = ob at *
  have HOB := hideIt hob
  clear hob
  go_enter Tryz.func121, Tryz.ntmps121
  go_wp2
  go_loopw [0, 1, 5] (fun s0 s1 s5 wr => ∃ (k : Nat) (d' : Int) (bs' : List Int), k ≤ 8 ∧ s5 = .int .i64 k ∧ s1 = .int .u64 d' ∧ 0 ≤ d' ∧ d' ≤ 18446744073709551615 ∧ Own base wr s0 bs' ∧ Gr w wr ob s0.ownBlock ∧ bs'.length = bs.length + k ∧ bs ++ dbytes 8 d = bs' ++ dbytes (8 - k) d') (fun _ _ s5 _ => 8 - (intOf s5).toNat)
  case atStart => exact ⟨0, d, bs, by omega, rfl, rfl, hd0, hd1, HO.out, by rw [HOB.out]; exact Gr.refl _ _, rfl, rfl⟩
  case round =>
    obtain ⟨k, d', bs', hk, rfl, rfl, hd'0, hd'1, hown, hgr, hlen, heq⟩ := hrel
    have HO' := hideIt hown
    have HG := hideIt hgr
    have HE := hideIt heq
    have HL := hideIt hlen
    have hle : bs'.length ≤ 100000010 := by omega
    have hsz : base ≤ wr.heap.size := by have := hgr.grown.size; omega
    obtain ⟨ad, cap, rfl⟩ := hown.shape
    clear hown hgr heq hlen
    by_cases hlt : k < 8
    · go_wp2_with ((at_builtin; refine wpList_append_own_at _ rfl (.tmp 10) (.tmp 14) 38 rfl base 5 i0 (.int .u8 0) 1 1 Tryz.underlying38 hi hz0 hz1 hz2 rfl (by decide) _ _ _ rfl (HO'.out.alloc _) ⟨wr.heap.size, 0, none⟩ 1 1 [.int .u8 (d' % 256)] rfl rfl (new_one wr _ rfl _ _) (ones _ _) (by unfold maxLen; omega) (by omega) (by simp; omega) ?_; intro b1 w1 hown1 hgrow1 _ hwh1))
      obtain ⟨o1, o2⟩ := OwnK.app (xs := [d' % 256]) hown1 rfl hgrow1 hwh1
      go_roundw
      case rel =>
        refine ⟨k + 1, d' / 256, _, by omega, by go_num, rfl, by omega, by omega, o1, HG.out.trans o2, ?_, ?_⟩
        · have := HL.out; simp; omega
        · rw [HE.out, show 8 - k = (8 - (k + 1)) + 1 by omega]
          simp [dbytes]
      case measure => simp [intOf]; omega
    · go_wp2
      go_ret
      refine ⟨_, rfl, ?_, HG.out⟩
      rw [HE.out, show 8 - k = 0 by omega]
      simp only [dbytes, List.append_nil]
      exact HO'.out
set_option maxHeartbeats 800000 in
theorem dig_walk (g o n cap : Nat) (bs : List Int) (w : World) (hn : bs.length = n) (hm : n ≤ big) (hb : BytesAt w g o bs) :
    Calls Tryz.prog 102 #[.slice (some ⟨g, o, none⟩) n cap] w fun e w' => e = .returned (.int .u64 (dig bs)) ∧ w' = w := by
  have HB : Hid (BytesAt w g o bs) := hb
  have HN : Hid (bs.length = n) := hn
  unfold big at hm
  clear hb hn
  go_enter Tryz.func102, Tryz.ntmps102
  go_wp2
  go_loop [3, 8] (fun h i => ∃ (k : Nat), k ≤ n ∧ i = .int .i64 k ∧ h = .int .u64 ((bs.take k).foldl digStep 7640891576956012808)) (fun _ i => n - (intOf i).toNat)
  case atStart => exact ⟨0, by omega, rfl, rfl⟩
  case round =>
    obtain ⟨k, hk, rfl, rfl⟩ := hrel
    by_cases hlt : k < n
    · obtain ⟨hc, hc0, hc1⟩ := HB.out k (by rw [HN.out]; exact hlt)
      have HF := hideIt (fold_take_succ bs 7640891576956012808 k (by rw [HN.out]; exact hlt))
      generalize bs.getD k 0 = c at *
      generalize (bs.take k).foldl digStep 7640891576956012808 = h at *
      go_wp2
      go_round
      case rel => exact ⟨k + 1, by omega, by go_num, by rw [HF.out]; rfl⟩
      case measure => simp [intOf]; omega
    · have HT : Hid (dig bs = digEnd ((bs.take k).foldl digStep 7640891576956012808) n) := by
        have e : bs.take k = bs := List.take_of_length_le (by rw [HN.out]; omega)
        show dig bs = _
        rw [e, ← HN.out]
        rfl
      generalize (bs.take k).foldl digStep 7640891576956012808 = h at *
      go_wp2
      go_ret
      exact ⟨ret_int HT.out.symm, rfl⟩
end Go.Proofs.Qxb6500847aGreatDoor.Os
