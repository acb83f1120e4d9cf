/-
  The walk of FullListingNeedsTrueFloor.
-/
import Derived.Test.Qxb6500847aGreatDoorFloorI
namespace Go.Proofs.Qxb6500847aGreatDoor.FloorA
open Go.RowKit
set_option maxRecDepth 100000

/-! ### The numbers and their bytes -/
def flat : Nat → List Int
  | 0 => []
  | n + 1 => 0 :: 1 :: 0 :: flat n
theorem flat_len : ∀ n, (flat n).length = 3 * n
  | 0 => rfl
  | n + 1 => by simp [flat, flat_len n]; omega
theorem flat_get : ∀ (n k : Nat), k < n → (flat n).getD (3 * k) 9 = 0 ∧ (flat n).getD (3 * k + 1) 9 = 1 ∧ (flat n).getD (3 * k + 1 + 1) 9 = 0
  | 0, _, h => by omega
  | n + 1, 0, _ => by simp [flat]
  | n + 1, k + 1, h => by
    have := flat_get n k (by omega)
    rw [show 3 * (k + 1) = 3 * k + 1 + 1 + 1 by omega]
    simpa [flat] using this
theorem flat_snoc : ∀ n, flat n ++ [0, 1, 0] = flat (n + 1)
  | 0 => rfl
  | n + 1 => by
    have := flat_snoc n
    show 0 :: 1 :: 0 :: (flat n ++ [0, 1, 0]) = _
    rw [this]
    rfl
theorem flat_small (n : Nat) : ∀ z ∈ flat n, 0 ≤ z ∧ z < 16384 := by
  induction n with
  | zero => simp [flat]
  | succ n ih =>
    intro z hz
    simp only [flat, List.mem_cons] at hz
    rcases hz with rfl | rfl | rfl | h
    · omega
    · omega
    · omega
    · exact ih z h
theorem enc_flat : ∀ n, enc (flat n) = flat n
  | 0 => rfl
  | n + 1 => by
    have := enc_flat n
    unfold enc at *
    simp [flat, uv, this]
def nums (k : Nat) : List Int := 1 :: 1 :: 320 :: flat k
/-- The numbers, with 'a' for the first entry's age. -/
def numsA (a : Int) : List Int := 1 :: 1 :: 320 :: 0 :: a :: 0 :: flat 319
def bodyA (a : Int) : List Int := 1 :: 1 :: 192 :: 2 :: 0 :: a :: 0 :: flat 319
theorem enc_numsA (a : Int) (h : a < 128) : enc (numsA a) = bodyA a := by
  have e : uv a = [a] := if_pos h
  show uv 1 ++ (uv 1 ++ (uv 320 ++ (uv 0 ++ (uv a ++ (uv 0 ++ enc (flat 319)))))) = _
  rw [e, enc_flat]
  rfl
theorem nums_eq : nums 320 = numsA 1 := rfl
theorem nums_set : (nums 320).set 4 0 = numsA 0 := rfl
theorem numsA_len (a : Int) : (numsA a).length = 963 := by simp [numsA, flat_len]
theorem bodyA_len (a : Int) : (bodyA a).length = 964 := by simp [bodyA, flat_len]
theorem numsA_small {a : Int} (h0 : 0 ≤ a) (h1 : a < 128) : ∀ z ∈ numsA a, 0 ≤ z ∧ z < 16384 := by
  intro z hz
  simp only [numsA, List.mem_cons] at hz
  rcases hz with rfl | rfl | rfl | rfl | rfl | rfl | h
  · omega
  · omega
  · omega
  · omega
  · omega
  · omega
  · exact flat_small _ z h

/-- From a row's cells to what Decode asks of the image. -/
theorem image_facts {w : World} {g : Nat} {a : Int} (ha : 0 ≤ a ∧ a < 128) (hc : ∀ i, i < 972 → w.cell? ⟨g, i, none⟩ = some (.int .u8 ((bodyA a ++ dbytes 8 (dig (bodyA a))).getD i 0))) :
    BytesAt w g 0 (bodyA a) ∧ BytesAt w g 964 (dbytes 8 (dig (bodyA a))) ∧ UvAt w g 0 964 1 1 ∧ UvAt w g 1 963 1 1 ∧ UvAt w g 2 962 320 2 ∧ EntryAt w g 0 a ∧ (a = 1 → ∀ k, k < 320 → EntryAt w g k 1) := by
  have hl := bodyA_len a
  have hb : ∀ i, i < 964 → w.cell? ⟨g, i, none⟩ = some (.int .u8 ((bodyA a).getD i 0)) := by
    intro i hi
    rw [hc i (by omega)]
    simp [List.getD, List.getElem?_append_left (show i < (bodyA a).length by omega)]
  have hd : ∀ i, i < 8 → w.cell? ⟨g, 964 + i, none⟩ = some (.int .u8 ((dbytes 8 (dig (bodyA a))).getD i 0)) := by
    intro i hi
    rw [hc (964 + i) (by omega)]
    simp [List.getD, List.getElem?_append_right (show (bodyA a).length ≤ 964 + i by omega), hl]
  have hr : ∀ b ∈ bodyA a, 0 ≤ b ∧ b ≤ 255 := by
    have h := enc_range (numsA_small ha.1 ha.2)
    rwa [enc_numsA a ha.2] at h
  have c0 := hb 0 (by omega)
  have c1 := hb 1 (by omega)
  have c2 := hb 2 (by omega)
  have c3 := hb 3 (by omega)
  have c4 := hb 4 (by omega)
  have c5 := hb 5 (by omega)
  have c6 := hb 6 (by omega)
  have key : ∀ k, k < 319 → w.cell? ⟨g, 7 + 3 * k, none⟩ = some (.int .u8 0) ∧ w.cell? ⟨g, 7 + 3 * k + 1, none⟩ = some (.int .u8 1) ∧ w.cell? ⟨g, 7 + 3 * k + 1 + 1, none⟩ = some (.int .u8 0) := by
    intro k hk
    obtain ⟨f0, f1, f2⟩ := flat_get 319 k hk
    have fl := flat_len 319
    have g0 : ∀ j, j < 957 → (bodyA a).getD (7 + j) 0 = (flat 319).getD j 9 := by
      intro j hj
      simp only [bodyA, show 7 + j = j + 1 + 1 + 1 + 1 + 1 + 1 + 1 by omega, List.getD_cons_succ]
      simp [List.getD, show j < (flat 319).length by omega]
    refine ⟨?_, ?_, ?_⟩
    · rw [hb _ (by omega), g0 _ (by omega), f0]
    · rw [hb _ (by omega), show 7 + 3 * k + 1 = 7 + (3 * k + 1) by omega, g0 _ (by omega), f1]
    · rw [hb _ (by omega), show 7 + 3 * k + 1 + 1 = 7 + (3 * k + 1 + 1) by omega, g0 _ (by omega), f2]
  have he0 : EntryAt w g 0 a := ⟨.inl ⟨rfl, by omega, by omega, by omega, c4⟩, .inl ⟨rfl, by omega, ha.1, ha.2, c5⟩, .inl ⟨rfl, by omega, by omega, by omega, c6⟩⟩
  refine ⟨fun i hi => ⟨by simpa using hb i (by omega), ?_⟩, fun i hi => ⟨hd i (by rw [dbytes_length] at hi; exact hi), ?_⟩, .inl ⟨rfl, by omega, by omega, by omega, c0⟩, .inl ⟨rfl, by omega, by omega, by omega, c1⟩, .inr ⟨rfl, by omega, by omega, by omega, c2, c3⟩, he0, ?_⟩
  · refine hr _ ?_
    rw [List.getD, List.getElem?_eq_getElem hi]
    exact List.getElem_mem hi
  · refine dbytes_range 8 (dig (bodyA a)) _ ?_
    rw [List.getD, List.getElem?_eq_getElem hi]
    exact List.getElem_mem hi
  · rintro rfl k hk
    match k, hk with
    | 0, _ => exact he0
    | k + 1, hk =>
      obtain ⟨f0, f1, f2⟩ := key k (by omega)
      unfold EntryAt
      rw [show 4 + 3 * (k + 1) = 7 + 3 * k by omega]
      exact ⟨.inl ⟨rfl, by omega, by omega, by omega, f0⟩, .inl ⟨rfl, by omega, by omega, by omega, f1⟩, .inl ⟨rfl, by omega, by omega, by omega, f2⟩⟩

theorem OwnK.keep {k : IntKind} {t : TypeId} {base : Nat} {w w' : World} {v : Value} {bs : List Int} (h : OwnK k t base w v bs) (hb : Below w.heap.size w w') : OwnK k t base w' v bs := by
  refine ⟨h.1, ?_⟩
  rcases h.2 with hn | ⟨g, cap, cur, rfl, hbg, hgg, rest⟩
  · exact .inl hn
  · refine .inr ⟨g, cap, cur, rfl, hbg, ?_, rest⟩
    rw [hb.block g (h.lt g rfl).2]
    exact hgg

theorem Tryz.info34 : (Tryz.prog.info? 34).map (fun i => (i.zero, i.size, i.bytes)) = some (some (.int .u64 0), 1, 8) := by kernel_rfl

theorem new_three (w : World) (n : Nat) (h : w.heap.size = n) (a b c : Value) (t : TypeId) : ∀ j v, [a, b, c][j]? = some v → (w.alloc (.cells #[a, b, c] t)).cell? ((⟨n, 0, none⟩ : Addr).add j) = some v := by
  subst h
  intro j v hj
  match j, hj with
  | 0, hj => simp at hj; subst hj; simp [Addr.add]
  | 1, hj => simp at hj; subst hj; simp [Addr.add]
  | 2, hj => simp at hj; subst hj; simp [Addr.add]
theorem ones3 (k : IntKind) (a b c : Int) : ∀ u ∈ [Value.int k a, Value.int k b, Value.int k c], u.oneCell' = true := by
  intro u hu; simp at hu; rcases hu with rfl | rfl | rfl <;> rfl

/-- One half of the law: the numbers sealed, decoded, and the refusal's code read. -/
theorem half (gn cap : Nat) (a : Int) (ha : 0 ≤ a ∧ a < 128) (ha2 : a = 1 ∨ a = 0) (w : World) (hg : w.cell? ⟨2, 0, none⟩ = some (.iface 389 (.agg #[.pointer (some ⟨6, 45, none⟩)]))) (hc : ∀ i, i < 963 → w.cell? ⟨gn, i, none⟩ = some (.int .u64 ((numsA a).getD i 0))) :
    Calls Tryz.prog 35 #[.slice (some ⟨gn, 0, none⟩) 963 cap] w fun e w1 => ∃ g1 cap1, e = .returned (.slice (some ⟨g1, 0, none⟩) 972 cap1) ∧ Below w.heap.size w w1 ∧
      Calls Tryz.prog 29 #[.slice (some ⟨g1, 0, none⟩) 972 cap1] w1 fun e w2 => ∃ b, e = .returned (.tuple #[.pointer none, .iface 218 (.pointer (some ⟨b, 0, none⟩))]) ∧ Below w.heap.size w w2 ∧
        Calls Tryz.prog 26 #[.iface 218 (.pointer (some ⟨b, 0, none⟩))] w2 fun e w3 => e = .returned (.int .u8 17) ∧ Below w.heap.size w w3 := by
  have hgl : 2 < w.heap.size := cell_lt hg
  refine (seal_any gn 963 cap (numsA a) w (numsA_len a) (by omega) (by omega) (numsA_small ha.1 ha.2) hc).mono ?_
  rintro e w1 ⟨v, rfl, hown, hb1⟩
  rw [enc_numsA a ha.2] at hown
  have hlen : (bodyA a ++ dbytes 8 (dig (bodyA a))).length = 972 := by rw [List.length_append, bodyA_len, dbytes_length]
  obtain ⟨g1, cap1, rfl, hg1, hg1s, hcap, hcap2, hcells, _⟩ := hown.cells (by omega)
  rw [hlen] at hcap hcells
  obtain ⟨f1, f2, f3, f4, f5, f6, f7⟩ := image_facts ha hcells
  refine ⟨g1, cap1, by rw [hlen], hb1, ?_⟩
  refine (decode_any g1 cap1 (bodyA a) w1 hcap hcap2 (bodyA_len a) f1 f2 f3 f4 f5 ?_).mono ?_
  · rcases ha2 with h | h
    · exact .inl (f7 h)
    · exact .inr (by rw [h] at f6; exact f6)
  rintro e w2 ⟨b, off, s, rfl, q0, q1, hb2⟩
  have hb02 : Below w.heap.size w w2 := hb1.trans (hb2.mono hb1.size)
  refine ⟨b, rfl, hb02, ?_⟩
  refine (codeOf_any b s w2 ((hb02.cell (p := ⟨2, 0, none⟩) hgl).trans hg) q1).mono ?_
  rintro e w3 ⟨rfl, hb3⟩
  exact ⟨rfl, hb02.trans (hb3.mono hb02.size)⟩

set_option maxHeartbeats 3200000 in
theorem full_walk (w : World) (hg : w.cell? ⟨2, 0, none⟩ = some (.iface 389 (.agg #[.pointer (some ⟨6, 45, none⟩)]))) :
    Calls Tryz.prog 9 #[] w fun e w' => e = .returned (.bool true) ∧ Below w.heap.size w w' := by
  obtain ⟨i0, hi, hz0, hz1, hz2⟩ := info_parts Tryz.info34
  have hgl : 2 < w.heap.size := cell_lt hg
  have HG := hideIt hg
  clear hg
  go_enter Tryz.func9, Tryz.ntmps9
  go_wp2_with fail
  go_loopw [1, 2] (fun v i wr => ∃ k : Nat, k ≤ 320 ∧ i = .int .i64 k ∧ OwnK .u64 34 w.heap.size wr v (nums k) ∧ Below w.heap.size w wr) (fun _ i _ => 320 - (intOf i).toNat)
  case atStart =>
    refine ⟨0, by omega, rfl, ?_, (Below.refl _ _).alloc (Nat.le_refl _) _⟩
    exact ⟨rfl, .inr ⟨w.heap.size, 3, _, rfl, Nat.le_refl _, heap_alloc_new w _, by simp [nums, flat], by unfold maxLen; omega, rfl, rfl⟩⟩
  case round =>
    obtain ⟨k, hk, rfl, hown, hbel⟩ := hrel
    have HO := hideIt hown
    have HB := hideIt hbel
    have hsz := hbel.size
    have hlen : (nums k).length = 3 + 3 * k := by simp [nums, flat_len]; omega
    obtain ⟨ad, cp, rfl⟩ := hown.shape
    clear hown hbel
    by_cases hlt : k < 320
    · go_wp2_with ((at_builtin; refine wpList_append_own_at _ rfl (.tmp 10) (.tmp 11) 35 rfl w.heap.size 34 i0 (.int .u64 0) 1 8 Tryz.underlying35 hi hz0 hz1 hz2 rfl (by decide) _ _ _ rfl (HO.out.alloc _) ⟨wr.heap.size, 0, none⟩ 3 3 [.int .u64 0, .int .u64 1, .int .u64 0] rfl rfl (new_three wr _ rfl _ _ _ _) (ones3 _ _ _ _) (by unfold maxLen; omega) (by omega) (by simp; omega) ?_; intro b1 w1 hown1 hgrow1 _ hwh1))
      obtain ⟨o1, o2⟩ := OwnK.app (xs := [0, 1, 0]) hown1 rfl hgrow1 hwh1
      go_roundw
      case rel => exact ⟨k + 1, by omega, by go_num, by show OwnK _ _ _ _ _ (1 :: 1 :: 320 :: flat (k + 1)); rw [← flat_snoc]; exact o1, HB.out.trans (o2.below HO.out.above hsz)⟩
      case measure => simp [intOf]; omega
    · have hk2 : k = 320 := by omega
      subst hk2
      have hown2 : OwnK .u64 34 w.heap.size wr (.slice ad (nums 320).length cp) (numsA 1) := HO.out
      have hl3 : (nums 320).length = 963 := by rw [hlen]
      rw [hl3] at hown2 ⊢
      obtain ⟨gn, cap, he, hgB, hgs, hcap, hcap2, hcells, hfree⟩ := hown2.cells (by rw [numsA_len]; omega)
      rw [numsA_len] at he hcells hfree hcap
      simp only [Value.slice.injEq] at he
      obtain ⟨rfl, _, rfl⟩ := he
      have hgr := (HB.out.cell (p := ⟨2, 0, none⟩) hgl).trans HG.out
      have HH := hideIt (half gn cp 1 (by omega) (.inl rfl) wr hgr hcells)
      have HC := hideIt hcells
      have HF := hideIt hfree
      have HGR := hideIt hgr
      clear hcells hfree hgr hown2 hlen hl3 HO
      go_wp2_with fail
      refine HH.out.mono ?_
      rintro e w1 ⟨g1, cap1, rfl, hb1, hd⟩
      have HD := hideIt hd
      clear hd hb1
      go_wp2_with fail
      refine HD.out.mono ?_
      rintro e w2 ⟨b2, rfl, hb2, hcd⟩
      have HCD := hideIt hcd
      clear hcd hb2
      go_wp2_with fail
      refine HCD.out.mono ?_
      rintro e w3 ⟨rfl, hb3⟩
      have HB3 := hideIt hb3
      have hs3 := hb3.size
      have hc4 : w3.cell? ⟨gn, 4, none⟩ = some (.int .u64 1) := by
        rw [hb3.cell (p := ⟨gn, 4, none⟩) hgs]; exact HC.out 4 (by omega)
      have hf4 : w3.frozen? ⟨gn, 4, none⟩ = false := by
        rw [hb3.frozen (p := ⟨gn, 4, none⟩) hgs]; exact HF.out 4 (by omega)
      have hcells2 : ∀ i, i < 963 → (w3.setCell ⟨gn, 4, none⟩ (.int .u64 0)).cell? ⟨gn, i, none⟩ = some (.int .u64 ((numsA 0).getD i 0)) := by
        intro i hi
        by_cases h4 : i = 4
        · subst h4; exact set_same hc4
        · rw [set_other (fun e => by injection e; omega), hb3.cell (p := ⟨gn, i, none⟩) hgs, HC.out i hi]
          have e : (numsA 0).getD i 0 = (numsA 1).getD i 0 := by
            rw [← nums_set, ← nums_eq]
            simp [List.getD, List.getElem?_set_ne (Ne.symm h4)]
          rw [e]
      have hgr3 : (w3.setCell ⟨gn, 4, none⟩ (.int .u64 0)).cell? ⟨2, 0, none⟩ = some (.iface 389 (.agg #[.pointer (some ⟨6, 45, none⟩)])) := by
        rw [set_other (fun e => by injection e; omega), hb3.cell (p := ⟨2, 0, none⟩) (by show 2 < _; omega)]; exact HGR.out
      have HH2 := hideIt (half gn cp 0 (by omega) (.inr rfl) (w3.setCell ⟨gn, 4, none⟩ (.int .u64 0)) hgr3 hcells2)
      have HBS : Hid (Below w.heap.size w (w3.setCell ⟨gn, 4, none⟩ (.int .u64 0))) := (HB.out.trans (hb3.mono hsz)).setCell hgB _
      have HSZ : Hid (w.heap.size ≤ (w3.setCell ⟨gn, 4, none⟩ (.int .u64 0)).heap.size) := HBS.out.size
      clear hcells2 hgr3 hb3
      go_wp2_with fail
      refine HH2.out.mono ?_
      rintro e w4 ⟨g4, cap4, rfl, hb4, hd4⟩
      have HD4 := hideIt hd4
      clear hd4 hb4
      go_wp2_with fail
      refine HD4.out.mono ?_
      rintro e w5 ⟨b5, rfl, hb5, hcd5⟩
      have HCD5 := hideIt hcd5
      clear hcd5 hb5
      go_wp2_with fail
      refine HCD5.out.mono ?_
      rintro e w6 ⟨rfl, hb6⟩
      have HB6 := hideIt hb6
      clear hb6
      go_wp2
      go_ret
      exact ⟨rfl, HBS.out.trans (HB6.out.mono HSZ.out)⟩
end Go.Proofs.Qxb6500847aGreatDoor.FloorA
