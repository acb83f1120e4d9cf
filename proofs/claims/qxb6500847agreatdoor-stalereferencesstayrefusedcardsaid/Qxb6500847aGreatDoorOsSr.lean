/-
  The walk of StaleReferencesStayRefused.
-/
import Derived.Test.Qxb6500847aGreatDoorOsSu
import Derived.Test.Qxb6500847aGreatDoorOsLw
import Derived.Carry
namespace Go.Proofs.Qxb6500847aGreatDoor.Os
open Go.RowKit FloorA
set_option maxRecDepth 100000
section
variable {P m1 m2 base : Nat} {w wr w' : World} {v : Value} {A : Nat} {rb sb : Nat → Nat} {s : Av} {tl : Nat → List Int} {ws : Nat → Nat → Nat → Int} {L : Nat → List Nat} {n : Nat} {B D : List (Nat × Nat)}
theorem Sl.shape (h : Sl P m1 m2 base w v A rb sb s tl ws L n B D wr) : ∃ ad cp, v = .slice ad B.length cp := OwnR.shape ⟨_, h.own⟩
theorem refL_at : ∀ (B : List (Nat × Nat)) {j : Nat} {r : Nat × Nat}, B[j]? = some r → (refL (refN B))[j * 2]? = some (.int .u16 (r.1 : Int)) ∧ (refL (refN B))[j * 2 + 1]? = some (.int .u32 (r.2 : Int))
  | [], j, r, h => by cases h
  | x :: B, 0, r, h => by
    obtain rfl : x = r := Option.some.inj h
    exact ⟨rfl, rfl⟩
  | x :: B, j + 1, r, h => by
    have e : refL (refN (x :: B)) = .int .u16 (x.1 : Int) :: .int .u32 (x.2 : Int) :: refL (refN B) := rfl
    obtain ⟨h1, h2⟩ := refL_at B (j := j) (r := r) h
    rw [e]
    exact ⟨by rw [show (j + 1) * 2 = j * 2 + 1 + 1 by omega]; exact h1, by rw [show (j + 1) * 2 + 1 = j * 2 + 1 + 1 + 1 by omega]; exact h2⟩
/-- The j-th reference handed out lies in memory. -/
theorem Sl.at {ad : Option Addr} {cp j : Nat} {r : Nat × Nat} (h : Sl P m1 m2 base w (.slice ad B.length cp) A rb sb s tl ws L n B D wr) (hj : B[j]? = some r) : ∃ q, ad = some ⟨q, 0, none⟩ ∧ wr.cell? ⟨q, j * 2, none⟩ = some (.int .u16 (r.1 : Int)) ∧ wr.cell? ⟨q, j * 2 + 1, none⟩ = some (.int .u32 (r.2 : Int)) := by
  have hl : j < B.length := (List.getElem?_eq_some_iff.1 hj).1
  obtain ⟨h1, h2⟩ := refL_at B hj
  have ho := h.own
  rcases ho.2 with ⟨_, hn⟩ | ⟨q, cap, cur, e1, _, _, _, _, _, _⟩
  · omega
  · have e2 : ad = some ⟨q, 0, none⟩ := by injection e1
    subst e2
    have c := World.ownsRow.cells ho (g := q) rfl
    have ad0 : ∀ x : Nat, (⟨q, 0, none⟩ : Addr).add x = ⟨q, x, none⟩ := fun x => by unfold Addr.add; by_cases e : x = 0 <;> simp [e]
    refine ⟨q, rfl, ?_, ?_⟩
    · have := c (j * 2) _ h1
      rwa [ad0] at this
    · have := c (j * 2 + 1) _ h2
      rwa [ad0] at this
theorem take_not {l : List (Nat × Nat)} (h : (l.map Prod.fst).Nodup) {j : Nat} {r : Nat × Nat} (hj : l[j]? = some r) : ¬ r ∈ l.take j := fun q => by
  have hl : j < l.length := (List.getElem?_eq_some_iff.1 hj).1
  have e : l = l.take j ++ l.drop j := (List.take_append_drop j l).symm
  have hd : r ∈ l.drop j := by
    have : (l.drop j)[0]? = some r := by rw [List.getElem?_drop]; exact hj
    exact List.mem_of_getElem? this
  rw [e, List.map_append] at h
  exact (List.nodup_append.1 h).2.2 r.1 (List.mem_map_of_mem q) r.1 (List.mem_map_of_mem hd) rfl
theorem take_snoc {l : List (Nat × Nat)} {j : Nat} {r : Nat × Nat} (hj : l[j]? = some r) : l.take (j + 1) = l.take j ++ [r] := by
  have hl : j < l.length := (List.getElem?_eq_some_iff.1 hj).1
  rw [List.take_succ_eq_append_getElem hl]
  have e : l[j] = r := Option.some.inj ((List.getElem?_eq_getElem hl).symm.trans hj)
  rw [e]
end
set_option maxHeartbeats 16000000 in
theorem stale_walk (w : World) (hg : Gl w) (a0 : Option Addr) (b off len cap : Nat) (f : Nat → OpV) (hml : len ≤ 1152921504606846976) (ha : 0 < len → a0 = some ⟨b, off, none⟩) (hops : ∀ i, i < len → OpAt w b (off + i * 12) (f i)) :
    Calls Tryz.prog 4 #[.slice a0 len cap] w fun e w' => e = .returned (.bool true) ∧ Below w.heap.size w w' := by
  have HSM := hideIt (smallS_walk w a0 b off len cap f hml ha hops)
  have HO := hideIt hops
  have HA : Hid (0 < len → a0 = some ⟨b, off, none⟩) := ha
  have HG := hideIt hg
  have HS7 := hideIt hg.sz
  have hmm := @run_makeMap Tryz.prog
  obtain ⟨i0, hi0, hz0, hz1, hz2⟩ := info_parts inf32
  clear hg hops ha
  go_enter Tryz.func4, Tryz.ntmps4
  go_wp2_with fail
  go_at_call 10
  refine HSM.out.mono ?_
  rintro e w' ⟨hh, hw'⟩
  obtain rfl := hw'.symm
  clear hw' HSM
  rcases hh with rfl | ⟨rfl, hlen⟩
  · go_wp2_with fail
    go_ret
    exact ⟨rfl, Below.refl _ _⟩
  have HLen : Hid (len ≤ 65536) := hlen
  go_wp2_with fail
  go_at_call 11
  refine (New_walk w).mono ?_
  rintro e w1 ⟨A, rb, sb, s, rfl, hb1, hz, hF, hM⟩
  have bB := alloc_below (w := w1) (.cells #[.pointer (some ⟨A, 0, none⟩)] 24)
  have hP := cell_of_one (heap_alloc_new w1 (.cells #[.pointer (some ⟨A, 0, none⟩)] 24))
  have hHs : Hs w1.heap.size A rb sb s tl0 (fun _ _ _ => 0) (fun _ => []) 0 (w1.alloc (.cells #[.pointer (some ⟨A, 0, none⟩)] 24)) :=
    ⟨hM.below bB, hF.iv, wr0, (HG.out.below hb1).below bB, hP, frz_new1 _ _ _, hM.ntz, Nat.le_trans HS7.out hb1.size, fun b hb => Nat.le_trans HS7.out (hz b hb)⟩
  have hsz2 : (w1.alloc (.cells #[.pointer (some ⟨A, 0, none⟩)] 24)).heap.size = w1.heap.size + 1 := by simp
  have hsz3 : ((w1.alloc (.cells #[.pointer (some ⟨A, 0, none⟩)] 24)).alloc (.map #[] 0)).heap.size = w1.heap.size + 1 + 1 := by simp
  have b2 := alloc_below (w := w1.alloc (.cells #[.pointer (some ⟨A, 0, none⟩)] 24)) (.map #[] 0)
  have b3 := alloc_below (w := (w1.alloc (.cells #[.pointer (some ⟨A, 0, none⟩)] 24)).alloc (.map #[] 0)) (.map #[] 0)
  have s1 := Sm.made (w1.alloc (.cells #[.pointer (some ⟨A, 0, none⟩)] 24))
  have s2 := Sm.made ((w1.alloc (.cells #[.pointer (some ⟨A, 0, none⟩)] 24)).alloc (.map #[] 0))
  rw [hsz2] at s1
  rw [hsz3] at s2
  have hw1 : w.heap.size ≤ w1.heap.size := hb1.size
  have hz7 := HS7.out
  have tz1 : ∀ x, w1.heap.size ≤ x → ¬ Tz A rb sb x := fun x hx q => by have := hM.tzlt x q; omega
  have HSl : Hid (Sl w1.heap.size (w1.heap.size + 1) (w1.heap.size + 1 + 1) (w1.heap.size + 1 + 1 + 1) w (.slice none 0 0) A rb sb s tl0 (fun _ _ _ => 0) (fun _ => []) 0 [] [] (((w1.alloc (.cells #[.pointer (some ⟨A, 0, none⟩)] 24)).alloc (.map #[] 0)).alloc (.map #[] 0))) :=
    ⟨(hHs.below b2).below b3, World.ownsRow_nil _ _ _ _, s1.keep (b3.block _ (by rw [hsz3]; omega)), s2, ⟨by omega, by omega, by omega, by omega, by omega, by omega, by omega, by omega⟩, ⟨tz1 _ (by omega), tz1 _ (by omega), (fun q hq => by cases hq)⟩, ⟨by simp, by omega, by omega, by omega, by omega⟩, (fun r hr => by cases hr), (fun r hr => by cases hr), Below.thr (Below.thr (Below.thr hb1 bB) b2) b3, hz⟩
  clear hb1 hz hF hM bB hP hHs hsz2 hsz3 b2 b3 s1 s2 hw1 tz1 hz7
  go_wp2_with fail
  generalize ((w1.alloc (.cells #[.pointer (some ⟨A, 0, none⟩)] 24)).alloc (.map #[] 0)).alloc (.map #[] 0) = w2 at *
  obtain ⟨P, hP⟩ : ∃ P, P = w1.heap.size := ⟨_, rfl⟩
  rw [← hP] at HSl ⊢
  obtain ⟨m1, hm1⟩ : ∃ m, m = P + 1 := ⟨_, rfl⟩
  rw [← hm1] at HSl ⊢
  obtain ⟨m2, hm2⟩ : ∃ m, m = m1 + 1 := ⟨_, rfl⟩
  rw [← hm2] at HSl ⊢
  generalize m2 + 1 = base at *
  clear hP hm1 hm2
  go_loopw [4, 24] (fun v4 v24 wr => ∃ (k A : Nat) (rb sb : Nat → Nat) (s : Av) (tl : Nat → List Int) (ws : Nat → Nat → Nat → Int) (L : Nat → List Nat) (n : Nat) (B D : List (Nat × Nat)), k ≤ len ∧ v24 = .int .i64 (k : Int) ∧ B.length ≤ 32 * k ∧ D.length ≤ 2097152 * k ∧ Sl P m1 m2 base w v4 A rb sb s tl ws L n B D wr) (fun _ i _ => len - (intOf i).toNat)
  case atStart => exact ⟨0, A, rb, sb, s, tl0, _, _, 0, [], [], Nat.zero_le _, rfl, Nat.le_refl _, Nat.le_refl _, HSl.out⟩
  case round =>
    clear HSl
    obtain ⟨k, A, rb, sb, s, tl, ws, L, n, B, D, hk, rfl, hBl, hDl, hL⟩ := hrel
    obtain ⟨ad, cp, rfl⟩ := hL.shape
    by_cases hlt : k < len
    · have hlt' : (k : Int) < (len : Int) := by omega
      obtain rfl := HA.out (by omega)
      have hop := (HO.out k hlt).below hL.bw
      generalize f k = v at *
      obtain ⟨kk, i, g, j, gg, t, bt, ct, fd, a, bb, wv⟩ := v
      have HL0 := hideIt hL
      have HB0 := hideIt (show w.heap.size ≤ wr.heap.size from hL.bw.size)
      have HOp := hideIt hop
      have hkk : kk < 256 := hop.k
      have z0 : wr.cell? ⟨b, off + k * 12, none⟩ = some (.int .u8 (kk : Int)) := hop.rng 0 _ rfl
      have z1 : wr.cell? ⟨b, off + k * 12 + 1, none⟩ = some (.int .u16 (i : Int)) := hop.rng 1 _ rfl
      have z2 : wr.cell? ⟨b, off + k * 12 + 2, none⟩ = some (.int .u32 (g : Int)) := hop.rng 2 _ rfl
      have z3 : wr.cell? ⟨b, off + k * 12 + 3, none⟩ = some (.int .u16 (j : Int)) := hop.rng 3 _ rfl
      have z4 : wr.cell? ⟨b, off + k * 12 + 4, none⟩ = some (.int .u32 (gg : Int)) := hop.rng 4 _ rfl
      have z5 : wr.cell? ⟨b, off + k * 12 + 5, none⟩ = some (.int .u8 (t : Int)) := hop.rng 5 _ rfl
      have z6 : wr.cell? ⟨b, off + k * 12 + 6, none⟩ = some (.int .u8 (bt : Int)) := hop.rng 6 _ rfl
      have z7 : wr.cell? ⟨b, off + k * 12 + 7, none⟩ = some (.int .u16 (ct : Int)) := hop.rng 7 _ rfl
      have z8 : wr.cell? ⟨b, off + k * 12 + 8, none⟩ = some (.int .u16 (fd : Int)) := hop.rng 8 _ rfl
      have z9 : wr.cell? ⟨b, off + k * 12 + 9, none⟩ = some (.int .u64 (a : Int)) := hop.rng 9 _ rfl
      have z10 : wr.cell? ⟨b, off + k * 12 + 10, none⟩ = some (.int .u64 (bb : Int)) := hop.rng 10 _ rfl
      have z11 : wr.cell? ⟨b, off + k * 12 + 11, none⟩ = some wv := hop.rng 11 _ rfl
      obtain ⟨wa, wn, wc, rfl⟩ : ∃ wa wn wc, wv = .slice wa wn wc := by
        obtain ⟨m, hm⟩ := hop.ws
        rcases hm with ⟨rfl, ad, c, e⟩ | ⟨b, o, c, e, _⟩
        · exact ⟨_, _, _, e⟩
        · exact ⟨_, _, _, e⟩
      clear hop hL
      go_wp2_with fail
      have bA := alloc_below (w := wr) (.cells #[.int .u8 (kk : Int), .int .u16 (i : Int), .int .u32 (g : Int), .int .u16 (j : Int), .int .u32 (gg : Int), .int .u8 (t : Int), .int .u8 (bt : Int), .int .u16 (ct : Int), .int .u16 (fd : Int), .int .u64 (a : Int), .int .u64 (bb : Int), .slice wa wn wc] 37)
      have hL1 := HL0.out.below bA
      have hO1 := HOp.out.below bA
      have hbx : (wr.alloc (.cells #[.int .u8 (kk : Int), .int .u16 (i : Int), .int .u32 (g : Int), .int .u16 (j : Int), .int .u32 (gg : Int), .int .u8 (t : Int), .int .u8 (bt : Int), .int .u16 (ct : Int), .int .u16 (fd : Int), .int .u64 (a : Int), .int .u64 (bb : Int), .slice wa wn wc] 37)).heap[wr.heap.size]? = some (.cells #[.int .u8 (kk : Int), .int .u16 (i : Int), .int .u32 (g : Int), .int .u16 (j : Int), .int .u32 (gg : Int), .int .u8 (t : Int), .int .u8 (bt : Int), .int .u16 (ct : Int), .int .u16 (fd : Int), .int .u64 (a : Int), .int .u64 (bb : Int), .slice wa wn wc] 37 (0, 0)) := heap_new _ _
      have HK0 : Hid ((wr.alloc (.cells #[.int .u8 (kk : Int), .int .u16 (i : Int), .int .u32 (g : Int), .int .u16 (j : Int), .int .u32 (gg : Int), .int .u8 (t : Int), .int .u8 (bt : Int), .int .u16 (ct : Int), .int .u16 (fd : Int), .int .u64 (a : Int), .int .u64 (bb : Int), .slice wa wn wc] 37)).cell? ⟨wr.heap.size, 0, none⟩ = some (.int .u8 (kk : Int)) ∧ (wr.alloc (.cells #[.int .u8 (kk : Int), .int .u16 (i : Int), .int .u32 (g : Int), .int .u16 (j : Int), .int .u32 (gg : Int), .int .u8 (t : Int), .int .u8 (bt : Int), .int .u16 (ct : Int), .int .u16 (fd : Int), .int .u64 (a : Int), .int .u64 (bb : Int), .slice wa wn wc] 37)).cell? ⟨wr.heap.size, 1, none⟩ = some (.int .u16 (i : Int)) ∧ (wr.alloc (.cells #[.int .u8 (kk : Int), .int .u16 (i : Int), .int .u32 (g : Int), .int .u16 (j : Int), .int .u32 (gg : Int), .int .u8 (t : Int), .int .u8 (bt : Int), .int .u16 (ct : Int), .int .u16 (fd : Int), .int .u64 (a : Int), .int .u64 (bb : Int), .slice wa wn wc] 37)).cell? ⟨wr.heap.size, 2, none⟩ = some (.int .u32 (g : Int))) := ⟨box_cell hbx 0, box_cell hbx 1, box_cell hbx 2⟩
      have HNP := hideIt (HL0.out.hs.nR (Nat.le_refl wr.heap.size))
      have HSZ : Hid (wr.heap.size < (wr.alloc (.cells #[.int .u8 (kk : Int), .int .u16 (i : Int), .int .u32 (g : Int), .int .u16 (j : Int), .int .u32 (gg : Int), .int .u8 (t : Int), .int .u8 (bt : Int), .int .u16 (ct : Int), .int .u16 (fd : Int), .int .u64 (a : Int), .int .u64 (bb : Int), .slice wa wn wc] 37)).heap.size) := by show wr.heap.size < _; simp
      have HPL := hideIt (play_walk hL1.hs ⟨kk, i, g, j, gg, t, bt, ct, fd, a, bb, .slice wa wn wc⟩ hO1)
      have HL1 := hideIt hL1
      have HG4 : Hid (g < 4294967296) := HOp.out.g
      have HBo : Hid (∀ r ∈ B, Bn s r) := HL0.out.bn
      clear bA hL1 hO1 hbx z0 z1 z2 z3 z4 z5 z6 z7 z8 z9 z10 z11
      go_at_call 17
      generalize wr.alloc (.cells #[.int .u8 (kk : Int), .int .u16 (i : Int), .int .u32 (g : Int), .int .u16 (j : Int), .int .u32 (gg : Int), .int .u8 (t : Int), .int .u8 (bt : Int), .int .u16 (ct : Int), .int .u16 (fd : Int), .int .u64 (a : Int), .int .u64 (bb : Int), .slice wa wn wc] 37) = wr1 at *
      refine HPL.out.mono ?_
      rintro e w3 ⟨code, refs, vals, A', rb', sb', s', tl', ws', L', n', rfl, ⟨⟨r1, r2, r3, rfl⟩, ⟨v1, v2, v3, rfl⟩⟩, hs3, he3, ha3, _, had, _, hq⟩
      have hS3 := HL1.out.play hs3 he3 ha3 had
      have hkc : ∀ (o : Nat) (x : Value), wr1.cell? ⟨wr.heap.size, o, none⟩ = some x → w3.cell? ⟨wr.heap.size, o, none⟩ = some x := fun o x h => (he3.cell (p := ⟨wr.heap.size, o, none⟩) HSZ.out (fun q => q.elim HNP.out.1 HNP.out.2.2)).trans h
      have bC := alloc_below (w := w3) (.cells #[.int .u8 code, .slice r1 r2 r3, .slice v1 v2 v3] 57)
      have hbc : (w3.alloc (.cells #[.int .u8 code, .slice r1 r2 r3, .slice v1 v2 v3] 57)).heap[w3.heap.size]? = some (.cells #[.int .u8 code, .slice r1 r2 r3, .slice v1 v2 v3] 57 (0, 0)) := heap_new _ _
      have hS4 := hS3.below bC
      have hkd : ∀ (o : Nat) (x : Value), wr1.cell? ⟨wr.heap.size, o, none⟩ = some x → (w3.alloc (.cells #[.int .u8 code, .slice r1 r2 r3, .slice v1 v2 v3] 57)).cell? ⟨wr.heap.size, o, none⟩ = some x := fun o x h => (bC.cell (p := ⟨wr.heap.size, o, none⟩) (cell_lt (hkc o x h))).trans (hkc o x h)
      have x0 := hkd 0 _ HK0.out.1
      have x1 := hkd 1 _ HK0.out.2.1
      have x2 := hkd 2 _ HK0.out.2.2
      have c0 : (w3.alloc (.cells #[.int .u8 code, .slice r1 r2 r3, .slice v1 v2 v3] 57)).cell? ⟨w3.heap.size, 0, none⟩ = some (.int .u8 code) := box_cell hbc 0
      have c1 : (w3.alloc (.cells #[.int .u8 code, .slice r1 r2 r3, .slice v1 v2 v3] 57)).cell? ⟨w3.heap.size, 1, none⟩ = some (.slice r1 r2 r3) := box_cell hbc 1
      have HS4 := hideIt hS4
      have HQ := hideIt hq
      have HAd : Hid (Adv s s') := had
      have HOl : Hid (∀ q, (Value.slice ad B.length cp).ownBlock = some q → q < wr.heap.size) := fun q hq => (owns_lt HL0.out.own q hq).2
      have HMl : Hid (m1 < wr.heap.size) := HL0.out.k1.lt
      have HW3 : Hid (wr1.heap.size ≤ w3.heap.size) := he3.size
      clear hs3 he3 ha3 had hS3 hkc bC hbc hS4 hkd HL1 HK0 HPL HL0 HOp HNP hq
      obtain ⟨BL, hBL⟩ : ∃ x, B.length = x := ⟨_, rfl⟩
      rw [hBL] at hBl ⊢
      have HBL : Hid (B.length = BL) := hBL
      by_cases hc : code = 0
      · subst hc
        by_cases hk3 : kk = 3
        · as_aux_lemma =>
            subst hk3
            have hlv : Live s i (g : Int) := Classical.byContradiction fun q => absurd ((HQ.out.st (Or.inr (Or.inr (Or.inl rfl))) q).symm) (stale_ne i (g : Int))
            have hdd := free_dead hlv HAd.out (HQ.out.fr rfl rfl)
            have pc4 := HS4.out.hs.pc
            have HRf := hideIt (refused_walk HS4.out.hs.ms HS4.out.hs.iv HS4.out.hs.wr HS4.out.hs.gl HS4.out.hs.hz i g HG4.out hdd)
            clear hlv hdd
            go_wp2_with fail
            go_at_call 24
            refine HRf.out.mono ?_
            rintro e wL ⟨rfl, hbL⟩
            have HS5 := hideIt (HS4.out.below hbL)
            clear hbL HRf pc4 x0 x1 x2 c0 c1 HS4
            have HS4 := HS5
            clear HS5
            go_wp2_with fail
            have HS4' : Hid (Sl P m1 m2 base w (.slice ad BL cp) A' rb' sb' s' tl' ws' L' n' B D wL) := by rw [← HBL.out]; exact HS4.out
            go_loopw [83] (fun v wr => ∃ (j : Nat) (D' : List (Nat × Nat)), j ≤ BL ∧ v = .int .i64 (j : Int) ∧ D'.length ≤ D.length + j ∧ Sl P m1 m2 base w (.slice ad BL cp) A' rb' sb' s' tl' ws' L' n' B D' wr) (fun v _ => BL - (intOf v).toNat)
            case atStart => exact ⟨0, D, by omega, rfl, by omega, HS4'.out⟩
            case round =>
              clear HS4' HS4
              obtain ⟨j, D', hj, rfl, hDj, hSj⟩ := hrel
              by_cases hltj : j < BL
              · as_aux_lemma =>
                  have hltj' : (j : Int) < (BL : Int) := by omega
                  obtain ⟨r, hr⟩ : ∃ r, B[j]? = some r := ⟨_, List.getElem?_eq_getElem (by rw [HBL.out]; exact hltj)⟩
                  obtain ⟨qq, hqq, y0, y1⟩ := Sl.at (by rw [HBL.out]; exact hSj) hr
                  obtain ⟨ri, rg⟩ := r
                  have hbn := hSj.bn (ri, rg) (List.mem_of_getElem? hr)
                  have HBn : Hid (Bn s' (ri, rg)) := hbn
                  have hri : ri < 65536 := by have := hbn.1; omega
                  have hrg : rg < 4294967296 := hbn.2.2.1
                  have bX := alloc_below (w := wr) (.cells #[.int .u16 (ri : Int), .int .u32 (rg : Int)] 32)
                  have hSb := hSj.below bX
                  have pcb := hSb.hs.pc
                  have hxb : (wr.alloc (.cells #[.int .u16 (ri : Int), .int .u32 (rg : Int)] 32)).heap[wr.heap.size]? = some (.cells #[.int .u16 (ri : Int), .int .u32 (rg : Int)] 32 (0, 0)) := heap_new _ _
                  have HXb := hideIt hxb
                  have HLk := hideIt (LookupS_walk hSb.hs.ms hSb.hs.iv ri (rg : Int))
                  have HSb := hideIt hSb
                  have HBx : Hid (base ≤ wr.heap.size) := hSj.bs.1
                  subst hqq
                  clear bX hSb hSj hbn hr hxb
                  go_wp2_with fail
                  go_at_call 25
                  generalize wr.alloc (.cells #[.int .u16 (ri : Int), .int .u32 (rg : Int)] 32) = wb at *
                  refine HLk.out.mono ?_
                  rintro e w5 hh
                  clear pcb HLk
                  rcases hh with ⟨hn, ve, cd, rfl, ⟨hv, _, hb5⟩, hst⟩ | ⟨hl, ⟨xa, xb, xc, xd, xe, xf, rfl⟩, hb5⟩
                  · have hdd := HBn.out.dead hn
                    have hcd : cd = 2 := (hst hn).trans hdd.stale
                    subst hcd
                    have bI := alloc_below (w := w5) (.cells #[.int .u16 0, .int .u32 0, .int .u8 0, .int .u64 0, .int .u64 0, .int .u16 0, .int .u32 0] 41)
                    have hS6 := (HSb.out.below hb5).below bI
                    have hx5 := (hb5.block wr.heap.size (heap_lt HXb.out)).trans HXb.out
                    have HX6 := hideIt ((bI.block wr.heap.size (heap_lt hx5)).trans hx5)
                    have HCo := hideIt (codeOf_err ve 2 _ hS6.hs.gl.ed (hv.below bI))
                    have HS6 := hideIt hS6
                    have HDd : Hid (Dd s' ri (rg : Int)) := hdd
                    obtain ⟨be, rfl, _⟩ := hv
                    clear bI hS6 hb5 hx5 hst hn hdd HSb HXb
                    unfold inf7
                    go_wp2_with fail
                    go_at_call 26
                    generalize w5.alloc (.cells #[.int .u16 0, .int .u32 0, .int .u8 0, .int .u64 0, .int .u64 0, .int .u16 0, .int .u32 0] 41) = w6 at *
                    refine HCo.out.mono ?_
                    rintro e w7 ⟨rfl, hb7⟩
                    have hS7 := HS6.out.below hb7
                    have hx7 := (hb7.block wr.heap.size (heap_lt HX6.out)).trans HX6.out
                    obtain ⟨e0, e1⟩ := ref_agg hx7
                    have hlk := hS7.k2.look (i := ri) (g := rg) hri hrg
                    by_cases hm : (ri, rg) ∈ D'
                    · rw [decide_eq_true hm] at hlk
                      have HS7s := hideIt hS7
                      clear hS7 hx7 hb7 HCo HS6 HX6
                      go_wp2_with fail
                      go_roundw
                      case rel => exact ⟨j + 1, D', by omega, by go_num, by omega, HS7s.out⟩
                      case measure => simp [intOf]; omega
                    · rw [decide_eq_false hm] at hlk
                      obtain ⟨w8, hup, hm8, hg8⟩ := hS7.k2.put (i := ri) (g := rg) (by unfold maxLen; have := HLen.out; omega) hri hrg
                      have hS8 := hS7.dead hm8 hg8 HDd.out
                      have hne : some wr.heap.size ≠ some m2 := fun q => by have := Option.some.inj q; have := hS7.ms.2.2.1; have := HBx.out; omega
                      have hx8 := (hg8.block wr.heap.size (heap_lt hx7) hne).trans hx7
                      obtain ⟨i0, i1⟩ := ref_agg hx8
                      have pc8 := hS8.hs.pc
                      have HRf := hideIt (refused_walk hS8.hs.ms hS8.hs.iv hS8.hs.wr hS8.hs.gl hS8.hs.hz ri rg hrg HDd.out)
                      have HS8 := hideIt hS8
                      clear hS7 hx7 hb7 HCo HS6 HX6 hm8 hg8 hS8 hne hx8
                      go_wp2_with fail
                      go_at_call 24
                      refine HRf.out.mono ?_
                      rintro e w9 ⟨rfl, hb9⟩
                      have HS9 := hideIt (HS8.out.below hb9)
                      clear hb9 HRf
                      go_wp2_with fail
                      go_roundw
                      case rel => exact ⟨j + 1, (ri, rg) :: D', by omega, by go_num, by rw [List.length_cons]; omega, HS9.out⟩
                      case measure => simp [intOf]; omega
                  · have bI := alloc_below (w := w5) (.cells #[.int .u16 xa, .int .u32 xb, .int .u8 (s'.hd ri).typ, .int .u64 xc, .int .u64 xd, .int .u16 xe, .int .u32 xf] 41)
                    have hS6 := (HSb.out.below hb5).below bI
                    have hnd : ¬ (ri, rg) ∈ D' := fun q => (hS6.dd _ q).not hl
                    have hlk := hS6.k2.look (i := ri) (g := rg) hri hrg
                    rw [decide_eq_false hnd] at hlk
                    have hx5 := (hb5.block wr.heap.size (heap_lt HXb.out)).trans HXb.out
                    have hx6 := (bI.block wr.heap.size (heap_lt hx5)).trans hx5
                    obtain ⟨e0, e1⟩ := ref_agg hx6
                    have HS6 := hideIt hS6
                    clear bI hS6 hnd hb5 hx5 hx6
                    unfold inf7
                    go_wp2_with fail
                    go_roundw
                    case rel => exact ⟨j + 1, D', by omega, by go_num, by omega, HS6.out⟩
                    case measure => simp [intOf]; omega
              · obtain rfl : j = BL := by omega
                have HSe := hideIt hSj
                clear hSj
                go_wp2_with fail
                go_roundw
                case rel => exact ⟨k + 1, A', rb', sb', s', tl', ws', L', n', B, D', by omega, by go_num, by rw [HBL.out]; omega, by have := HLen.out; omega, HSe.out⟩
                case measure => simp [intOf]; omega
        by_cases hk0 : kk = 0
        · as_aux_lemma =>
            subst hk0
            obtain ⟨R, rl, hrefs, hRf, hrng, h32, hfr, hnd⟩ := HQ.out.nw (Or.inl rfl) rfl
            obtain ⟨rn, rfl, hrl, hnd2, hrn⟩ := new_facts HS4.out.hs.iv hfr hnd
            have hle : (refN rn).length = rn.length := hrl.symm
            rw [hle] at hrefs h32
            injection hrefs with q1 q2 q3
            subst q1 q2 q3
            have bC := alloc_below (w := w3) (.cells #[.int .u8 0, .slice (some ⟨R, 0, none⟩) rn.length rn.length, .slice v1 v2 v3] 57)
            have HRg : Hid ((w3.alloc (.cells #[.int .u8 0, .slice (some ⟨R, 0, none⟩) rn.length rn.length, .slice v1 v2 v3] 57)).rangeAt R 0 (refL (refN rn))) := fun jj vv hj => (bC.cell (p := ⟨R, 0 + jj, none⟩) (cell_lt (hrng jj vv hj))).trans (hrng jj vv hj)
            have HRf := hideIt hRf
            have HRn := hideIt hrn
            have HNd := hideIt hnd2
            have H32 := hideIt h32
            have HX0 := hideIt x0
            have HC0 := hideIt c0
            clear bC hrng hfr hnd hrl hle hRf hrn hnd2 h32
            go_wp2_with fail
            generalize w3.alloc (.cells #[.int .u8 0, .slice (some ⟨R, 0, none⟩) rn.length rn.length, .slice v1 v2 v3] 57) = wK at *
            have HOw : Hid (∀ q, (Value.slice ad BL cp).ownBlock = some q → q ≠ R ∧ q ≠ wr.heap.size ∧ q ≠ w3.heap.size) := by
              rw [← HBL.out]
              exact fun q hq => by have := HOl.out q hq; have := HRf.out; have := HSZ.out; have := HW3.out; exact ⟨by omega, by omega, by omega⟩
            have HMR : Hid (m1 ≠ R ∧ m1 ≠ wr.heap.size ∧ m1 ≠ w3.heap.size) := by have := HMl.out; have := HRf.out; have := HSZ.out; have := HW3.out; exact ⟨by omega, by omega, by omega⟩
            have HSK : Hid (Sl P m1 m2 base w (.slice ad BL cp) A' rb' sb' s' tl' ws' L' n' (B ++ rn.take 0) D wK) := by rw [← HBL.out, List.take_zero, List.append_nil]; exact HS4.out
            clear x0 x1 x2 c0 c1 HS4 HRf HSZ HW3 HMl HOl
            generalize wr.heap.size = OB at *
            generalize w3.heap.size = CB at *
            go_loopw [4, 46] (fun v4 v46 wr => ∃ (j : Nat), j ≤ rn.length ∧ v46 = .int .i64 (j : Int) ∧ Sl P m1 m2 base w v4 A' rb' sb' s' tl' ws' L' n' (B ++ rn.take j) D wr ∧ (wr.rangeAt R 0 (refL (refN rn)) ∧ wr.cell? ⟨OB, 0, none⟩ = some (.int .u8 0) ∧ wr.cell? ⟨CB, 0, none⟩ = some (.int .u8 0)) ∧ ∀ q, v4.ownBlock = some q → q ≠ R ∧ q ≠ OB ∧ q ≠ CB) (fun _ v _ => rn.length - (intOf v).toNat)
            case atStart => exact ⟨0, by omega, rfl, HSK.out, ⟨HRg.out, HX0.out, HC0.out⟩, HOw.out⟩
            case round =>
              clear HSK HOw HRg HX0 HC0
              obtain ⟨j, hj, rfl, hSj, ⟨hrj, hob, hcb⟩, hoj⟩ := hrel
              obtain ⟨ad2, cp2, rfl⟩ := hSj.shape
              obtain ⟨vn, hvn⟩ : ∃ x, (B ++ rn.take j).length = x := ⟨_, rfl⟩
              rw [hvn]
              have HVN := hideIt hvn
              clear hvn
              by_cases hltj : j < rn.length
              · as_aux_lemma =>
                  have hltj' : (j : Int) < (rn.length : Int) := by omega
                  have hl32 : rn.length ≤ 32 := H32.out
                  obtain ⟨r, hr⟩ : ∃ r, rn[j]? = some r := ⟨_, List.getElem?_eq_getElem hltj⟩
                  obtain ⟨ri, rg⟩ := r
                  obtain ⟨h1, h2⟩ := refL_at rn hr
                  have y0 : wr.cell? ⟨R, j * 2, none⟩ = some (.int .u16 (ri : Int)) := by have := hrj (j * 2) _ h1; rwa [Nat.zero_add] at this
                  have y1 : wr.cell? ⟨R, j * 2 + 1, none⟩ = some (.int .u32 (rg : Int)) := by have := hrj (j * 2 + 1) _ h2; rwa [Nat.zero_add] at this
                  obtain ⟨g1, g2, g3, g4⟩ := HRn.out (ri, rg) (List.mem_of_getElem? hr)
                  have hri : ri < 65536 := by have := g4.1; omega
                  have hnk : ¬ (ri, rg) ∈ B ++ rn.take j := fun q => by
                    rcases List.mem_append.1 q with q | q
                    · exact (HBo.out _ q).fresh g2 g3
                    · exact take_not HNd.out hr q
                  have bX := alloc_below (w := wr) (.cells #[.int .u16 (ri : Int), .int .u32 (rg : Int)] 32)
                  have hSb := hSj.below bX
                  have hxb : (wr.alloc (.cells #[.int .u16 (ri : Int), .int .u32 (rg : Int)] 32)).heap[wr.heap.size]? = some (.cells #[.int .u16 (ri : Int), .int .u32 (rg : Int)] 32 (0, 0)) := heap_new _ _
                  have hlk := hSb.k1.look (i := ri) (g := rg) hri g1
                  rw [decide_eq_false hnk] at hlk
                  have pcb := hSb.hs.pc
                  have HVl := hideIt (valid_walk hSb.hs.ms.am ri (rg : Int))
                  have HSb := hideIt hSb
                  have HXb := hideIt hxb
                  have HG1 : Hid (rg < 4294967296) := g1
                  have HLv : Hid (Live s' ri (rg : Int)) := g4
                  have HR := hideIt hr
                  have HKb : Hid (∀ (b o : Nat) (x : Value), wr.cell? ⟨b, o, none⟩ = some x → (wr.alloc (.cells #[.int .u16 (ri : Int), .int .u32 (rg : Int)] 32)).cell? ⟨b, o, none⟩ = some x) := fun b o x hq => (bX.cell (p := ⟨b, o, none⟩) (cell_lt hq)).trans hq
                  have HC3 : Hid (wr.rangeAt R 0 (refL (refN rn)) ∧ wr.cell? ⟨OB, 0, none⟩ = some (.int .u8 0) ∧ wr.cell? ⟨CB, 0, none⟩ = some (.int .u8 0)) := ⟨hrj, hob, hcb⟩
                  have HOj := hideIt hoj
                  have HBx : Hid (base ≤ wr.heap.size) := hSj.bs.1
                  clear bX hSb hxb hSj hrj hoj h1 h2 g2 g3 hr hnk hob hcb
                  go_wp2_with fail
                  go_at_call 23
                  generalize wr.alloc (.cells #[.int .u16 (ri : Int), .int .u32 (rg : Int)] 32) = wb at *
                  refine HVl.out.mono ?_
                  rintro e w5 ⟨rfl, hb5⟩
                  as_aux_lemma =>
                    rw [show decide (Live s' ri (rg : Int)) = true from decide_eq_true HLv.out]
                    have hS5 := HSb.out.below hb5
                    have hx5 := (hb5.block wr.heap.size (heap_lt HXb.out)).trans HXb.out
                    obtain ⟨e0, e1⟩ := ref_agg hx5
                    have hlen5 : (B ++ rn.take j).length ≤ 4194304 := by rw [List.length_append, List.length_take]; have := HLen.out; have := HBL.out; have := H32.out; omega
                    obtain ⟨w6, hup, hm6, hg6⟩ := hS5.k1.put (i := ri) (g := rg) (by unfold maxLen; omega) hri HG1.out
                    obtain ⟨_, hX, _, _, hbs⟩ := hS5.known hm6 hg6
                    have hne : some wr.heap.size ≠ some m1 := fun q => by have := Option.some.inj q; have := hS5.ms.2.1; have := HBx.out; omega
                    have hx6 := (hg6.block wr.heap.size (heap_lt hx5) hne).trans hx5
                    obtain ⟨f0, f1⟩ := ref_agg hx6
                    have HX : Hid (w6.ownsRow base 32 2 (.slice ad2 vn cp2) vn (refL (refN (B ++ rn.take j)))) := by rw [HVN.out] at hX; exact hX
                    have hvl : vn ≤ 4194304 := by rw [← HVN.out]; exact hlen5
                    have HS5 := hideIt hS5
                    have HM6 := hideIt hm6
                    have HG6 := hideIt hg6
                    have HK5 : Hid (∀ (b o : Nat) (x : Value), wr.cell? ⟨b, o, none⟩ = some x → w5.cell? ⟨b, o, none⟩ = some x) := fun b o x hq => (hb5.cell (p := ⟨b, o, none⟩) (cell_lt (HKb.out b o x hq))).trans (HKb.out b o x hq)
                    clear hb5 hx5 hx6 hS5 hX hm6 hg6 hne pcb HVl HSb HXb
                    clear hlen5
                    go_wp2_with ((at_builtin; refine wpList_append_own_at _ rfl (.tmp 61) (.tmp 63) 55 rfl base 32 i0 (.agg #[.int .u16 0, .int .u32 0]) 2 8 Tryz.underlying55 hi0 hz0 hz1 hz2 rfl (by decide) _ _ _ rfl (HX.out.alloc _) ⟨w6.heap.size, 0, none⟩ 1 1 [.int .u16 (ri : Int), .int .u32 (rg : Int)] rfl rfl (new_two w6 _ rfl _ _ _) (ones2 _ _) (by unfold maxLen; omega) (by omega) (by simp; omega) ?_; intro b1 w8 hown1 hgrow1 _ hwh1))
                    as_aux_lemma =>
                      have hown2 : w8.ownsRow base 32 2 b1 (vn + 1) (refL (refN (B ++ rn.take j)) ++ [.int .u16 (ri : Int), .int .u32 (rg : Int)]) := hown1
                      have hgr2 : (w6.alloc (.cells #[.int .u16 (ri : Int), .int .u32 (rg : Int)] 32)).grownBy w8 (Value.slice ad2 vn cp2).ownBlock := hgrow1
                      have hwh2 : b1.ownBlock = (Value.slice ad2 vn cp2).ownBlock ∨ b1.ownBlock = some (w6.alloc (.cells #[.int .u16 (ri : Int), .int .u32 (rg : Int)] 32)).heap.size := hwh1
                      clear hown1 hgrow1 hwh1
                      have hSn := HS5.out.born HM6.out HG6.out (by rw [HVN.out]; exact hown2) (by rw [HVN.out]; exact hgr2) (by rw [HVN.out]; exact hwh2) (Bn.born HLv.out HG1.out)
                      rw [List.append_assoc, ← take_snoc HR.out] at hSn
                      have hsz6 : w5.heap.size ≤ w6.heap.size := HG6.out.size
                      have hK8 : ∀ (b o : Nat) (x : Value), wr.cell? ⟨b, o, none⟩ = some x → m1 ≠ b → (∀ q, (Value.slice ad2 (B ++ rn.take j).length cp2).ownBlock = some q → q ≠ b) → w8.cell? ⟨b, o, none⟩ = some x := fun b o x hq hm ho => by
                        have k5 := HK5.out b o x hq
                        have l5 : b < w5.heap.size := cell_lt k5
                        have k6 : w6.heap[b]? = w5.heap[b]? := HG6.out.block b l5 (fun q => hm (Option.some.inj q).symm)
                        have k7 : (w6.alloc (.cells #[.int .u16 (ri : Int), .int .u32 (rg : Int)] 32)).heap[b]? = w6.heap[b]? := heap_alloc_old _ _ (by omega)
                        have k8 := hgr2.block b (by simp; omega) (fun q => ho b (by rw [HVN.out]; exact q.symm) rfl)
                        exact (World.cell?_of_block (a := ⟨b, o, none⟩) (k8.trans (k7.trans k6))).trans k5
                      have hL5 : ∀ (b o : Nat) (x : Value), wr.cell? ⟨b, o, none⟩ = some x → b < w5.heap.size := fun b o x hq => cell_lt (HK5.out b o x hq)
                      obtain ⟨t1, t2, t3⟩ := HC3.out
                      obtain ⟨m1a, m1b, m1c⟩ := HMR.out
                      refine ⟨⟨j + 1, by omega, by go_num, hSn, ⟨fun jj vv hq => hK8 R _ vv (t1 jj vv hq) m1a (fun q hq => (HOj.out q hq).1), hK8 OB 0 _ t2 m1b (fun q hq => (HOj.out q hq).2.1), hK8 CB 0 _ t3 m1c (fun q hq => (HOj.out q hq).2.2)⟩, fun q hq => ?_⟩, by simp [intOf]; omega⟩
                      rcases hwh2 with l | l
                      · exact HOj.out q (by rw [HVN.out]; exact l.symm.trans hq)
                      · have e9 : (w6.alloc (.cells #[.int .u16 (ri : Int), .int .u32 (rg : Int)] 32)).heap.size = q := Option.some.inj (l.symm.trans hq)
                        have e8 : (w6.alloc (.cells #[.int .u16 (ri : Int), .int .u32 (rg : Int)] 32)).heap.size = w6.heap.size + 1 := by simp
                        have l1 := hL5 R _ _ (t1 (j * 2) _ (refL_at rn HR.out).1)
                        have l2 := hL5 OB 0 _ t2
                        have l3 := hL5 CB 0 _ t3
                        exact ⟨by omega, by omega, by omega⟩
              · obtain rfl : j = rn.length := by omega
                rw [List.take_length] at HVN hSj
                obtain ⟨B2, hB2⟩ : ∃ x, B ++ rn = x := ⟨_, rfl⟩
                rw [hB2] at HVN hSj
                have hBl2 : vn ≤ 32 * (k + 1) := by rw [← HVN.out, ← hB2, List.length_append]; have := HBL.out; have := H32.out; omega
                have HS4 := hideIt hSj
                have HBL2 : Hid (B2.length = vn) := HVN.out
                clear hBl hSj hrj hoj hB2 HVN HBL HRn HNd H32 HMR HBo
                go_wp2_with fail
                clear hob hcb
                have HS4' : Hid (Sl P m1 m2 base w (.slice ad2 vn cp2) A' rb' sb' s' tl' ws' L' n' B2 D wr) := by rw [← HBL2.out]; exact HS4.out
                go_loopw [83] (fun v wr => ∃ (j : Nat) (D' : List (Nat × Nat)), j ≤ vn ∧ v = .int .i64 (j : Int) ∧ D'.length ≤ D.length + j ∧ Sl P m1 m2 base w (.slice ad2 vn cp2) A' rb' sb' s' tl' ws' L' n' B2 D' wr) (fun v _ => vn - (intOf v).toNat)
                case atStart => exact ⟨0, D, by omega, rfl, by omega, HS4'.out⟩
                case round =>
                  clear HS4' HS4
                  obtain ⟨j, D', hj, rfl, hDj, hSj⟩ := hrel
                  by_cases hltj : j < vn
                  · as_aux_lemma =>
                      have hltj' : (j : Int) < (vn : Int) := by omega
                      obtain ⟨r, hr⟩ : ∃ r, B2[j]? = some r := ⟨_, List.getElem?_eq_getElem (by rw [HBL2.out]; exact hltj)⟩
                      obtain ⟨qq, hqq, y0, y1⟩ := Sl.at (by rw [HBL2.out]; exact hSj) hr
                      obtain ⟨ri, rg⟩ := r
                      have hbn := hSj.bn (ri, rg) (List.mem_of_getElem? hr)
                      have HBn : Hid (Bn s' (ri, rg)) := hbn
                      have hri : ri < 65536 := by have := hbn.1; omega
                      have hrg : rg < 4294967296 := hbn.2.2.1
                      have bX := alloc_below (w := wr) (.cells #[.int .u16 (ri : Int), .int .u32 (rg : Int)] 32)
                      have hSb := hSj.below bX
                      have pcb := hSb.hs.pc
                      have hxb : (wr.alloc (.cells #[.int .u16 (ri : Int), .int .u32 (rg : Int)] 32)).heap[wr.heap.size]? = some (.cells #[.int .u16 (ri : Int), .int .u32 (rg : Int)] 32 (0, 0)) := heap_new _ _
                      have HXb := hideIt hxb
                      have HLk := hideIt (LookupS_walk hSb.hs.ms hSb.hs.iv ri (rg : Int))
                      have HSb := hideIt hSb
                      have HBx : Hid (base ≤ wr.heap.size) := hSj.bs.1
                      subst hqq
                      clear bX hSb hSj hbn hr hxb
                      go_wp2_with fail
                      go_at_call 25
                      generalize wr.alloc (.cells #[.int .u16 (ri : Int), .int .u32 (rg : Int)] 32) = wb at *
                      refine HLk.out.mono ?_
                      rintro e w5 hh
                      clear pcb HLk
                      rcases hh with ⟨hn, ve, cd, rfl, ⟨hv, _, hb5⟩, hst⟩ | ⟨hl, ⟨xa, xb, xc, xd, xe, xf, rfl⟩, hb5⟩
                      · have hdd := HBn.out.dead hn
                        have hcd : cd = 2 := (hst hn).trans hdd.stale
                        subst hcd
                        have bI := alloc_below (w := w5) (.cells #[.int .u16 0, .int .u32 0, .int .u8 0, .int .u64 0, .int .u64 0, .int .u16 0, .int .u32 0] 41)
                        have hS6 := (HSb.out.below hb5).below bI
                        have hx5 := (hb5.block wr.heap.size (heap_lt HXb.out)).trans HXb.out
                        have HX6 := hideIt ((bI.block wr.heap.size (heap_lt hx5)).trans hx5)
                        have HCo := hideIt (codeOf_err ve 2 _ hS6.hs.gl.ed (hv.below bI))
                        have HS6 := hideIt hS6
                        have HDd : Hid (Dd s' ri (rg : Int)) := hdd
                        obtain ⟨be, rfl, _⟩ := hv
                        clear bI hS6 hb5 hx5 hst hn hdd HSb HXb
                        unfold inf7
                        go_wp2_with fail
                        go_at_call 26
                        generalize w5.alloc (.cells #[.int .u16 0, .int .u32 0, .int .u8 0, .int .u64 0, .int .u64 0, .int .u16 0, .int .u32 0] 41) = w6 at *
                        refine HCo.out.mono ?_
                        rintro e w7 ⟨rfl, hb7⟩
                        have hS7 := HS6.out.below hb7
                        have hx7 := (hb7.block wr.heap.size (heap_lt HX6.out)).trans HX6.out
                        obtain ⟨e0, e1⟩ := ref_agg hx7
                        have hlk := hS7.k2.look (i := ri) (g := rg) hri hrg
                        by_cases hm : (ri, rg) ∈ D'
                        · rw [decide_eq_true hm] at hlk
                          have HS7s := hideIt hS7
                          clear hS7 hx7 hb7 HCo HS6 HX6
                          go_wp2_with fail
                          go_roundw
                          case rel => exact ⟨j + 1, D', by omega, by go_num, by omega, HS7s.out⟩
                          case measure => simp [intOf]; omega
                        · rw [decide_eq_false hm] at hlk
                          obtain ⟨w8, hup, hm8, hg8⟩ := hS7.k2.put (i := ri) (g := rg) (by unfold maxLen; have := HLen.out; omega) hri hrg
                          have hS8 := hS7.dead hm8 hg8 HDd.out
                          have hne : some wr.heap.size ≠ some m2 := fun q => by have := Option.some.inj q; have := hS7.ms.2.2.1; have := HBx.out; omega
                          have hx8 := (hg8.block wr.heap.size (heap_lt hx7) hne).trans hx7
                          obtain ⟨i0, i1⟩ := ref_agg hx8
                          have pc8 := hS8.hs.pc
                          have HRf := hideIt (refused_walk hS8.hs.ms hS8.hs.iv hS8.hs.wr hS8.hs.gl hS8.hs.hz ri rg hrg HDd.out)
                          have HS8 := hideIt hS8
                          clear hS7 hx7 hb7 HCo HS6 HX6 hm8 hg8 hS8 hne hx8
                          go_wp2_with fail
                          go_at_call 24
                          refine HRf.out.mono ?_
                          rintro e w9 ⟨rfl, hb9⟩
                          have HS9 := hideIt (HS8.out.below hb9)
                          clear hb9 HRf
                          go_wp2_with fail
                          go_roundw
                          case rel => exact ⟨j + 1, (ri, rg) :: D', by omega, by go_num, by rw [List.length_cons]; omega, HS9.out⟩
                          case measure => simp [intOf]; omega
                      · have bI := alloc_below (w := w5) (.cells #[.int .u16 xa, .int .u32 xb, .int .u8 (s'.hd ri).typ, .int .u64 xc, .int .u64 xd, .int .u16 xe, .int .u32 xf] 41)
                        have hS6 := (HSb.out.below hb5).below bI
                        have hnd : ¬ (ri, rg) ∈ D' := fun q => (hS6.dd _ q).not hl
                        have hlk := hS6.k2.look (i := ri) (g := rg) hri hrg
                        rw [decide_eq_false hnd] at hlk
                        have hx5 := (hb5.block wr.heap.size (heap_lt HXb.out)).trans HXb.out
                        have hx6 := (bI.block wr.heap.size (heap_lt hx5)).trans hx5
                        obtain ⟨e0, e1⟩ := ref_agg hx6
                        have HS6 := hideIt hS6
                        clear bI hS6 hnd hb5 hx5 hx6
                        unfold inf7
                        go_wp2_with fail
                        go_roundw
                        case rel => exact ⟨j + 1, D', by omega, by go_num, by omega, HS6.out⟩
                        case measure => simp [intOf]; omega
                  · obtain rfl : j = vn := by omega
                    have HSe := hideIt hSj
                    clear hSj
                    go_wp2_with fail
                    go_roundw
                    case rel => exact ⟨k + 1, A', rb', sb', s', tl', ws', L', n', B2, D', by omega, by go_num, by rw [HBL2.out]; omega, by have := HLen.out; omega, HSe.out⟩
                    case measure => simp [intOf]; omega
        by_cases hk1 : kk = 1
        · as_aux_lemma =>
            subst hk1
            obtain ⟨R, rl, hrefs, hRf, hrng, h32, hfr, hnd⟩ := HQ.out.nw (Or.inr rfl) rfl
            obtain ⟨rn, rfl, hrl, hnd2, hrn⟩ := new_facts HS4.out.hs.iv hfr hnd
            have hle : (refN rn).length = rn.length := hrl.symm
            rw [hle] at hrefs h32
            injection hrefs with q1 q2 q3
            subst q1 q2 q3
            have bC := alloc_below (w := w3) (.cells #[.int .u8 0, .slice (some ⟨R, 0, none⟩) rn.length rn.length, .slice v1 v2 v3] 57)
            have HRg : Hid ((w3.alloc (.cells #[.int .u8 0, .slice (some ⟨R, 0, none⟩) rn.length rn.length, .slice v1 v2 v3] 57)).rangeAt R 0 (refL (refN rn))) := fun jj vv hj => (bC.cell (p := ⟨R, 0 + jj, none⟩) (cell_lt (hrng jj vv hj))).trans (hrng jj vv hj)
            have HRf := hideIt hRf
            have HRn := hideIt hrn
            have HNd := hideIt hnd2
            have H32 := hideIt h32
            have HX0 := hideIt x0
            have HC0 := hideIt c0
            clear bC hrng hfr hnd hrl hle hRf hrn hnd2 h32
            go_wp2_with fail
            generalize w3.alloc (.cells #[.int .u8 0, .slice (some ⟨R, 0, none⟩) rn.length rn.length, .slice v1 v2 v3] 57) = wK at *
            have HOw : Hid (∀ q, (Value.slice ad BL cp).ownBlock = some q → q ≠ R ∧ q ≠ wr.heap.size ∧ q ≠ w3.heap.size) := by
              rw [← HBL.out]
              exact fun q hq => by have := HOl.out q hq; have := HRf.out; have := HSZ.out; have := HW3.out; exact ⟨by omega, by omega, by omega⟩
            have HMR : Hid (m1 ≠ R ∧ m1 ≠ wr.heap.size ∧ m1 ≠ w3.heap.size) := by have := HMl.out; have := HRf.out; have := HSZ.out; have := HW3.out; exact ⟨by omega, by omega, by omega⟩
            have HSK : Hid (Sl P m1 m2 base w (.slice ad BL cp) A' rb' sb' s' tl' ws' L' n' (B ++ rn.take 0) D wK) := by rw [← HBL.out, List.take_zero, List.append_nil]; exact HS4.out
            clear x0 x1 x2 c0 c1 HS4 HRf HSZ HW3 HMl HOl
            generalize wr.heap.size = OB at *
            generalize w3.heap.size = CB at *
            go_loopw [4, 46] (fun v4 v46 wr => ∃ (j : Nat), j ≤ rn.length ∧ v46 = .int .i64 (j : Int) ∧ Sl P m1 m2 base w v4 A' rb' sb' s' tl' ws' L' n' (B ++ rn.take j) D wr ∧ (wr.rangeAt R 0 (refL (refN rn)) ∧ wr.cell? ⟨OB, 0, none⟩ = some (.int .u8 1) ∧ wr.cell? ⟨CB, 0, none⟩ = some (.int .u8 0)) ∧ ∀ q, v4.ownBlock = some q → q ≠ R ∧ q ≠ OB ∧ q ≠ CB) (fun _ v _ => rn.length - (intOf v).toNat)
            case atStart => exact ⟨0, by omega, rfl, HSK.out, ⟨HRg.out, HX0.out, HC0.out⟩, HOw.out⟩
            case round =>
              clear HSK HOw HRg HX0 HC0
              obtain ⟨j, hj, rfl, hSj, ⟨hrj, hob, hcb⟩, hoj⟩ := hrel
              obtain ⟨ad2, cp2, rfl⟩ := hSj.shape
              obtain ⟨vn, hvn⟩ : ∃ x, (B ++ rn.take j).length = x := ⟨_, rfl⟩
              rw [hvn]
              have HVN := hideIt hvn
              clear hvn
              by_cases hltj : j < rn.length
              · as_aux_lemma =>
                  have hltj' : (j : Int) < (rn.length : Int) := by omega
                  have hl32 : rn.length ≤ 32 := H32.out
                  obtain ⟨r, hr⟩ : ∃ r, rn[j]? = some r := ⟨_, List.getElem?_eq_getElem hltj⟩
                  obtain ⟨ri, rg⟩ := r
                  obtain ⟨h1, h2⟩ := refL_at rn hr
                  have y0 : wr.cell? ⟨R, j * 2, none⟩ = some (.int .u16 (ri : Int)) := by have := hrj (j * 2) _ h1; rwa [Nat.zero_add] at this
                  have y1 : wr.cell? ⟨R, j * 2 + 1, none⟩ = some (.int .u32 (rg : Int)) := by have := hrj (j * 2 + 1) _ h2; rwa [Nat.zero_add] at this
                  obtain ⟨g1, g2, g3, g4⟩ := HRn.out (ri, rg) (List.mem_of_getElem? hr)
                  have hri : ri < 65536 := by have := g4.1; omega
                  have hnk : ¬ (ri, rg) ∈ B ++ rn.take j := fun q => by
                    rcases List.mem_append.1 q with q | q
                    · exact (HBo.out _ q).fresh g2 g3
                    · exact take_not HNd.out hr q
                  have bX := alloc_below (w := wr) (.cells #[.int .u16 (ri : Int), .int .u32 (rg : Int)] 32)
                  have hSb := hSj.below bX
                  have hxb : (wr.alloc (.cells #[.int .u16 (ri : Int), .int .u32 (rg : Int)] 32)).heap[wr.heap.size]? = some (.cells #[.int .u16 (ri : Int), .int .u32 (rg : Int)] 32 (0, 0)) := heap_new _ _
                  have hlk := hSb.k1.look (i := ri) (g := rg) hri g1
                  rw [decide_eq_false hnk] at hlk
                  have pcb := hSb.hs.pc
                  have HVl := hideIt (valid_walk hSb.hs.ms.am ri (rg : Int))
                  have HSb := hideIt hSb
                  have HXb := hideIt hxb
                  have HG1 : Hid (rg < 4294967296) := g1
                  have HLv : Hid (Live s' ri (rg : Int)) := g4
                  have HR := hideIt hr
                  have HKb : Hid (∀ (b o : Nat) (x : Value), wr.cell? ⟨b, o, none⟩ = some x → (wr.alloc (.cells #[.int .u16 (ri : Int), .int .u32 (rg : Int)] 32)).cell? ⟨b, o, none⟩ = some x) := fun b o x hq => (bX.cell (p := ⟨b, o, none⟩) (cell_lt hq)).trans hq
                  have HC3 : Hid (wr.rangeAt R 0 (refL (refN rn)) ∧ wr.cell? ⟨OB, 0, none⟩ = some (.int .u8 1) ∧ wr.cell? ⟨CB, 0, none⟩ = some (.int .u8 0)) := ⟨hrj, hob, hcb⟩
                  have HOj := hideIt hoj
                  have HBx : Hid (base ≤ wr.heap.size) := hSj.bs.1
                  clear bX hSb hxb hSj hrj hoj h1 h2 g2 g3 hr hnk hob hcb
                  go_wp2_with fail
                  go_at_call 23
                  generalize wr.alloc (.cells #[.int .u16 (ri : Int), .int .u32 (rg : Int)] 32) = wb at *
                  refine HVl.out.mono ?_
                  rintro e w5 ⟨rfl, hb5⟩
                  as_aux_lemma =>
                    rw [show decide (Live s' ri (rg : Int)) = true from decide_eq_true HLv.out]
                    have hS5 := HSb.out.below hb5
                    have hx5 := (hb5.block wr.heap.size (heap_lt HXb.out)).trans HXb.out
                    obtain ⟨e0, e1⟩ := ref_agg hx5
                    have hlen5 : (B ++ rn.take j).length ≤ 4194304 := by rw [List.length_append, List.length_take]; have := HLen.out; have := HBL.out; have := H32.out; omega
                    obtain ⟨w6, hup, hm6, hg6⟩ := hS5.k1.put (i := ri) (g := rg) (by unfold maxLen; omega) hri HG1.out
                    obtain ⟨_, hX, _, _, hbs⟩ := hS5.known hm6 hg6
                    have hne : some wr.heap.size ≠ some m1 := fun q => by have := Option.some.inj q; have := hS5.ms.2.1; have := HBx.out; omega
                    have hx6 := (hg6.block wr.heap.size (heap_lt hx5) hne).trans hx5
                    obtain ⟨f0, f1⟩ := ref_agg hx6
                    have HX : Hid (w6.ownsRow base 32 2 (.slice ad2 vn cp2) vn (refL (refN (B ++ rn.take j)))) := by rw [HVN.out] at hX; exact hX
                    have hvl : vn ≤ 4194304 := by rw [← HVN.out]; exact hlen5
                    have HS5 := hideIt hS5
                    have HM6 := hideIt hm6
                    have HG6 := hideIt hg6
                    have HK5 : Hid (∀ (b o : Nat) (x : Value), wr.cell? ⟨b, o, none⟩ = some x → w5.cell? ⟨b, o, none⟩ = some x) := fun b o x hq => (hb5.cell (p := ⟨b, o, none⟩) (cell_lt (HKb.out b o x hq))).trans (HKb.out b o x hq)
                    clear hb5 hx5 hx6 hS5 hX hm6 hg6 hne pcb HVl HSb HXb
                    clear hlen5
                    go_wp2_with ((at_builtin; refine wpList_append_own_at _ rfl (.tmp 61) (.tmp 63) 55 rfl base 32 i0 (.agg #[.int .u16 0, .int .u32 0]) 2 8 Tryz.underlying55 hi0 hz0 hz1 hz2 rfl (by decide) _ _ _ rfl (HX.out.alloc _) ⟨w6.heap.size, 0, none⟩ 1 1 [.int .u16 (ri : Int), .int .u32 (rg : Int)] rfl rfl (new_two w6 _ rfl _ _ _) (ones2 _ _) (by unfold maxLen; omega) (by omega) (by simp; omega) ?_; intro b1 w8 hown1 hgrow1 _ hwh1))
                    as_aux_lemma =>
                      have hown2 : w8.ownsRow base 32 2 b1 (vn + 1) (refL (refN (B ++ rn.take j)) ++ [.int .u16 (ri : Int), .int .u32 (rg : Int)]) := hown1
                      have hgr2 : (w6.alloc (.cells #[.int .u16 (ri : Int), .int .u32 (rg : Int)] 32)).grownBy w8 (Value.slice ad2 vn cp2).ownBlock := hgrow1
                      have hwh2 : b1.ownBlock = (Value.slice ad2 vn cp2).ownBlock ∨ b1.ownBlock = some (w6.alloc (.cells #[.int .u16 (ri : Int), .int .u32 (rg : Int)] 32)).heap.size := hwh1
                      clear hown1 hgrow1 hwh1
                      have hSn := HS5.out.born HM6.out HG6.out (by rw [HVN.out]; exact hown2) (by rw [HVN.out]; exact hgr2) (by rw [HVN.out]; exact hwh2) (Bn.born HLv.out HG1.out)
                      rw [List.append_assoc, ← take_snoc HR.out] at hSn
                      have hsz6 : w5.heap.size ≤ w6.heap.size := HG6.out.size
                      have hK8 : ∀ (b o : Nat) (x : Value), wr.cell? ⟨b, o, none⟩ = some x → m1 ≠ b → (∀ q, (Value.slice ad2 (B ++ rn.take j).length cp2).ownBlock = some q → q ≠ b) → w8.cell? ⟨b, o, none⟩ = some x := fun b o x hq hm ho => by
                        have k5 := HK5.out b o x hq
                        have l5 : b < w5.heap.size := cell_lt k5
                        have k6 : w6.heap[b]? = w5.heap[b]? := HG6.out.block b l5 (fun q => hm (Option.some.inj q).symm)
                        have k7 : (w6.alloc (.cells #[.int .u16 (ri : Int), .int .u32 (rg : Int)] 32)).heap[b]? = w6.heap[b]? := heap_alloc_old _ _ (by omega)
                        have k8 := hgr2.block b (by simp; omega) (fun q => ho b (by rw [HVN.out]; exact q.symm) rfl)
                        exact (World.cell?_of_block (a := ⟨b, o, none⟩) (k8.trans (k7.trans k6))).trans k5
                      have hL5 : ∀ (b o : Nat) (x : Value), wr.cell? ⟨b, o, none⟩ = some x → b < w5.heap.size := fun b o x hq => cell_lt (HK5.out b o x hq)
                      obtain ⟨t1, t2, t3⟩ := HC3.out
                      obtain ⟨m1a, m1b, m1c⟩ := HMR.out
                      refine ⟨⟨j + 1, by omega, by go_num, hSn, ⟨fun jj vv hq => hK8 R _ vv (t1 jj vv hq) m1a (fun q hq => (HOj.out q hq).1), hK8 OB 0 _ t2 m1b (fun q hq => (HOj.out q hq).2.1), hK8 CB 0 _ t3 m1c (fun q hq => (HOj.out q hq).2.2)⟩, fun q hq => ?_⟩, by simp [intOf]; omega⟩
                      rcases hwh2 with l | l
                      · exact HOj.out q (by rw [HVN.out]; exact l.symm.trans hq)
                      · have e9 : (w6.alloc (.cells #[.int .u16 (ri : Int), .int .u32 (rg : Int)] 32)).heap.size = q := Option.some.inj (l.symm.trans hq)
                        have e8 : (w6.alloc (.cells #[.int .u16 (ri : Int), .int .u32 (rg : Int)] 32)).heap.size = w6.heap.size + 1 := by simp
                        have l1 := hL5 R _ _ (t1 (j * 2) _ (refL_at rn HR.out).1)
                        have l2 := hL5 OB 0 _ t2
                        have l3 := hL5 CB 0 _ t3
                        exact ⟨by omega, by omega, by omega⟩
              · obtain rfl : j = rn.length := by omega
                rw [List.take_length] at HVN hSj
                obtain ⟨B2, hB2⟩ : ∃ x, B ++ rn = x := ⟨_, rfl⟩
                rw [hB2] at HVN hSj
                have hBl2 : vn ≤ 32 * (k + 1) := by rw [← HVN.out, ← hB2, List.length_append]; have := HBL.out; have := H32.out; omega
                have HS4 := hideIt hSj
                have HBL2 : Hid (B2.length = vn) := HVN.out
                clear hBl hSj hrj hoj hB2 HVN HBL HRn HNd H32 HMR HBo
                go_wp2_with fail
                clear hob hcb
                have HS4' : Hid (Sl P m1 m2 base w (.slice ad2 vn cp2) A' rb' sb' s' tl' ws' L' n' B2 D wr) := by rw [← HBL2.out]; exact HS4.out
                go_loopw [83] (fun v wr => ∃ (j : Nat) (D' : List (Nat × Nat)), j ≤ vn ∧ v = .int .i64 (j : Int) ∧ D'.length ≤ D.length + j ∧ Sl P m1 m2 base w (.slice ad2 vn cp2) A' rb' sb' s' tl' ws' L' n' B2 D' wr) (fun v _ => vn - (intOf v).toNat)
                case atStart => exact ⟨0, D, by omega, rfl, by omega, HS4'.out⟩
                case round =>
                  clear HS4' HS4
                  obtain ⟨j, D', hj, rfl, hDj, hSj⟩ := hrel
                  by_cases hltj : j < vn
                  · as_aux_lemma =>
                      have hltj' : (j : Int) < (vn : Int) := by omega
                      obtain ⟨r, hr⟩ : ∃ r, B2[j]? = some r := ⟨_, List.getElem?_eq_getElem (by rw [HBL2.out]; exact hltj)⟩
                      obtain ⟨qq, hqq, y0, y1⟩ := Sl.at (by rw [HBL2.out]; exact hSj) hr
                      obtain ⟨ri, rg⟩ := r
                      have hbn := hSj.bn (ri, rg) (List.mem_of_getElem? hr)
                      have HBn : Hid (Bn s' (ri, rg)) := hbn
                      have hri : ri < 65536 := by have := hbn.1; omega
                      have hrg : rg < 4294967296 := hbn.2.2.1
                      have bX := alloc_below (w := wr) (.cells #[.int .u16 (ri : Int), .int .u32 (rg : Int)] 32)
                      have hSb := hSj.below bX
                      have pcb := hSb.hs.pc
                      have hxb : (wr.alloc (.cells #[.int .u16 (ri : Int), .int .u32 (rg : Int)] 32)).heap[wr.heap.size]? = some (.cells #[.int .u16 (ri : Int), .int .u32 (rg : Int)] 32 (0, 0)) := heap_new _ _
                      have HXb := hideIt hxb
                      have HLk := hideIt (LookupS_walk hSb.hs.ms hSb.hs.iv ri (rg : Int))
                      have HSb := hideIt hSb
                      have HBx : Hid (base ≤ wr.heap.size) := hSj.bs.1
                      subst hqq
                      clear bX hSb hSj hbn hr hxb
                      go_wp2_with fail
                      go_at_call 25
                      generalize wr.alloc (.cells #[.int .u16 (ri : Int), .int .u32 (rg : Int)] 32) = wb at *
                      refine HLk.out.mono ?_
                      rintro e w5 hh
                      clear pcb HLk
                      rcases hh with ⟨hn, ve, cd, rfl, ⟨hv, _, hb5⟩, hst⟩ | ⟨hl, ⟨xa, xb, xc, xd, xe, xf, rfl⟩, hb5⟩
                      · have hdd := HBn.out.dead hn
                        have hcd : cd = 2 := (hst hn).trans hdd.stale
                        subst hcd
                        have bI := alloc_below (w := w5) (.cells #[.int .u16 0, .int .u32 0, .int .u8 0, .int .u64 0, .int .u64 0, .int .u16 0, .int .u32 0] 41)
                        have hS6 := (HSb.out.below hb5).below bI
                        have hx5 := (hb5.block wr.heap.size (heap_lt HXb.out)).trans HXb.out
                        have HX6 := hideIt ((bI.block wr.heap.size (heap_lt hx5)).trans hx5)
                        have HCo := hideIt (codeOf_err ve 2 _ hS6.hs.gl.ed (hv.below bI))
                        have HS6 := hideIt hS6
                        have HDd : Hid (Dd s' ri (rg : Int)) := hdd
                        obtain ⟨be, rfl, _⟩ := hv
                        clear bI hS6 hb5 hx5 hst hn hdd HSb HXb
                        unfold inf7
                        go_wp2_with fail
                        go_at_call 26
                        generalize w5.alloc (.cells #[.int .u16 0, .int .u32 0, .int .u8 0, .int .u64 0, .int .u64 0, .int .u16 0, .int .u32 0] 41) = w6 at *
                        refine HCo.out.mono ?_
                        rintro e w7 ⟨rfl, hb7⟩
                        have hS7 := HS6.out.below hb7
                        have hx7 := (hb7.block wr.heap.size (heap_lt HX6.out)).trans HX6.out
                        obtain ⟨e0, e1⟩ := ref_agg hx7
                        have hlk := hS7.k2.look (i := ri) (g := rg) hri hrg
                        by_cases hm : (ri, rg) ∈ D'
                        · rw [decide_eq_true hm] at hlk
                          have HS7s := hideIt hS7
                          clear hS7 hx7 hb7 HCo HS6 HX6
                          go_wp2_with fail
                          go_roundw
                          case rel => exact ⟨j + 1, D', by omega, by go_num, by omega, HS7s.out⟩
                          case measure => simp [intOf]; omega
                        · rw [decide_eq_false hm] at hlk
                          obtain ⟨w8, hup, hm8, hg8⟩ := hS7.k2.put (i := ri) (g := rg) (by unfold maxLen; have := HLen.out; omega) hri hrg
                          have hS8 := hS7.dead hm8 hg8 HDd.out
                          have hne : some wr.heap.size ≠ some m2 := fun q => by have := Option.some.inj q; have := hS7.ms.2.2.1; have := HBx.out; omega
                          have hx8 := (hg8.block wr.heap.size (heap_lt hx7) hne).trans hx7
                          obtain ⟨i0, i1⟩ := ref_agg hx8
                          have pc8 := hS8.hs.pc
                          have HRf := hideIt (refused_walk hS8.hs.ms hS8.hs.iv hS8.hs.wr hS8.hs.gl hS8.hs.hz ri rg hrg HDd.out)
                          have HS8 := hideIt hS8
                          clear hS7 hx7 hb7 HCo HS6 HX6 hm8 hg8 hS8 hne hx8
                          go_wp2_with fail
                          go_at_call 24
                          refine HRf.out.mono ?_
                          rintro e w9 ⟨rfl, hb9⟩
                          have HS9 := hideIt (HS8.out.below hb9)
                          clear hb9 HRf
                          go_wp2_with fail
                          go_roundw
                          case rel => exact ⟨j + 1, (ri, rg) :: D', by omega, by go_num, by rw [List.length_cons]; omega, HS9.out⟩
                          case measure => simp [intOf]; omega
                      · have bI := alloc_below (w := w5) (.cells #[.int .u16 xa, .int .u32 xb, .int .u8 (s'.hd ri).typ, .int .u64 xc, .int .u64 xd, .int .u16 xe, .int .u32 xf] 41)
                        have hS6 := (HSb.out.below hb5).below bI
                        have hnd : ¬ (ri, rg) ∈ D' := fun q => (hS6.dd _ q).not hl
                        have hlk := hS6.k2.look (i := ri) (g := rg) hri hrg
                        rw [decide_eq_false hnd] at hlk
                        have hx5 := (hb5.block wr.heap.size (heap_lt HXb.out)).trans HXb.out
                        have hx6 := (bI.block wr.heap.size (heap_lt hx5)).trans hx5
                        obtain ⟨e0, e1⟩ := ref_agg hx6
                        have HS6 := hideIt hS6
                        clear bI hS6 hnd hb5 hx5 hx6
                        unfold inf7
                        go_wp2_with fail
                        go_roundw
                        case rel => exact ⟨j + 1, D', by omega, by go_num, by omega, HS6.out⟩
                        case measure => simp [intOf]; omega
                  · obtain rfl : j = vn := by omega
                    have HSe := hideIt hSj
                    clear hSj
                    go_wp2_with fail
                    go_roundw
                    case rel => exact ⟨k + 1, A', rb', sb', s', tl', ws', L', n', B2, D', by omega, by go_num, by rw [HBL2.out]; omega, by have := HLen.out; omega, HSe.out⟩
                    case measure => simp [intOf]; omega
        have e0 : ((kk : Int) == 0) = false := by rw [beq_eq_false_iff_ne]; omega
        have e1 : ((kk : Int) == 1) = false := by rw [beq_eq_false_iff_ne]; omega
        have e3 : ((kk : Int) == 3) = false := by rw [beq_eq_false_iff_ne]; omega
        go_wp2_with fail
        clear e0 e1 e3
        generalize w3.alloc (.cells #[.int .u8 0, .slice r1 r2 r3, .slice v1 v2 v3] 57) = wL at *
        have HS4' : Hid (Sl P m1 m2 base w (.slice ad BL cp) A' rb' sb' s' tl' ws' L' n' B D wL) := by rw [← HBL.out]; exact HS4.out
        go_loopw [83] (fun v wr => ∃ (j : Nat) (D' : List (Nat × Nat)), j ≤ BL ∧ v = .int .i64 (j : Int) ∧ D'.length ≤ D.length + j ∧ Sl P m1 m2 base w (.slice ad BL cp) A' rb' sb' s' tl' ws' L' n' B D' wr) (fun v _ => BL - (intOf v).toNat)
        case atStart => exact ⟨0, D, by omega, rfl, by omega, HS4'.out⟩
        case round =>
          clear HS4' HS4
          obtain ⟨j, D', hj, rfl, hDj, hSj⟩ := hrel
          by_cases hltj : j < BL
          · as_aux_lemma =>
              have hltj' : (j : Int) < (BL : Int) := by omega
              obtain ⟨r, hr⟩ : ∃ r, B[j]? = some r := ⟨_, List.getElem?_eq_getElem (by rw [HBL.out]; exact hltj)⟩
              obtain ⟨qq, hqq, y0, y1⟩ := Sl.at (by rw [HBL.out]; exact hSj) hr
              obtain ⟨ri, rg⟩ := r
              have hbn := hSj.bn (ri, rg) (List.mem_of_getElem? hr)
              have HBn : Hid (Bn s' (ri, rg)) := hbn
              have hri : ri < 65536 := by have := hbn.1; omega
              have hrg : rg < 4294967296 := hbn.2.2.1
              have bX := alloc_below (w := wr) (.cells #[.int .u16 (ri : Int), .int .u32 (rg : Int)] 32)
              have hSb := hSj.below bX
              have pcb := hSb.hs.pc
              have hxb : (wr.alloc (.cells #[.int .u16 (ri : Int), .int .u32 (rg : Int)] 32)).heap[wr.heap.size]? = some (.cells #[.int .u16 (ri : Int), .int .u32 (rg : Int)] 32 (0, 0)) := heap_new _ _
              have HXb := hideIt hxb
              have HLk := hideIt (LookupS_walk hSb.hs.ms hSb.hs.iv ri (rg : Int))
              have HSb := hideIt hSb
              have HBx : Hid (base ≤ wr.heap.size) := hSj.bs.1
              subst hqq
              clear bX hSb hSj hbn hr hxb
              go_wp2_with fail
              go_at_call 25
              generalize wr.alloc (.cells #[.int .u16 (ri : Int), .int .u32 (rg : Int)] 32) = wb at *
              refine HLk.out.mono ?_
              rintro e w5 hh
              clear pcb HLk
              rcases hh with ⟨hn, ve, cd, rfl, ⟨hv, _, hb5⟩, hst⟩ | ⟨hl, ⟨xa, xb, xc, xd, xe, xf, rfl⟩, hb5⟩
              · have hdd := HBn.out.dead hn
                have hcd : cd = 2 := (hst hn).trans hdd.stale
                subst hcd
                have bI := alloc_below (w := w5) (.cells #[.int .u16 0, .int .u32 0, .int .u8 0, .int .u64 0, .int .u64 0, .int .u16 0, .int .u32 0] 41)
                have hS6 := (HSb.out.below hb5).below bI
                have hx5 := (hb5.block wr.heap.size (heap_lt HXb.out)).trans HXb.out
                have HX6 := hideIt ((bI.block wr.heap.size (heap_lt hx5)).trans hx5)
                have HCo := hideIt (codeOf_err ve 2 _ hS6.hs.gl.ed (hv.below bI))
                have HS6 := hideIt hS6
                have HDd : Hid (Dd s' ri (rg : Int)) := hdd
                obtain ⟨be, rfl, _⟩ := hv
                clear bI hS6 hb5 hx5 hst hn hdd HSb HXb
                unfold inf7
                go_wp2_with fail
                go_at_call 26
                generalize w5.alloc (.cells #[.int .u16 0, .int .u32 0, .int .u8 0, .int .u64 0, .int .u64 0, .int .u16 0, .int .u32 0] 41) = w6 at *
                refine HCo.out.mono ?_
                rintro e w7 ⟨rfl, hb7⟩
                have hS7 := HS6.out.below hb7
                have hx7 := (hb7.block wr.heap.size (heap_lt HX6.out)).trans HX6.out
                obtain ⟨e0, e1⟩ := ref_agg hx7
                have hlk := hS7.k2.look (i := ri) (g := rg) hri hrg
                by_cases hm : (ri, rg) ∈ D'
                · rw [decide_eq_true hm] at hlk
                  have HS7s := hideIt hS7
                  clear hS7 hx7 hb7 HCo HS6 HX6
                  go_wp2_with fail
                  go_roundw
                  case rel => exact ⟨j + 1, D', by omega, by go_num, by omega, HS7s.out⟩
                  case measure => simp [intOf]; omega
                · rw [decide_eq_false hm] at hlk
                  obtain ⟨w8, hup, hm8, hg8⟩ := hS7.k2.put (i := ri) (g := rg) (by unfold maxLen; have := HLen.out; omega) hri hrg
                  have hS8 := hS7.dead hm8 hg8 HDd.out
                  have hne : some wr.heap.size ≠ some m2 := fun q => by have := Option.some.inj q; have := hS7.ms.2.2.1; have := HBx.out; omega
                  have hx8 := (hg8.block wr.heap.size (heap_lt hx7) hne).trans hx7
                  obtain ⟨i0, i1⟩ := ref_agg hx8
                  have pc8 := hS8.hs.pc
                  have HRf := hideIt (refused_walk hS8.hs.ms hS8.hs.iv hS8.hs.wr hS8.hs.gl hS8.hs.hz ri rg hrg HDd.out)
                  have HS8 := hideIt hS8
                  clear hS7 hx7 hb7 HCo HS6 HX6 hm8 hg8 hS8 hne hx8
                  go_wp2_with fail
                  go_at_call 24
                  refine HRf.out.mono ?_
                  rintro e w9 ⟨rfl, hb9⟩
                  have HS9 := hideIt (HS8.out.below hb9)
                  clear hb9 HRf
                  go_wp2_with fail
                  go_roundw
                  case rel => exact ⟨j + 1, (ri, rg) :: D', by omega, by go_num, by rw [List.length_cons]; omega, HS9.out⟩
                  case measure => simp [intOf]; omega
              · have bI := alloc_below (w := w5) (.cells #[.int .u16 xa, .int .u32 xb, .int .u8 (s'.hd ri).typ, .int .u64 xc, .int .u64 xd, .int .u16 xe, .int .u32 xf] 41)
                have hS6 := (HSb.out.below hb5).below bI
                have hnd : ¬ (ri, rg) ∈ D' := fun q => (hS6.dd _ q).not hl
                have hlk := hS6.k2.look (i := ri) (g := rg) hri hrg
                rw [decide_eq_false hnd] at hlk
                have hx5 := (hb5.block wr.heap.size (heap_lt HXb.out)).trans HXb.out
                have hx6 := (bI.block wr.heap.size (heap_lt hx5)).trans hx5
                obtain ⟨e0, e1⟩ := ref_agg hx6
                have HS6 := hideIt hS6
                clear bI hS6 hnd hb5 hx5 hx6
                unfold inf7
                go_wp2_with fail
                go_roundw
                case rel => exact ⟨j + 1, D', by omega, by go_num, by omega, HS6.out⟩
                case measure => simp [intOf]; omega
          · obtain rfl : j = BL := by omega
            have HSe := hideIt hSj
            clear hSj
            go_wp2_with fail
            go_roundw
            case rel => exact ⟨k + 1, A', rb', sb', s', tl', ws', L', n', B, D', by omega, by go_num, by rw [HBL.out]; omega, by have := HLen.out; omega, HSe.out⟩
            case measure => simp [intOf]; omega
      · as_aux_lemma =>
          have hcb : (code == 0) = false := by rw [beq_eq_false_iff_ne]; exact hc
          go_wp2_with fail
          generalize w3.alloc (.cells #[.int .u8 code, .slice r1 r2 r3, .slice v1 v2 v3] 57) = wL at *
          have HS4' : Hid (Sl P m1 m2 base w (.slice ad BL cp) A' rb' sb' s' tl' ws' L' n' B D wL) := by rw [← HBL.out]; exact HS4.out
          go_loopw [83] (fun v wr => ∃ (j : Nat) (D' : List (Nat × Nat)), j ≤ BL ∧ v = .int .i64 (j : Int) ∧ D'.length ≤ D.length + j ∧ Sl P m1 m2 base w (.slice ad BL cp) A' rb' sb' s' tl' ws' L' n' B D' wr) (fun v _ => BL - (intOf v).toNat)
          case atStart => exact ⟨0, D, by omega, rfl, by omega, HS4'.out⟩
          case round =>
            clear HS4' HS4
            obtain ⟨j, D', hj, rfl, hDj, hSj⟩ := hrel
            by_cases hltj : j < BL
            · as_aux_lemma =>
                have hltj' : (j : Int) < (BL : Int) := by omega
                obtain ⟨r, hr⟩ : ∃ r, B[j]? = some r := ⟨_, List.getElem?_eq_getElem (by rw [HBL.out]; exact hltj)⟩
                obtain ⟨qq, hqq, y0, y1⟩ := Sl.at (by rw [HBL.out]; exact hSj) hr
                obtain ⟨ri, rg⟩ := r
                have hbn := hSj.bn (ri, rg) (List.mem_of_getElem? hr)
                have HBn : Hid (Bn s' (ri, rg)) := hbn
                have hri : ri < 65536 := by have := hbn.1; omega
                have hrg : rg < 4294967296 := hbn.2.2.1
                have bX := alloc_below (w := wr) (.cells #[.int .u16 (ri : Int), .int .u32 (rg : Int)] 32)
                have hSb := hSj.below bX
                have pcb := hSb.hs.pc
                have hxb : (wr.alloc (.cells #[.int .u16 (ri : Int), .int .u32 (rg : Int)] 32)).heap[wr.heap.size]? = some (.cells #[.int .u16 (ri : Int), .int .u32 (rg : Int)] 32 (0, 0)) := heap_new _ _
                have HXb := hideIt hxb
                have HLk := hideIt (LookupS_walk hSb.hs.ms hSb.hs.iv ri (rg : Int))
                have HSb := hideIt hSb
                have HBx : Hid (base ≤ wr.heap.size) := hSj.bs.1
                subst hqq
                clear bX hSb hSj hbn hr hxb
                go_wp2_with fail
                go_at_call 25
                generalize wr.alloc (.cells #[.int .u16 (ri : Int), .int .u32 (rg : Int)] 32) = wb at *
                refine HLk.out.mono ?_
                rintro e w5 hh
                clear pcb HLk
                rcases hh with ⟨hn, ve, cd, rfl, ⟨hv, _, hb5⟩, hst⟩ | ⟨hl, ⟨xa, xb, xc, xd, xe, xf, rfl⟩, hb5⟩
                · have hdd := HBn.out.dead hn
                  have hcd : cd = 2 := (hst hn).trans hdd.stale
                  subst hcd
                  have bI := alloc_below (w := w5) (.cells #[.int .u16 0, .int .u32 0, .int .u8 0, .int .u64 0, .int .u64 0, .int .u16 0, .int .u32 0] 41)
                  have hS6 := (HSb.out.below hb5).below bI
                  have hx5 := (hb5.block wr.heap.size (heap_lt HXb.out)).trans HXb.out
                  have HX6 := hideIt ((bI.block wr.heap.size (heap_lt hx5)).trans hx5)
                  have HCo := hideIt (codeOf_err ve 2 _ hS6.hs.gl.ed (hv.below bI))
                  have HS6 := hideIt hS6
                  have HDd : Hid (Dd s' ri (rg : Int)) := hdd
                  obtain ⟨be, rfl, _⟩ := hv
                  clear bI hS6 hb5 hx5 hst hn hdd HSb HXb
                  unfold inf7
                  go_wp2_with fail
                  go_at_call 26
                  generalize w5.alloc (.cells #[.int .u16 0, .int .u32 0, .int .u8 0, .int .u64 0, .int .u64 0, .int .u16 0, .int .u32 0] 41) = w6 at *
                  refine HCo.out.mono ?_
                  rintro e w7 ⟨rfl, hb7⟩
                  have hS7 := HS6.out.below hb7
                  have hx7 := (hb7.block wr.heap.size (heap_lt HX6.out)).trans HX6.out
                  obtain ⟨e0, e1⟩ := ref_agg hx7
                  have hlk := hS7.k2.look (i := ri) (g := rg) hri hrg
                  by_cases hm : (ri, rg) ∈ D'
                  · rw [decide_eq_true hm] at hlk
                    have HS7s := hideIt hS7
                    clear hS7 hx7 hb7 HCo HS6 HX6
                    go_wp2_with fail
                    go_roundw
                    case rel => exact ⟨j + 1, D', by omega, by go_num, by omega, HS7s.out⟩
                    case measure => simp [intOf]; omega
                  · rw [decide_eq_false hm] at hlk
                    obtain ⟨w8, hup, hm8, hg8⟩ := hS7.k2.put (i := ri) (g := rg) (by unfold maxLen; have := HLen.out; omega) hri hrg
                    have hS8 := hS7.dead hm8 hg8 HDd.out
                    have hne : some wr.heap.size ≠ some m2 := fun q => by have := Option.some.inj q; have := hS7.ms.2.2.1; have := HBx.out; omega
                    have hx8 := (hg8.block wr.heap.size (heap_lt hx7) hne).trans hx7
                    obtain ⟨i0, i1⟩ := ref_agg hx8
                    have pc8 := hS8.hs.pc
                    have HRf := hideIt (refused_walk hS8.hs.ms hS8.hs.iv hS8.hs.wr hS8.hs.gl hS8.hs.hz ri rg hrg HDd.out)
                    have HS8 := hideIt hS8
                    clear hS7 hx7 hb7 HCo HS6 HX6 hm8 hg8 hS8 hne hx8
                    go_wp2_with fail
                    go_at_call 24
                    refine HRf.out.mono ?_
                    rintro e w9 ⟨rfl, hb9⟩
                    have HS9 := hideIt (HS8.out.below hb9)
                    clear hb9 HRf
                    go_wp2_with fail
                    go_roundw
                    case rel => exact ⟨j + 1, (ri, rg) :: D', by omega, by go_num, by rw [List.length_cons]; omega, HS9.out⟩
                    case measure => simp [intOf]; omega
                · have bI := alloc_below (w := w5) (.cells #[.int .u16 xa, .int .u32 xb, .int .u8 (s'.hd ri).typ, .int .u64 xc, .int .u64 xd, .int .u16 xe, .int .u32 xf] 41)
                  have hS6 := (HSb.out.below hb5).below bI
                  have hnd : ¬ (ri, rg) ∈ D' := fun q => (hS6.dd _ q).not hl
                  have hlk := hS6.k2.look (i := ri) (g := rg) hri hrg
                  rw [decide_eq_false hnd] at hlk
                  have hx5 := (hb5.block wr.heap.size (heap_lt HXb.out)).trans HXb.out
                  have hx6 := (bI.block wr.heap.size (heap_lt hx5)).trans hx5
                  obtain ⟨e0, e1⟩ := ref_agg hx6
                  have HS6 := hideIt hS6
                  clear bI hS6 hnd hb5 hx5 hx6
                  unfold inf7
                  go_wp2_with fail
                  go_roundw
                  case rel => exact ⟨j + 1, D', by omega, by go_num, by omega, HS6.out⟩
                  case measure => simp [intOf]; omega
            · obtain rfl : j = BL := by omega
              have HSe := hideIt hSj
              clear hSj
              go_wp2_with fail
              go_roundw
              case rel => exact ⟨k + 1, A', rb', sb', s', tl', ws', L', n', B, D', by omega, by go_num, by rw [HBL.out]; omega, by have := HLen.out; omega, HSe.out⟩
              case measure => simp [intOf]; omega
    · obtain rfl : k = len := by omega
      have HF := hideIt hL.bw
      clear hL
      go_wp2_with fail
      go_ret
      exact ⟨rfl, HF.out⟩
end Go.Proofs.Qxb6500847aGreatDoor.Os
