/-
  The walk of Minterms.
-/
import Derived.Test.Qxb6500848aGreatDoorMintA
import Derived.Maps.AppendAt
namespace Go.Proofs.Qxb6500848aGreatDoor
open Go.RowKit Pl
set_option maxRecDepth 100000

theorem info_set : (Tryz.prog.info? 53).map (fun i => (i.zero, i.size, i.bytes)) = some (some (.slice none 0 0), 1, 24) := by kernel_rfl

/-- Classes behind a slice. -/
def Sets (X : Nat → Prop) (w : World) (v : Value) (F : List (List Nat)) : Prop :=
  ∃ fs, fs.length = F.length ∧ Seq (fun u => u) X w v fs ∧ ∀ i (h : i < fs.length) (h' : i < F.length), Words X w fs[i] F[i]

/-- The state of the finer row while part j is being split. -/
structure Fin2 (w : World) (P : List (List Nat)) (vp : Value) (vs : List Value) (j : Nat) (vf : Value) (us : List Value) (Q : List (List Nat)) (wr : World) : Prop where
  fin : Rw w.heap.size none wr vf us Q
  par : Rw w.heap.size vf.ownBlock wr vp vs P
  good : Good Q
  tot : tot Q = tot (P.take j)
  below : Below w.heap.size w wr

theorem Fin2.len {w : World} {P : List (List Nat)} {vp : Value} {vs : List Value} {j : Nat} {vf : Value} {us : List Value} {Q : List (List Nat)} {wr : World} (h : Fin2 w P vp vs j vf us Q wr) (hP : Go.Proofs.Qxb6500848aGreatDoor.tot P = 196608) : us.length ≤ 196608 := by
  have h1 := h.good.len
  have h2 := h.fin.1
  have h3 := h.tot
  have h4 := tot_append (P.take j) (P.drop j)
  rw [List.take_append_drop] at h4
  omega

/-- The same, with a count besides. -/
structure Fin3 (w : World) (P : List (List Nat)) (vp : Value) (vs : List Value) (n : Nat) (vf : Value) (us : List Value) (Q : List (List Nat)) (wr : World) : Prop where
  fin : Rw w.heap.size none wr vf us Q
  par : Rw w.heap.size vf.ownBlock wr vp vs P
  good : Good Q
  tot : tot Q = n
  below : Below w.heap.size w wr

theorem Fin3.below' {w : World} {P : List (List Nat)} {vp : Value} {vs : List Value} {n : Nat} {vf : Value} {us : List Value} {Q : List (List Nat)} {wr w1 : World} (h : Fin3 w P vp vs n vf us Q wr) (k : Below wr.heap.size wr w1) : Fin3 w P vp vs n vf us Q w1 :=
  ⟨h.fin.below k, h.par.below k, h.good, h.tot, h.below.trans (k.mono h.below.size)⟩

/-- A class is appended: its own block b is new to the rows. -/
theorem Fin3.push {w : World} {P : List (List Nat)} {vp : Value} {vs : List Value} {n : Nat} {vf v' : Value} {us : List Value} {Q : List (List Nat)} {wr w2 : World} {b : Nat} {l : List Nat} (h : Fin3 w P vp vs n vf us Q wr) (hW : WB wr b l) (hb : w.heap.size ≤ b) (hbo : vf.ownBlock ≠ some b) (hl : Cl l) (hc : cnt l ≠ 0)
    (hown : w2.ownsRow w.heap.size 53 1 v' (us.length + 1) (us ++ [.slice (some ⟨b, 0, none⟩) 3072 3072])) (hg : (wr.alloc (.cells #[.slice (some ⟨b, 0, none⟩) 3072 3072] 53)).grownBy w2 vf.ownBlock)
    (ho' : v'.ownBlock = vf.ownBlock ∨ v'.ownBlock = some (wr.alloc (.cells #[.slice (some ⟨b, 0, none⟩) 3072 3072] 53)).heap.size) : Fin3 w P vp vs (n + cnt l) v' (us ++ [.slice (some ⟨b, 0, none⟩) 3072 3072]) (Q ++ [l]) w2 := by
  have hA := h.below' (alloc_below (.cells #[.slice (some ⟨b, 0, none⟩) 3072 3072] 53))
  have hw := WB.words (X := Out w.heap.size none vf.ownBlock) (hW.alloc (.cells #[.slice (some ⟨b, 0, none⟩) 3072 3072] 53)) (fun e => by
    rcases e with e | e | e
    · omega
    · cases e
    · exact hbo e) (by rw [hl.1]; decide)
  rw [hl.1] at hw
  refine ⟨hA.fin.push hw hown hg ho', hA.par.grow hg ho', hA.good.snoc hl hc, by rw [tot_snoc, hA.tot], hA.below.grown hg hA.below.size (fun k e => (ownsRow_block hA.fin.2.1 e).1)⟩

theorem own_ne {v v' : Value} {W : World} {b : Nat} (h : v'.ownBlock = v.ownBlock ∨ v'.ownBlock = some W.heap.size) (h1 : v.ownBlock ≠ some b) (h2 : b < W.heap.size) : v'.ownBlock ≠ some b := fun e => by
  rcases h with h | h
  · exact h1 (h.symm.trans e)
  · have := Option.some.inj (h.symm.trans e)
    omega

set_option maxHeartbeats 8000000 in
theorem minterms_loops {X : Nat → Prop} {w : World} {fv : Value} {F : List (List Nat)} (hF : Sets X w fv F) (hcl : ∀ s ∈ F, Cl s) (hfl : F.length ≤ 65536) (Q : Ending → World → Prop)
    (hrest : ∀ (vp : Value) (vs : List Value) (P : List (List Nat)) (wr : World), Rw w.heap.size none wr vp vs P → Good P → tot P = 196608 → P = mtF F → Below w.heap.size w wr → Calls Tryz.prog 72 #[vp, .func (.func 73) #[] #[]] wr (fun e w' => e = .returned (.tuple #[]) ∧ Q (.returned vp) w')) :
    Calls Tryz.prog 16 #[fv] w Q := by
  obtain ⟨fs, f1, ⟨fa, fc, rfl, f2, f3, f4⟩, f5⟩ := hF
  have F4 := hideIt f4
  have F5 := hideIt f5
  have HR := hideIt hrest
  have Hcl := hideIt hcl
  clear f4 f5 hrest hcl
  obtain ⟨i0, hi0, hz0, hz1, hz2⟩ := info_parts info_set
  have hfl2 : fs.length ≤ 65536 := by omega
  have F1 := hideIt f1
  clear f1
  go_enter Tryz.func16, Tryz.ntmps16
  go_wp2_with (go_at_call 69; refine (whole_walk w).mono ?_; rintro e w1 ⟨b, l, rfl, hW, hl, hl2, hb, hB⟩; have HW := hideIt hW; have Hl := hideIt hl; have Hl2 := hideIt hl2; have HB := hideIt hB; clear hW hl hl2 hB)
  go_loopw [3, 15] (fun vp i wr => ∃ (k : Nat) (vs : List Value) (P : List (List Nat)), k ≤ fs.length ∧ i = .int .i64 k ∧ Rw w.heap.size none wr vp vs P ∧ Good P ∧ tot P = 196608 ∧ P = mtF (F.take k) ∧ Below w.heap.size w wr) (fun _ i _ => fs.length - (intOf i).toNat)
  case atStart =>
    have ec : cnt l = 196608 := by
      rw [Hl2.out]
      exact cnt_whole
    refine ⟨0, _, _, by omega, rfl, Rw.one HW.out hb Hl.out.1 (by have := heap_lt HW.out; omega), fun p hp => ?_, by simp [tot, ec], by rw [Hl2.out]; simp [mtF, wholeL], HB.out.trans ((alloc_below _).mono HB.out.size)⟩
    rw [List.mem_singleton.1 hp]
    exact ⟨Hl.out, by omega⟩
  case round =>
    obtain ⟨k, vs, P, hk, rfl, hR, hG, hT, hE, hbel⟩ := hrel
    have hvl : vs.length ≤ 196608 := by have := hG.len; have := hR.1; omega
    by_cases hlt : k < fs.length
    · have hlt' : (k : Int) < (fs.length : Int) := by omega
      obtain ⟨g, o, rfl, hxg, hc⟩ := F4.out (fun e => by rw [e] at hlt; cases hlt)
      have gl : g < w.heap.size := cell_lt (hc k hlt)
      have c0 := (hbel.cell (p := ⟨g, o + k, none⟩) gl).trans (hc k hlt)
      have hkF : k < F.length := by have := F1.out; omega
      have hws := F5.out k hlt hkF
      have hss := Hcl.out _ (List.getElem_mem hkF)
      have HFk : Hid (F.take (k + 1) = F.take k ++ [F[k]'hkF]) := List.take_succ_eq_append_getElem hkF
      generalize F[k]'hkF = s at *
      generalize fs[k] = sv at *
      have Hws := hideIt hws
      have Hss := hideIt hss
      have HP := hideIt hR
      have HG := hideIt hG
      have HBl := hideIt hbel
      have hpf : ∃ ap cp, u3 = .slice ap vs.length cp := by
        obtain ⟨_, ⟨_, q⟩, _⟩ := hR
        rcases q with ⟨q, q0⟩ | ⟨gg, cc, _, q, _⟩
        · exact ⟨none, 0, by rw [q, q0]⟩
        · exact ⟨_, _, q⟩
      obtain ⟨ap, cp, rfl⟩ := hpf
      have HF0 : Hid (Fin2 w P (.slice ap vs.length cp) vs 0 (.slice none 0 0) [] [] wr) := ⟨Rw.nil _ _, hR, fun p hp => (by cases hp), by simp [tot], hbel⟩
      generalize hwo : wr = wo at *
      have HE := hideIt hE
      clear hws hss hR hG hbel hc hwo hE
      go_wp2_with fail
      go_loopw [6, 21] (fun vf i wr => ∃ (j : Nat) (us : List Value) (Q' : List (List Nat)), j ≤ vs.length ∧ i = .int .i64 j ∧ Fin2 w P (.slice ap vs.length cp) vs j vf us Q' wr ∧ Q' = spls s (P.take j)) (fun _ i _ => vs.length - (intOf i).toNat)
      case atStart => exact ⟨0, _, _, by omega, rfl, HF0.out, by simp [spls]⟩
      case round =>
        obtain ⟨j, us, Q', hj, rfl, hF2, hQ⟩ := hrel
        by_cases hlt2 : j < vs.length
        · have hlt2' : (j : Int) < (vs.length : Int) := by omega
          obtain ⟨pg, pc, ev, pcell, _⟩ := hF2.par.cell hlt2
          cases ev
          have hPl : j < P.length := by have := hF2.par.1; omega
          have hwp := hF2.par.2.2.2 j hlt2 hPl
          have hgp := HG.out _ (List.getElem_mem hPl)
          have ht1 : tot (P.take (j + 1)) = tot (P.take j) + cnt P[j] := by rw [List.take_succ_eq_append_getElem hPl, tot_snoc]
          have Ht1 := hideIt ht1
          have HQ := hideIt hQ
          have Hsp : Hid (spls s (P.take (j + 1)) = spls s (P.take j) ++ spl s P[j]) := by
            show _ = _
            rw [List.take_succ_eq_append_getElem hPl, spls_snoc]
          have Hspl : Hid (spl s P[j] = (if cnt (andL P[j] s) ≠ 0 then [andL P[j] s] else []) ++ (if cnt (outL P[j] s) ≠ 0 then [outL P[j] s] else [])) := rfl
          have hul := hF2.len hT
          have H3 : Hid (Fin3 w P (.slice (some ⟨pg, 0, none⟩) vs.length cp) vs (tot (P.take j)) u6 us Q' wr) := ⟨hF2.fin, hF2.par, hF2.good, hF2.tot, hF2.below⟩
          have hown6 : ∀ q, u6.ownBlock = some q → q < wr.heap.size := fun q hq => (ownsRow_block hF2.fin.2.1 hq).2
          have Hown6 := hideIt hown6
          have Hwp := hideIt hwp
          have Hgp := hideIt hgp
          have Hsb := hideIt hF2.below
          generalize P[j] = p at *
          generalize vs[j] = pv at *
          clear hF2 hwp hgp ht1 hown6 hQ
          go_wp2_with fail
          go_at_call 70
          refine (split_walk Hwp.out (Hws.out.below Hsb.out (Nat.le_refl _)) Hgp.out.1 Hss.out).mono ?_
          rintro e w2 ⟨b1, b2, rfl, hW1, hW2, hb1, hb2, hB2⟩
          have H4 := hideIt (H3.out.below' hB2)
          have c1 := andL_cl Hgp.out.1 Hss.out
          have c2 := outL_cl Hgp.out.1 Hss.out
          have HW1 := hideIt hW1
          have HW2 := hideIt hW2
          have HC1 := hideIt c1
          have HC2 := hideIt c2
          have Hsum : Hid (cnt (andL p s) + cnt (outL p s) = cnt p) := cnt_split p s (by rw [Hgp.out.1.1, Hss.out.1])
          have hszb := H3.out.below.size
          have n1 : u6.ownBlock ≠ some b1 ∧ u6.ownBlock ≠ some b2 := ⟨fun hq => by have := Hown6.out _ hq; omega, fun hq => by have := Hown6.out _ hq; omega⟩
          have hb1' : w.heap.size ≤ b1 := by omega
          have hb2' : w.heap.size ≤ b2 := by omega
          have N1 := hideIt n1
          have lb1 := heap_lt hW1
          have lb2 := heap_lt hW2
          generalize andL p s = l1 at *
          generalize outL p s = l2 at *
          clear hW1 hW2 c1 c2 n1 hB2
          have hul2 : us.length ≤ 196608 := hul
          obtain ⟨m1, e1⟩ : ∃ m, cnt l1 = m := ⟨_, rfl⟩
          obtain ⟨m2, e2⟩ : ∃ m, cnt l2 = m := ⟨_, rfl⟩
          by_cases q1 : m1 = 0
          · subst q1
            by_cases q2 : m2 = 0
            · subst q2
              go_wp2_with (first
                | (go_at_call_of 71 (Value.slice (some ⟨b1, 0, none⟩) 3072 3072); refine (count_walk (HW1.out.w3 HC1.out) (Nat.le_of_eq HC1.out.1) HC1.out.2).mono ?_; rintro e w' ⟨rfl, hw'⟩; obtain rfl := hw'.symm; rw [e1])
                | (go_at_call_of 71 (Value.slice (some ⟨b2, 0, none⟩) 3072 3072); refine (count_walk (HW2.out.w3 HC2.out) (Nat.le_of_eq HC2.out.1) HC2.out.2).mono ?_; rintro e w' ⟨rfl, hw'⟩; obtain rfl := hw'.symm; rw [e2]))
              go_roundw
              case rel => exact ⟨j + 1, _, _, by omega, by go_num, ⟨H4.out.fin, H4.out.par, H4.out.good, by rw [H4.out.tot, Ht1.out]; have := Hsum.out; omega, H4.out.below⟩, by rw [Hsp.out, ← HQ.out, Hspl.out]; simp [e1, e2]⟩
              case measure => simp [intOf]; omega
            · have p2 : (0 : Int) < (m2 : Int) := by omega
              have Hn2 : Hid (cnt l2 ≠ 0) := by rw [e2]; exact q2
              go_wp2_with (first
                | (go_at_call_of 71 (Value.slice (some ⟨b1, 0, none⟩) 3072 3072); refine (count_walk (HW1.out.w3 HC1.out) (Nat.le_of_eq HC1.out.1) HC1.out.2).mono ?_; rintro e w' ⟨rfl, hw'⟩; obtain rfl := hw'.symm; rw [e1])
                | (go_at_call_of 71 (Value.slice (some ⟨b2, 0, none⟩) 3072 3072); refine (count_walk (HW2.out.w3 HC2.out) (Nat.le_of_eq HC2.out.1) HC2.out.2).mono ?_; rintro e w' ⟨rfl, hw'⟩; obtain rfl := hw'.symm; rw [e2])
                | (at_builtin; refine wpList_append_own_at _ rfl (.tmp 41) (.tmp 43) 42 rfl w.heap.size 53 i0 (.slice none 0 0) 1 24 Tryz.underlying42 hi0 hz0 hz1 hz2 rfl (by decide) _ _ _ rfl (H4.out.fin.2.1.alloc _) ⟨w2.heap.size, 0, none⟩ 1 1 [(.slice (some ⟨b2, 0, none⟩) 3072 3072)] rfl rfl (World.news_of_block (cs := #[(.slice (some ⟨b2, 0, none⟩) 3072 3072)]) (t := 53) (fr := (0, 0)) (heap_new _ _)) (one_slice _ _ _) (by unfold maxLen; first | omega | (simp; omega)) (by first | omega | (simp; omega)) (Nat.le_trans H4.out.below.size (alloc_below _).size) ?_; intro v6 w6 hown6 hgrow6 _ hloc6; have H6 := hideIt (H4.out.push HW2.out hb2' N1.out.2 HC2.out Hn2.out hown6 hgrow6 hloc6); clear hown6 hgrow6 hloc6))
              go_roundw
              case rel => exact ⟨j + 1, _, _, by omega, by go_num, ⟨H6.out.fin, H6.out.par, H6.out.good, by rw [H6.out.tot, Ht1.out]; have := Hsum.out; omega, H6.out.below⟩, by rw [Hsp.out, ← HQ.out, Hspl.out]; simp [e1, e2, q2]⟩
              case measure => simp [intOf]; omega
          · have p1 : (0 : Int) < (m1 : Int) := by omega
            have Hn1 : Hid (cnt l1 ≠ 0) := by rw [e1]; exact q1
            by_cases q2 : m2 = 0
            · subst q2
              go_wp2_with (first
                | (go_at_call_of 71 (Value.slice (some ⟨b1, 0, none⟩) 3072 3072); refine (count_walk (HW1.out.w3 HC1.out) (Nat.le_of_eq HC1.out.1) HC1.out.2).mono ?_; rintro e w' ⟨rfl, hw'⟩; obtain rfl := hw'.symm; rw [e1])
                | (at_builtin; refine wpList_append_own_at _ rfl (.tmp 34) (.tmp 36) 42 rfl w.heap.size 53 i0 (.slice none 0 0) 1 24 Tryz.underlying42 hi0 hz0 hz1 hz2 rfl (by decide) _ _ _ rfl (H4.out.fin.2.1.alloc _) ⟨w2.heap.size, 0, none⟩ 1 1 [(.slice (some ⟨b1, 0, none⟩) 3072 3072)] rfl rfl (World.news_of_block (cs := #[(.slice (some ⟨b1, 0, none⟩) 3072 3072)]) (t := 53) (fr := (0, 0)) (heap_new _ _)) (one_slice _ _ _) (by unfold maxLen; first | omega | (simp; omega)) (by first | omega | (simp; omega)) (Nat.le_trans H4.out.below.size (alloc_below _).size) ?_; intro v5 w5 hown5 hgrow5 _ hloc5; have H5 := hideIt (H4.out.push HW1.out hb1' N1.out.1 HC1.out Hn1.out hown5 hgrow5 hloc5); have HW5 := hideIt (HW2.out.grow (alloc_below _) hgrow5 N1.out.2); have N5 := hideIt (own_ne hloc5 N1.out.2 (Nat.lt_of_lt_of_le lb2 (alloc_below _).size)); clear hown5 hgrow5 hloc5)
                | (go_at_call_of 71 (Value.slice (some ⟨b2, 0, none⟩) 3072 3072); refine (count_walk (HW5.out.w3 HC2.out) (Nat.le_of_eq HC2.out.1) HC2.out.2).mono ?_; rintro e w' ⟨rfl, hw'⟩; obtain rfl := hw'.symm; rw [e2]))
              go_roundw
              case rel => exact ⟨j + 1, _, _, by omega, by go_num, ⟨H5.out.fin, H5.out.par, H5.out.good, by rw [H5.out.tot, Ht1.out]; have := Hsum.out; omega, H5.out.below⟩, by rw [Hsp.out, ← HQ.out, Hspl.out]; simp [e1, e2, q1]⟩
              case measure => simp [intOf]; omega
            · have p2 : (0 : Int) < (m2 : Int) := by omega
              have Hn2 : Hid (cnt l2 ≠ 0) := by rw [e2]; exact q2
              go_wp2_with (first
                | (go_at_call_of 71 (Value.slice (some ⟨b1, 0, none⟩) 3072 3072); refine (count_walk (HW1.out.w3 HC1.out) (Nat.le_of_eq HC1.out.1) HC1.out.2).mono ?_; rintro e w' ⟨rfl, hw'⟩; obtain rfl := hw'.symm; rw [e1])
                | (at_builtin; refine wpList_append_own_at _ rfl (.tmp 34) (.tmp 36) 42 rfl w.heap.size 53 i0 (.slice none 0 0) 1 24 Tryz.underlying42 hi0 hz0 hz1 hz2 rfl (by decide) _ _ _ rfl (H4.out.fin.2.1.alloc _) ⟨w2.heap.size, 0, none⟩ 1 1 [(.slice (some ⟨b1, 0, none⟩) 3072 3072)] rfl rfl (World.news_of_block (cs := #[(.slice (some ⟨b1, 0, none⟩) 3072 3072)]) (t := 53) (fr := (0, 0)) (heap_new _ _)) (one_slice _ _ _) (by unfold maxLen; first | omega | (simp; omega)) (by first | omega | (simp; omega)) (Nat.le_trans H4.out.below.size (alloc_below _).size) ?_; intro v5 w5 hown5 hgrow5 _ hloc5; have H5 := hideIt (H4.out.push HW1.out hb1' N1.out.1 HC1.out Hn1.out hown5 hgrow5 hloc5); have HW5 := hideIt (HW2.out.grow (alloc_below _) hgrow5 N1.out.2); have N5 := hideIt (own_ne hloc5 N1.out.2 (Nat.lt_of_lt_of_le lb2 (alloc_below _).size)); clear hown5 hgrow5 hloc5)
                | (go_at_call_of 71 (Value.slice (some ⟨b2, 0, none⟩) 3072 3072); refine (count_walk (HW5.out.w3 HC2.out) (Nat.le_of_eq HC2.out.1) HC2.out.2).mono ?_; rintro e w' ⟨rfl, hw'⟩; obtain rfl := hw'.symm; rw [e2])
                | (at_builtin; refine wpList_append_own_at _ rfl (.tmp 41) (.tmp 43) 42 rfl w.heap.size 53 i0 (.slice none 0 0) 1 24 Tryz.underlying42 hi0 hz0 hz1 hz2 rfl (by decide) _ _ _ rfl (H5.out.fin.2.1.alloc _) ⟨w5.heap.size, 0, none⟩ 1 1 [(.slice (some ⟨b2, 0, none⟩) 3072 3072)] rfl rfl (World.news_of_block (cs := #[(.slice (some ⟨b2, 0, none⟩) 3072 3072)]) (t := 53) (fr := (0, 0)) (heap_new _ _)) (one_slice _ _ _) (by unfold maxLen; first | omega | (simp; omega)) (by first | omega | (simp; omega)) (Nat.le_trans H5.out.below.size (alloc_below _).size) ?_; intro v6 w6 hown6 hgrow6 _ hloc6; have H6 := hideIt (H5.out.push HW5.out hb2' N5.out HC2.out Hn2.out hown6 hgrow6 hloc6); clear hown6 hgrow6 hloc6))
              go_roundw
              case rel => exact ⟨j + 1, _, _, by omega, by go_num, ⟨H6.out.fin, H6.out.par, H6.out.good, by rw [H6.out.tot, Ht1.out]; have := Hsum.out; omega, H6.out.below⟩, by rw [Hsp.out, ← HQ.out, Hspl.out]; simp [e1, e2, q1, q2]⟩
              case measure => simp [intOf]; omega
        · obtain rfl : j = vs.length := by omega
          have hR2 := hF2.fin
          have hvP : P.take vs.length = P := List.take_of_length_le (by have := hF2.par.1; omega)
          have HR2 := hideIt hR2
          have HG2 := hideIt hF2.good
          have HT2 : Hid (tot Q' = 196608) := by have := hF2.tot; rw [hvP] at this; exact this.trans hT
          have HB2 := hideIt hF2.below
          have HQ2 : Hid (Q' = mtF (F.take (k + 1))) := by
            show _ = _
            rw [hQ, hvP, HFk.out, mtF_snoc, ← HE.out]
          clear hF2 hR2 hvP hQ
          go_wp2_with fail
          go_roundw
          case rel => exact ⟨k + 1, us, Q', by omega, by go_num, HR2.out, HG2.out, HT2.out, HQ2.out, HB2.out⟩
          case measure => simp [intOf]; omega
    · obtain rfl : k = fs.length := by omega
      have HC := hideIt (HR.out _ _ _ _ hR hG hT (by rw [hE, List.take_of_length_le (by have := F1.out; omega)]) hbel)
      clear hR hG hbel hE
      go_wp2_with (go_at_call 72; refine HC.out.mono ?_; rintro e w3 ⟨rfl, hq⟩)
      exact hq
end Go.Proofs.Qxb6500848aGreatDoor
