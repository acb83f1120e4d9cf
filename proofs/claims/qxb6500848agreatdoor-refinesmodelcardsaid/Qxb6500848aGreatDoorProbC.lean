/-
  The walk of probes with two given words.
-/
import Derived.Test.Qxb6500848aGreatDoorProbB
namespace Go.Proofs.Qxb6500848aGreatDoor
open Go.RowKit Pl
set_option maxRecDepth 100000

/-- The words when the given one has been laid. -/
structure PSb (X : Nat → Prop) (w : World) (p1 p2 : Value) (v2 : Value) (w2 : World) : Prop where
  below : Below w.heap.size w w2
  row : w2.ownsRow w.heap.size 24 1 v2 2 [p1, p2]
  el : ∀ u ∈ [p1, p2], Wrd (Av X v2.ownBlock none) w2 u 5
theorem PSb.size {X : Nat → Prop} {w : World} {p1 p2 v2 : Value} {w2 : World} (h : PSb X w p1 p2 v2 w2) : w.heap.size ≤ w2.heap.size := h.below.size
theorem PSb.mk0 {X : Nat → Prop} {w : World} {p1 p2 v2 : Value} {w2 : World} (hown : w2.ownsRow w.heap.size 24 1 v2 (0 + 2) ([] ++ [p1, p2])) (hg : (w.alloc (.cells #[] 24)).grownBy w2 (Value.slice (some ⟨w.heap.size, 0, none⟩) 0 0).ownBlock) (hp : ∀ u ∈ [p1, p2], Wrd X w u 5) : PSb X w p1 p2 v2 w2 := by
  have hb : Below w.heap.size w w2 := (alloc_below _).grown hg (alloc_below _).size (fun q e => by cases e; exact Nat.le_refl _)
  have ho : w2.ownsRow w.heap.size 24 1 v2 2 [p1, p2] := by simpa using hown
  refine ⟨hb, ho, ?_⟩
  intro u hu
  obtain ⟨wd, h1, h2, h3⟩ := hp u hu
  refine ⟨wd, h1, ?_, h3⟩
  have h4 : Ints (Av X v2.ownBlock none) w u wd := h2.more (fun b hb e => by
    rcases e with e | e | e
    · exact e
    · have := (ownsRow_block ho e).1; omega
    · cases e)
  exact h4.below hb (Nat.le_refl _)
theorem PSb.start {X : Nat → Prop} {w : World} {p1 p2 v2 v4 : Value} {w2 w4 : World} (h : PSb X w p1 p2 v2 w2) (hX : ∀ z, X z → z < w.heap.size) (hown : w4.ownsRow w.heap.size 24 1 v4 (2 + 1) ([p1, p2] ++ [.slice (some ⟨w2.heap.size, 0, none⟩) 0 0]))
    (hg : ((w2.alloc (.cells #[] 3)).alloc (.cells #[.slice (some ⟨w2.heap.size, 0, none⟩) 0 0] 24)).grownBy w4 v2.ownBlock) (ho : v4.ownBlock = v2.ownBlock ∨ v4.ownBlock = some ((w2.alloc (.cells #[] 3)).alloc (.cells #[.slice (some ⟨w2.heap.size, 0, none⟩) 0 0] 24)).heap.size) :
    PS X w v4 ([p1, p2] ++ [.slice (some ⟨w2.heap.size, 0, none⟩) 0 0]) (.slice (some ⟨w2.heap.size + 1, 0, none⟩) 1 1) [.slice (some ⟨w2.heap.size, 0, none⟩) 0 0] (.slice none 0 0) [] 0 w4 := by
  have hb2 : Below w2.heap.size w2 ((w2.alloc (.cells #[] 3)).alloc (.cells #[.slice (some ⟨w2.heap.size, 0, none⟩) 0 0] 24)) := (alloc_below _).trans ((alloc_below _).mono (alloc_below _).size)
  have sz : ((w2.alloc (.cells #[] 3)).alloc (.cells #[.slice (some ⟨w2.heap.size, 0, none⟩) 0 0] 24)).heap.size = w2.heap.size + 1 + 1 := by rw [Deep.nblk_alloc, Deep.nblk_alloc]
  have ob : ∀ q, v2.ownBlock = some q → q < w2.heap.size := fun q e => (ownsRow_block h.row e).2
  have hA : ∀ b, Av X v4.ownBlock (Value.slice none 0 0).ownBlock b → b < w2.heap.size ∨ b = w2.heap.size + 1 + 1 := fun b e => by
    rcases e with e | e | e
    · have := hX b e; have := h.size; omega
    · rcases ho with e2 | e2
      · rw [e2] at e; exact Or.inl (ob b e)
      · rw [e2, sz] at e; exact Or.inr (Option.some.inj e).symm
    · cases e
  have hAX : ∀ b, b < w2.heap.size + 1 + 1 → Av X v4.ownBlock (Value.slice none 0 0).ownBlock b → Av X v2.ownBlock none b := fun b hb e => by
    rcases e with e | e | e
    · exact Or.inl e
    · rcases ho with e2 | e2
      · rw [e2] at e; exact Or.inr (Or.inl e)
      · rw [e2, sz] at e; have := Option.some.inj e; omega
    · cases e
  have hes : ∀ L, WS (Av X v4.ownBlock (Value.slice none 0 0).ownBlock) w4 (.slice (some ⟨w2.heap.size, 0, none⟩) 0 0) L := fun L => ⟨w2.heap.size, 0, 0, [], rfl, Nat.zero_le _, ⟨_, 0, rfl, Nat.le_refl _, by decide, fun h => absurd rfl h⟩⟩
  refine ⟨(h.below.trans (hb2.mono h.size)).grown hg (by rw [sz]; have := h.size; omega) (fun q e => (ownsRow_block h.row e).1), by simpa using hown, fun u hu => ?_, ⟨by simp, Or.inl ⟨rfl, rfl⟩⟩, fun g hv => (by cases hv), fun u hu => (by cases hu), ?_, fun u hu => ?_⟩
  · rcases List.mem_append.1 hu with hu | hu
    · exact (((h.el u hu).below hb2).move hg (fun b e => Or.inr (Or.inl e)) (fun b hb e => hAX b (by rw [sz] at hb; exact hb) e)).le (by decide)
    · rw [List.mem_singleton.1 hu]; exact (hes 10).wrd
  · have hn : w4.heap[w2.heap.size + 1]? = some (.cells #[.slice (some ⟨w2.heap.size, 0, none⟩) 0 0] 24 (0, 0)) := by
      rw [hg.block (w2.heap.size + 1) (by rw [sz]; omega) (fun e => by have := ob _ e.symm; omega)]
      exact new_at _ _ (by rw [Deep.nblk_alloc])
    refine ⟨_, 1, rfl, by simp, by simp [maxLen], fun _ => ⟨w2.heap.size + 1, 0, rfl, fun e => ?_, fun j hj => ?_⟩⟩
    · rcases hA _ e with e | e <;> omega
    · have : j = 0 := by simp at hj; omega
      subst this
      exact box_cell hn 0
  · rw [List.mem_singleton.1 hu]; exact hes 0

set_option maxHeartbeats 16000000 in
theorem probes2_walk {X : Nat → Prop} {w : World} (hX : ∀ z, X z → z < w.heap.size) {cv : Value} {cs : List Int} (hc : Ints X w cv cs) (hcl : cs.length ≤ 196608) {gb : Nat} {p1 p2 : Value} (hp1 : Wrd X w p1 5) (hp2 : Wrd X w p2 5) (hg1 : w.cell? ⟨gb, 0, none⟩ = some p1) (hg2 : w.cell? ⟨gb, 1, none⟩ = some p2) :
    Calls Tryz.prog 36 #[cv, .slice (some ⟨gb, 0, none⟩) 2 2] w (PPost X w) := by
  obtain ⟨i0, hi0, hz0, hz1, hz2⟩ := info_parts info_int
  obtain ⟨i1, hj0, hy0, hy1, hy2⟩ := info_parts info_ints
  obtain ⟨ca, cc, rfl, c1, c2, c3⟩ := hc
  have C3 := hideIt c3
  have HP : Hid (∀ u ∈ [p1, p2], Wrd X w u 5) := fun u hu => by
    simp at hu
    rcases hu with rfl | rfl
    · exact hp1
    · exact hp2
  have Hz1 := hideIt (row_none w 24)
  have hgl : gb < w.heap.size := cell_lt hg1
  have Hn1 : Hid (∀ j u, [p1, p2][j]? = some u → (w.alloc (.cells #[] 24)).cell? ((⟨gb, 0, none⟩ : Addr).add j) = some u) := fun j u hu => by
    have hj : j = 0 ∨ j = 1 := by
      by_cases h : j < 2
      · omega
      · rw [List.getElem?_eq_none (by simp; omega)] at hu; cases hu
    have hadd : (⟨gb, 0, none⟩ : Addr).add j = ⟨gb, j, none⟩ := by unfold Addr.add; split <;> simp_all
    rw [hadd, (alloc_below _).cell (p := ⟨gb, j, none⟩) hgl]
    rcases hj with rfl | rfl
    · rw [hg1]; simpa using hu
    · rw [hg2]; simpa using hu
  have Ho1 : Hid (∀ u ∈ [p1, p2], u.oneCell' = true) := fun u hu => wrd_one (HP.out u hu)
  clear c3 hp1 hp2 hg1 hg2
  by_cases h3 : cs.length ≤ 3
  · have f3 : (cs.length : Int) ≤ 3 := by omega
    go_enter Tryz.func36, Tryz.ntmps36
    go_wp2_with (first
      | (at_builtin; refine wpList_append_own_at _ rfl (.tmp 22) (.tmp 23) 74 rfl w.heap.size 24 i1 (.slice none 0 0) 1 24 Tryz.underlying74 hj0 hy0 hy1 hy2 rfl (by decide) _ _ _ rfl Hz1.out ⟨gb, 0, none⟩ 2 2 [p1, p2] rfl rfl Hn1.out Ho1.out (by simp [maxLen]) (by omega) (alloc_below _).size ?_; intro v2 w2 hown2 hgrow2 _ hloc2; have HS2 := hideIt (PSb.mk0 hown2 hgrow2 HP.out); have hs2 := HS2.out.size; have S2 := hideIt hs2; have Hnx := hideIt (es_news w2); have Hro := hideIt HS2.out.row; clear hown2 hgrow2 hloc2)
      | (at_builtin; refine wpList_append_own_at _ rfl (.tmp 27) (.tmp 28) 74 rfl w.heap.size 24 i1 (.slice none 0 0) 1 24 Tryz.underlying74 hj0 hy0 hy1 hy2 rfl (by decide) _ _ _ rfl (HS2.out.row.alloc _ |>.alloc _) ⟨w2.heap.size + 1, 0, none⟩ 1 1 [.slice (some ⟨w2.heap.size, 0, none⟩) 0 0] rfl rfl Hnx.out (one_slice _ _ _) (by simp [maxLen]) (by omega) (Nat.le_trans S2.out (Nat.le_trans (alloc_below _).size (alloc_below _).size)) ?_; intro v4 w4 hown4 hgrow4 _ hloc4; have HPS := hideIt (HS2.out.start hX hown4 hgrow4 hloc4); clear hown4 hgrow4 hloc4))
    go_loopw [6, 7, 8] (fun vW vL i wr => ∃ (k : Nat) (uW uL : List Value), k ≤ 3 ∧ i = .int .i64 (k + 1) ∧ PS X w vW uW vL uL (.slice none 0 0) [] k wr ∧ (k < 3 → uL.length ≤ 3 ^ k) ∧ uW.length ≤ 3 + k * 2000000) (fun _ _ i _ => 3 + 1 - (intOf i).toNat)
    case atStart => exact ⟨0, _, _, by omega, rfl, HPS.out, fun _ => by simp, by simp⟩
    case round =>
      obtain ⟨k, uW, uL, hk, rfl, hP, hL, hWl⟩ := hrel
      by_cases hlt : k < 3
      · have hlt' : (k : Int) + 1 ≤ 3 := by omega
        have hLl : uL.length ≤ 9 := by
          have h := hL hlt
          have hk2 : k = 0 ∨ k = 1 ∨ k = 2 := by omega
          rcases hk2 with rfl | rfl | rfl <;> simp at h hlt <;> omega
        have hLq := hL hlt
        obtain ⟨la, lc, elv, ll1, ll2, ll3⟩ := hP.lay
        subst elv
        have L3 := hideIt ll3
        have HP0 := hideIt hP
        have HLq := hideIt hLq
        clear hP hL ll3 hLq
        have HWb : Hid (uW.length ≤ 3 + (k + 1) * 2000000) := Nat.le_trans hWl (Nat.add_le_add_left (Nat.mul_le_mul_right _ (Nat.le_succ k)) _)
        go_wp2_with fail
        go_loopw [9, 37] (fun vN i wr => ∃ (a : Nat) (uN : List Value), a ≤ uL.length ∧ i = .int .i64 a ∧ PS X w u6 uW (.slice la uL.length lc) uL vN uN k wr ∧ uN.length ≤ a * cs.length) (fun _ i _ => uL.length - (intOf i).toNat)
        case atStart => exact ⟨0, [], by omega, rfl, HP0.out, by simp⟩
        case round =>
          obtain ⟨a, uN, ha, rfl, hQ, hNl⟩ := hrel
          by_cases hlt2 : a < uL.length
          · have hlt2' : (a : Int) < (uL.length : Int) := by omega
            obtain ⟨lad, lcap, le, _, _, l3⟩ := hQ.lay
            cases le
            obtain ⟨lg0, lo0, rfl, _, hlc⟩ := l3 (fun e => by rw [e] at hlt2; cases hlt2)
            have hla := hlc a hlt2
            have huL : uL[a] ∈ uL := List.getElem_mem hlt2
            have Hu := hideIt huL
            generalize uL[a] = u at *
            have HQ := hideIt hQ
            have hua := hQ.elL u huL
            obtain ⟨wg, wo, wcap, wd, rfl, hwl, _⟩ := hua
            clear l3 hlc hQ huL
            go_wp2_with fail
            go_loopw [9, 43] (fun vN i wr => ∃ (b : Nat) (uN : List Value), b ≤ cs.length ∧ i = .int .i64 b ∧ PS X w u6 uW (.slice (some ⟨lg0, lo0, none⟩) uL.length lc) uL vN uN k wr ∧ uN.length ≤ a * cs.length + b) (fun _ i _ => cs.length - (intOf i).toNat)
            case atStart => exact ⟨0, uN, by omega, rfl, HQ.out, by omega⟩
            case round =>
              obtain ⟨b, uN2, hb, rfl, hR, hNl2⟩ := hrel
              by_cases hlt3 : b < cs.length
              · have hlt3' : (b : Int) < (cs.length : Int) := by omega
                obtain ⟨cg, co, rfl, _, hcc⟩ := C3.out (fun e => by rw [e] at hlt3; cases hlt3)
                have cgl : cg < w.heap.size := cell_lt (hcc b hlt3)
                have ccell := (hR.below.cell (p := ⟨cg, co + b, none⟩) cgl).trans (hcc b hlt3)
                generalize cs[b] = c at *
                have hW := hR.elL _ Hu.out
                have hac : a * cs.length ≤ 9 * 196608 := Nat.mul_le_mul (by omega) hcl
                have hN9 : uN2.length ≤ 2000000 := by omega
                obtain ⟨wg', wo', wcap', wd', we, hwl', hwi⟩ := hW
                simp only [Value.slice.injEq, Option.some.injEq, Addr.mk.injEq] at we
                obtain ⟨⟨rfl, rfl, _⟩, hwdl, rfl⟩ := we
                have HL := hideIt hwdl
                have hwl2 : wd'.length ≤ k := hwl'
                clear hwdl
                have HR := hideIt hR
                have hsz := hR.below.size
                have Hwi := hideIt hwi
                have HA1 := hideIt (row_zero wr)
                clear hR hwi hcc
                go_wp2_with (first
                  | (at_builtin; refine wpList_append_own_at _ rfl (.tmp 48) (.tmp 49) 24 rfl wr.heap.size 3 i0 (.int .i64 0) 1 8 Tryz.underlying24 hi0 hz0 hz1 hz2 rfl (by decide) _ _ _ rfl HA1.out ⟨wg, wo, none⟩ wd.length wcap (wd'.map encI) rfl (by have := HL.out; simp; omega) (ws_news Hwi.out (alloc_below _)) (one_ints _) (by unfold maxLen; omega) (by omega) (alloc_below _).size ?_; intro v5 w5 hown5 hgrow5 _ hloc5; have HB5 := hideIt ((alloc_below _).grown hgrow5 (alloc_below _).size (fun q e => by cases e; exact Nat.le_refl _)); have HO5 := hideIt (row_fix hown5 HL.out); clear hown5 hgrow5 hloc5)
                  | (at_builtin; refine wpList_append_own_at _ rfl (.tmp 50) (.tmp 52) 24 rfl wr.heap.size 3 i0 (.int .i64 0) 1 8 Tryz.underlying24 hi0 hz0 hz1 hz2 rfl (by decide) _ _ _ rfl (HO5.out.alloc _) ⟨w5.heap.size, 0, none⟩ 1 1 ([c].map encI) rfl rfl (World.news_of_block (cs := #[.int .i64 c]) (t := 3) (fr := (0, 0)) (heap_new _ _)) (one_ints _) (by unfold maxLen; omega) (by omega) (Nat.le_trans HB5.out.size (alloc_below _).size) ?_; intro v6 w6 hown6 hgrow6 _ hloc6; have HB6 := hideIt ((HB5.out.alloc HB5.out.size _).grown hgrow6 (Nat.le_trans HB5.out.size (alloc_below _).size) (fun q e => (ownsRow_block HO5.out e).1)); have HW6 := hideIt (ws_own (L := k + 1) hown6 (by omega)); have HP6 := hideIt (HR.out.below' HB6.out); have HF6 := hideIt (own_form hown6); clear hown6 hgrow6 hloc6; obtain ⟨vg, vc, rfl⟩ := HF6.out)
                  | (at_builtin; refine wpList_append_own_at _ rfl (.tmp 47) (.tmp 54) 74 rfl w.heap.size 24 i1 (.slice none 0 0) 1 24 Tryz.underlying74 hj0 hy0 hy1 hy2 rfl (by decide) _ _ _ rfl (HP6.out.rowN.alloc _) ⟨w6.heap.size, 0, none⟩ 1 1 [.slice (some ⟨vg, 0, none⟩) (wd'.length + 1) vc] rfl rfl (World.news_of_block (cs := #[.slice (some ⟨vg, 0, none⟩) (wd'.length + 1) vc]) (t := 24) (fr := (0, 0)) (heap_new _ _)) (one_slice _ _ _) (by unfold maxLen; omega) (by omega) (Nat.le_trans HP6.out.below.size (alloc_below _).size) ?_; intro v7 w7 hown7 hgrow7 _ hloc7; have HP7 := hideIt ((HP6.out.below' (alloc_below _)).push (HW6.out.clear (alloc_below _) (fun q hq => av_lt hX hsz HR.out hq)) hown7 hgrow7 hloc7); clear hown7 hgrow7 hloc7))
                go_roundw
                case rel => exact ⟨b + 1, _, by omega, by go_num, HP7.out, by simp; omega⟩
                case measure => simp [intOf]; omega
              · obtain rfl : b = cs.length := by omega
                have HR := hideIt hR
                clear hR
                go_wp2_with fail
                go_roundw
                case rel => exact ⟨a + 1, uN2, by omega, by go_num, HR.out, by rw [Nat.succ_mul]; exact hNl2⟩
                case measure => simp [intOf]; omega
          · obtain rfl : a = uL.length := by omega
            have hN9 : uN.length ≤ 2000000 := by
              have : uL.length * cs.length ≤ 9 * 196608 := Nat.mul_le_mul hLl hcl
              omega
            have HNq : Hid (k + 1 < 3 → uN.length ≤ 3 ^ (k + 1)) := fun hk1 => by
              have h1 : uL.length * cs.length ≤ 3 ^ k * 3 := Nat.mul_le_mul HLq.out (by omega)
              rw [Nat.pow_succ]; omega
            obtain ⟨na, nc, env⟩ := own_slice hQ.rowN
            subst env
            have HQ := hideIt hQ
            have Hnn := hideIt (own_news hQ.rowN)
            clear hQ
            rcases Hnn.out with ⟨rfl, rfl, rfl⟩ | ⟨nd, rfl, hnn⟩
            · go_wp2_with (at_builtin; refine wpList_append_own_none rfl (.tmp 58) (.tmp 59) 74 rfl w.heap.size 24 i1 1 Tryz.underlying74 hj0 _ _ _ rfl HQ.out.rowW rfl ?_)
              go_roundw
              case rel => exact ⟨k + 1, uW, [], by omega, by go_num, HQ.out.next0, HNq.out, HWb.out⟩
              case measure => simp [intOf]; omega
            · go_wp2_with (at_builtin; refine wpList_append_own_at _ rfl (.tmp 58) (.tmp 59) 74 rfl w.heap.size 24 i1 (.slice none 0 0) 1 24 Tryz.underlying74 hj0 hy0 hy1 hy2 rfl (by decide) _ _ _ rfl HQ.out.rowW nd uN.length nc uN rfl (by simp) hnn (own_ones HQ.out) (by unfold maxLen; omega) (by omega) HQ.out.below.size ?_; intro v8 w8 hown8 hgrow8 _ hloc8)
              go_roundw
              case rel => exact ⟨k + 1, _, _, by omega, by go_num, HQ.out.next (by omega) hown8 hgrow8 hloc8 hX, HNq.out, by simp; omega⟩
              case measure => simp [intOf]; omega
      · obtain rfl : k = 3 := by omega
        have HP0 := hideIt hP
        clear hP
        go_wp2_with fail
        go_ret
        exact HP0.out.done hX (by omega)
  · by_cases h6 : cs.length ≤ 6
    · have f3 : ¬ (cs.length : Int) ≤ 3 := by omega
      have f6 : (cs.length : Int) ≤ 6 := by omega
      go_enter Tryz.func36, Tryz.ntmps36
      go_wp2_with (first
        | (at_builtin; refine wpList_append_own_at _ rfl (.tmp 22) (.tmp 23) 74 rfl w.heap.size 24 i1 (.slice none 0 0) 1 24 Tryz.underlying74 hj0 hy0 hy1 hy2 rfl (by decide) _ _ _ rfl Hz1.out ⟨gb, 0, none⟩ 2 2 [p1, p2] rfl rfl Hn1.out Ho1.out (by simp [maxLen]) (by omega) (alloc_below _).size ?_; intro v2 w2 hown2 hgrow2 _ hloc2; have HS2 := hideIt (PSb.mk0 hown2 hgrow2 HP.out); have hs2 := HS2.out.size; have S2 := hideIt hs2; have Hnx := hideIt (es_news w2); have Hro := hideIt HS2.out.row; clear hown2 hgrow2 hloc2)
        | (at_builtin; refine wpList_append_own_at _ rfl (.tmp 27) (.tmp 28) 74 rfl w.heap.size 24 i1 (.slice none 0 0) 1 24 Tryz.underlying74 hj0 hy0 hy1 hy2 rfl (by decide) _ _ _ rfl (HS2.out.row.alloc _ |>.alloc _) ⟨w2.heap.size + 1, 0, none⟩ 1 1 [.slice (some ⟨w2.heap.size, 0, none⟩) 0 0] rfl rfl Hnx.out (one_slice _ _ _) (by simp [maxLen]) (by omega) (Nat.le_trans S2.out (Nat.le_trans (alloc_below _).size (alloc_below _).size)) ?_; intro v4 w4 hown4 hgrow4 _ hloc4; have HPS := hideIt (HS2.out.start hX hown4 hgrow4 hloc4); clear hown4 hgrow4 hloc4))
      go_loopw [6, 7, 8] (fun vW vL i wr => ∃ (k : Nat) (uW uL : List Value), k ≤ 2 ∧ i = .int .i64 (k + 1) ∧ PS X w vW uW vL uL (.slice none 0 0) [] k wr ∧ (k < 2 → uL.length ≤ 6 ^ k) ∧ uW.length ≤ 3 + k * 2000000) (fun _ _ i _ => 2 + 1 - (intOf i).toNat)
      case atStart => exact ⟨0, _, _, by omega, rfl, HPS.out, fun _ => by simp, by simp⟩
      case round =>
        obtain ⟨k, uW, uL, hk, rfl, hP, hL, hWl⟩ := hrel
        by_cases hlt : k < 2
        · have hlt' : (k : Int) + 1 ≤ 2 := by omega
          have hLl : uL.length ≤ 9 := by
            have h := hL hlt
            have hk2 : k = 0 ∨ k = 1 ∨ k = 2 := by omega
            rcases hk2 with rfl | rfl | rfl <;> simp at h hlt <;> omega
          have hLq := hL hlt
          obtain ⟨la, lc, elv, ll1, ll2, ll3⟩ := hP.lay
          subst elv
          have L3 := hideIt ll3
          have HP0 := hideIt hP
          have HLq := hideIt hLq
          clear hP hL ll3 hLq
          have HWb : Hid (uW.length ≤ 3 + (k + 1) * 2000000) := Nat.le_trans hWl (Nat.add_le_add_left (Nat.mul_le_mul_right _ (Nat.le_succ k)) _)
          go_wp2_with fail
          go_loopw [9, 37] (fun vN i wr => ∃ (a : Nat) (uN : List Value), a ≤ uL.length ∧ i = .int .i64 a ∧ PS X w u6 uW (.slice la uL.length lc) uL vN uN k wr ∧ uN.length ≤ a * cs.length) (fun _ i _ => uL.length - (intOf i).toNat)
          case atStart => exact ⟨0, [], by omega, rfl, HP0.out, by simp⟩
          case round =>
            obtain ⟨a, uN, ha, rfl, hQ, hNl⟩ := hrel
            by_cases hlt2 : a < uL.length
            · have hlt2' : (a : Int) < (uL.length : Int) := by omega
              obtain ⟨lad, lcap, le, _, _, l3⟩ := hQ.lay
              cases le
              obtain ⟨lg0, lo0, rfl, _, hlc⟩ := l3 (fun e => by rw [e] at hlt2; cases hlt2)
              have hla := hlc a hlt2
              have huL : uL[a] ∈ uL := List.getElem_mem hlt2
              have Hu := hideIt huL
              generalize uL[a] = u at *
              have HQ := hideIt hQ
              have hua := hQ.elL u huL
              obtain ⟨wg, wo, wcap, wd, rfl, hwl, _⟩ := hua
              clear l3 hlc hQ huL
              go_wp2_with fail
              go_loopw [9, 43] (fun vN i wr => ∃ (b : Nat) (uN : List Value), b ≤ cs.length ∧ i = .int .i64 b ∧ PS X w u6 uW (.slice (some ⟨lg0, lo0, none⟩) uL.length lc) uL vN uN k wr ∧ uN.length ≤ a * cs.length + b) (fun _ i _ => cs.length - (intOf i).toNat)
              case atStart => exact ⟨0, uN, by omega, rfl, HQ.out, by omega⟩
              case round =>
                obtain ⟨b, uN2, hb, rfl, hR, hNl2⟩ := hrel
                by_cases hlt3 : b < cs.length
                · have hlt3' : (b : Int) < (cs.length : Int) := by omega
                  obtain ⟨cg, co, rfl, _, hcc⟩ := C3.out (fun e => by rw [e] at hlt3; cases hlt3)
                  have cgl : cg < w.heap.size := cell_lt (hcc b hlt3)
                  have ccell := (hR.below.cell (p := ⟨cg, co + b, none⟩) cgl).trans (hcc b hlt3)
                  generalize cs[b] = c at *
                  have hW := hR.elL _ Hu.out
                  have hac : a * cs.length ≤ 9 * 196608 := Nat.mul_le_mul (by omega) hcl
                  have hN9 : uN2.length ≤ 2000000 := by omega
                  obtain ⟨wg', wo', wcap', wd', we, hwl', hwi⟩ := hW
                  simp only [Value.slice.injEq, Option.some.injEq, Addr.mk.injEq] at we
                  obtain ⟨⟨rfl, rfl, _⟩, hwdl, rfl⟩ := we
                  have HL := hideIt hwdl
                  have hwl2 : wd'.length ≤ k := hwl'
                  clear hwdl
                  have HR := hideIt hR
                  have hsz := hR.below.size
                  have Hwi := hideIt hwi
                  have HA1 := hideIt (row_zero wr)
                  clear hR hwi hcc
                  go_wp2_with (first
                    | (at_builtin; refine wpList_append_own_at _ rfl (.tmp 48) (.tmp 49) 24 rfl wr.heap.size 3 i0 (.int .i64 0) 1 8 Tryz.underlying24 hi0 hz0 hz1 hz2 rfl (by decide) _ _ _ rfl HA1.out ⟨wg, wo, none⟩ wd.length wcap (wd'.map encI) rfl (by have := HL.out; simp; omega) (ws_news Hwi.out (alloc_below _)) (one_ints _) (by unfold maxLen; omega) (by omega) (alloc_below _).size ?_; intro v5 w5 hown5 hgrow5 _ hloc5; have HB5 := hideIt ((alloc_below _).grown hgrow5 (alloc_below _).size (fun q e => by cases e; exact Nat.le_refl _)); have HO5 := hideIt (row_fix hown5 HL.out); clear hown5 hgrow5 hloc5)
                    | (at_builtin; refine wpList_append_own_at _ rfl (.tmp 50) (.tmp 52) 24 rfl wr.heap.size 3 i0 (.int .i64 0) 1 8 Tryz.underlying24 hi0 hz0 hz1 hz2 rfl (by decide) _ _ _ rfl (HO5.out.alloc _) ⟨w5.heap.size, 0, none⟩ 1 1 ([c].map encI) rfl rfl (World.news_of_block (cs := #[.int .i64 c]) (t := 3) (fr := (0, 0)) (heap_new _ _)) (one_ints _) (by unfold maxLen; omega) (by omega) (Nat.le_trans HB5.out.size (alloc_below _).size) ?_; intro v6 w6 hown6 hgrow6 _ hloc6; have HB6 := hideIt ((HB5.out.alloc HB5.out.size _).grown hgrow6 (Nat.le_trans HB5.out.size (alloc_below _).size) (fun q e => (ownsRow_block HO5.out e).1)); have HW6 := hideIt (ws_own (L := k + 1) hown6 (by omega)); have HP6 := hideIt (HR.out.below' HB6.out); have HF6 := hideIt (own_form hown6); clear hown6 hgrow6 hloc6; obtain ⟨vg, vc, rfl⟩ := HF6.out)
                    | (at_builtin; refine wpList_append_own_at _ rfl (.tmp 47) (.tmp 54) 74 rfl w.heap.size 24 i1 (.slice none 0 0) 1 24 Tryz.underlying74 hj0 hy0 hy1 hy2 rfl (by decide) _ _ _ rfl (HP6.out.rowN.alloc _) ⟨w6.heap.size, 0, none⟩ 1 1 [.slice (some ⟨vg, 0, none⟩) (wd'.length + 1) vc] rfl rfl (World.news_of_block (cs := #[.slice (some ⟨vg, 0, none⟩) (wd'.length + 1) vc]) (t := 24) (fr := (0, 0)) (heap_new _ _)) (one_slice _ _ _) (by unfold maxLen; omega) (by omega) (Nat.le_trans HP6.out.below.size (alloc_below _).size) ?_; intro v7 w7 hown7 hgrow7 _ hloc7; have HP7 := hideIt ((HP6.out.below' (alloc_below _)).push (HW6.out.clear (alloc_below _) (fun q hq => av_lt hX hsz HR.out hq)) hown7 hgrow7 hloc7); clear hown7 hgrow7 hloc7))
                  go_roundw
                  case rel => exact ⟨b + 1, _, by omega, by go_num, HP7.out, by simp; omega⟩
                  case measure => simp [intOf]; omega
                · obtain rfl : b = cs.length := by omega
                  have HR := hideIt hR
                  clear hR
                  go_wp2_with fail
                  go_roundw
                  case rel => exact ⟨a + 1, uN2, by omega, by go_num, HR.out, by rw [Nat.succ_mul]; exact hNl2⟩
                  case measure => simp [intOf]; omega
            · obtain rfl : a = uL.length := by omega
              have hN9 : uN.length ≤ 2000000 := by
                have : uL.length * cs.length ≤ 9 * 196608 := Nat.mul_le_mul hLl hcl
                omega
              have HNq : Hid (k + 1 < 2 → uN.length ≤ 6 ^ (k + 1)) := fun hk1 => by
                have h1 : uL.length * cs.length ≤ 6 ^ k * 6 := Nat.mul_le_mul HLq.out (by omega)
                rw [Nat.pow_succ]; omega
              obtain ⟨na, nc, env⟩ := own_slice hQ.rowN
              subst env
              have HQ := hideIt hQ
              have Hnn := hideIt (own_news hQ.rowN)
              clear hQ
              rcases Hnn.out with ⟨rfl, rfl, rfl⟩ | ⟨nd, rfl, hnn⟩
              · go_wp2_with (at_builtin; refine wpList_append_own_none rfl (.tmp 58) (.tmp 59) 74 rfl w.heap.size 24 i1 1 Tryz.underlying74 hj0 _ _ _ rfl HQ.out.rowW rfl ?_)
                go_roundw
                case rel => exact ⟨k + 1, uW, [], by omega, by go_num, HQ.out.next0, HNq.out, HWb.out⟩
                case measure => simp [intOf]; omega
              · go_wp2_with (at_builtin; refine wpList_append_own_at _ rfl (.tmp 58) (.tmp 59) 74 rfl w.heap.size 24 i1 (.slice none 0 0) 1 24 Tryz.underlying74 hj0 hy0 hy1 hy2 rfl (by decide) _ _ _ rfl HQ.out.rowW nd uN.length nc uN rfl (by simp) hnn (own_ones HQ.out) (by unfold maxLen; omega) (by omega) HQ.out.below.size ?_; intro v8 w8 hown8 hgrow8 _ hloc8)
                go_roundw
                case rel => exact ⟨k + 1, _, _, by omega, by go_num, HQ.out.next (by omega) hown8 hgrow8 hloc8 hX, HNq.out, by simp; omega⟩
                case measure => simp [intOf]; omega
        · obtain rfl : k = 2 := by omega
          have HP0 := hideIt hP
          clear hP
          go_wp2_with fail
          go_ret
          exact HP0.out.done hX (by omega)
    · have f3 : ¬ (cs.length : Int) ≤ 3 := by omega
      have f6 : ¬ (cs.length : Int) ≤ 6 := by omega
      go_enter Tryz.func36, Tryz.ntmps36
      go_wp2_with (first
        | (at_builtin; refine wpList_append_own_at _ rfl (.tmp 22) (.tmp 23) 74 rfl w.heap.size 24 i1 (.slice none 0 0) 1 24 Tryz.underlying74 hj0 hy0 hy1 hy2 rfl (by decide) _ _ _ rfl Hz1.out ⟨gb, 0, none⟩ 2 2 [p1, p2] rfl rfl Hn1.out Ho1.out (by simp [maxLen]) (by omega) (alloc_below _).size ?_; intro v2 w2 hown2 hgrow2 _ hloc2; have HS2 := hideIt (PSb.mk0 hown2 hgrow2 HP.out); have hs2 := HS2.out.size; have S2 := hideIt hs2; have Hnx := hideIt (es_news w2); have Hro := hideIt HS2.out.row; clear hown2 hgrow2 hloc2)
        | (at_builtin; refine wpList_append_own_at _ rfl (.tmp 27) (.tmp 28) 74 rfl w.heap.size 24 i1 (.slice none 0 0) 1 24 Tryz.underlying74 hj0 hy0 hy1 hy2 rfl (by decide) _ _ _ rfl (HS2.out.row.alloc _ |>.alloc _) ⟨w2.heap.size + 1, 0, none⟩ 1 1 [.slice (some ⟨w2.heap.size, 0, none⟩) 0 0] rfl rfl Hnx.out (one_slice _ _ _) (by simp [maxLen]) (by omega) (Nat.le_trans S2.out (Nat.le_trans (alloc_below _).size (alloc_below _).size)) ?_; intro v4 w4 hown4 hgrow4 _ hloc4; have HPS := hideIt (HS2.out.start hX hown4 hgrow4 hloc4); clear hown4 hgrow4 hloc4))
      go_loopw [6, 7, 8] (fun vW vL i wr => ∃ (k : Nat) (uW uL : List Value), k ≤ 1 ∧ i = .int .i64 (k + 1) ∧ PS X w vW uW vL uL (.slice none 0 0) [] k wr ∧ (k < 1 → uL.length ≤ 1 ^ k) ∧ uW.length ≤ 3 + k * 2000000) (fun _ _ i _ => 1 + 1 - (intOf i).toNat)
      case atStart => exact ⟨0, _, _, by omega, rfl, HPS.out, fun _ => by simp, by simp⟩
      case round =>
        obtain ⟨k, uW, uL, hk, rfl, hP, hL, hWl⟩ := hrel
        by_cases hlt : k < 1
        · have hlt' : (k : Int) + 1 ≤ 1 := by omega
          have hLl : uL.length ≤ 9 := by
            have h := hL hlt
            have hk2 : k = 0 ∨ k = 1 ∨ k = 2 := by omega
            rcases hk2 with rfl | rfl | rfl <;> simp at h hlt <;> omega
          have hLq := hL hlt
          obtain ⟨la, lc, elv, ll1, ll2, ll3⟩ := hP.lay
          subst elv
          have L3 := hideIt ll3
          have HP0 := hideIt hP
          have HLq := hideIt hLq
          clear hP hL ll3 hLq
          have HWb : Hid (uW.length ≤ 3 + (k + 1) * 2000000) := Nat.le_trans hWl (Nat.add_le_add_left (Nat.mul_le_mul_right _ (Nat.le_succ k)) _)
          go_wp2_with fail
          go_loopw [9, 37] (fun vN i wr => ∃ (a : Nat) (uN : List Value), a ≤ uL.length ∧ i = .int .i64 a ∧ PS X w u6 uW (.slice la uL.length lc) uL vN uN k wr ∧ uN.length ≤ a * cs.length) (fun _ i _ => uL.length - (intOf i).toNat)
          case atStart => exact ⟨0, [], by omega, rfl, HP0.out, by simp⟩
          case round =>
            obtain ⟨a, uN, ha, rfl, hQ, hNl⟩ := hrel
            by_cases hlt2 : a < uL.length
            · have hlt2' : (a : Int) < (uL.length : Int) := by omega
              obtain ⟨lad, lcap, le, _, _, l3⟩ := hQ.lay
              cases le
              obtain ⟨lg0, lo0, rfl, _, hlc⟩ := l3 (fun e => by rw [e] at hlt2; cases hlt2)
              have hla := hlc a hlt2
              have huL : uL[a] ∈ uL := List.getElem_mem hlt2
              have Hu := hideIt huL
              generalize uL[a] = u at *
              have HQ := hideIt hQ
              have hua := hQ.elL u huL
              obtain ⟨wg, wo, wcap, wd, rfl, hwl, _⟩ := hua
              clear l3 hlc hQ huL
              go_wp2_with fail
              go_loopw [9, 43] (fun vN i wr => ∃ (b : Nat) (uN : List Value), b ≤ cs.length ∧ i = .int .i64 b ∧ PS X w u6 uW (.slice (some ⟨lg0, lo0, none⟩) uL.length lc) uL vN uN k wr ∧ uN.length ≤ a * cs.length + b) (fun _ i _ => cs.length - (intOf i).toNat)
              case atStart => exact ⟨0, uN, by omega, rfl, HQ.out, by omega⟩
              case round =>
                obtain ⟨b, uN2, hb, rfl, hR, hNl2⟩ := hrel
                by_cases hlt3 : b < cs.length
                · have hlt3' : (b : Int) < (cs.length : Int) := by omega
                  obtain ⟨cg, co, rfl, _, hcc⟩ := C3.out (fun e => by rw [e] at hlt3; cases hlt3)
                  have cgl : cg < w.heap.size := cell_lt (hcc b hlt3)
                  have ccell := (hR.below.cell (p := ⟨cg, co + b, none⟩) cgl).trans (hcc b hlt3)
                  generalize cs[b] = c at *
                  have hW := hR.elL _ Hu.out
                  have hac : a * cs.length ≤ 9 * 196608 := Nat.mul_le_mul (by omega) hcl
                  have hN9 : uN2.length ≤ 2000000 := by omega
                  obtain ⟨wg', wo', wcap', wd', we, hwl', hwi⟩ := hW
                  simp only [Value.slice.injEq, Option.some.injEq, Addr.mk.injEq] at we
                  obtain ⟨⟨rfl, rfl, _⟩, hwdl, rfl⟩ := we
                  have HL := hideIt hwdl
                  have hwl2 : wd'.length ≤ k := hwl'
                  clear hwdl
                  have HR := hideIt hR
                  have hsz := hR.below.size
                  have Hwi := hideIt hwi
                  have HA1 := hideIt (row_zero wr)
                  clear hR hwi hcc
                  go_wp2_with (first
                    | (at_builtin; refine wpList_append_own_at _ rfl (.tmp 48) (.tmp 49) 24 rfl wr.heap.size 3 i0 (.int .i64 0) 1 8 Tryz.underlying24 hi0 hz0 hz1 hz2 rfl (by decide) _ _ _ rfl HA1.out ⟨wg, wo, none⟩ wd.length wcap (wd'.map encI) rfl (by have := HL.out; simp; omega) (ws_news Hwi.out (alloc_below _)) (one_ints _) (by unfold maxLen; omega) (by omega) (alloc_below _).size ?_; intro v5 w5 hown5 hgrow5 _ hloc5; have HB5 := hideIt ((alloc_below _).grown hgrow5 (alloc_below _).size (fun q e => by cases e; exact Nat.le_refl _)); have HO5 := hideIt (row_fix hown5 HL.out); clear hown5 hgrow5 hloc5)
                    | (at_builtin; refine wpList_append_own_at _ rfl (.tmp 50) (.tmp 52) 24 rfl wr.heap.size 3 i0 (.int .i64 0) 1 8 Tryz.underlying24 hi0 hz0 hz1 hz2 rfl (by decide) _ _ _ rfl (HO5.out.alloc _) ⟨w5.heap.size, 0, none⟩ 1 1 ([c].map encI) rfl rfl (World.news_of_block (cs := #[.int .i64 c]) (t := 3) (fr := (0, 0)) (heap_new _ _)) (one_ints _) (by unfold maxLen; omega) (by omega) (Nat.le_trans HB5.out.size (alloc_below _).size) ?_; intro v6 w6 hown6 hgrow6 _ hloc6; have HB6 := hideIt ((HB5.out.alloc HB5.out.size _).grown hgrow6 (Nat.le_trans HB5.out.size (alloc_below _).size) (fun q e => (ownsRow_block HO5.out e).1)); have HW6 := hideIt (ws_own (L := k + 1) hown6 (by omega)); have HP6 := hideIt (HR.out.below' HB6.out); have HF6 := hideIt (own_form hown6); clear hown6 hgrow6 hloc6; obtain ⟨vg, vc, rfl⟩ := HF6.out)
                    | (at_builtin; refine wpList_append_own_at _ rfl (.tmp 47) (.tmp 54) 74 rfl w.heap.size 24 i1 (.slice none 0 0) 1 24 Tryz.underlying74 hj0 hy0 hy1 hy2 rfl (by decide) _ _ _ rfl (HP6.out.rowN.alloc _) ⟨w6.heap.size, 0, none⟩ 1 1 [.slice (some ⟨vg, 0, none⟩) (wd'.length + 1) vc] rfl rfl (World.news_of_block (cs := #[.slice (some ⟨vg, 0, none⟩) (wd'.length + 1) vc]) (t := 24) (fr := (0, 0)) (heap_new _ _)) (one_slice _ _ _) (by unfold maxLen; omega) (by omega) (Nat.le_trans HP6.out.below.size (alloc_below _).size) ?_; intro v7 w7 hown7 hgrow7 _ hloc7; have HP7 := hideIt ((HP6.out.below' (alloc_below _)).push (HW6.out.clear (alloc_below _) (fun q hq => av_lt hX hsz HR.out hq)) hown7 hgrow7 hloc7); clear hown7 hgrow7 hloc7))
                  go_roundw
                  case rel => exact ⟨b + 1, _, by omega, by go_num, HP7.out, by simp; omega⟩
                  case measure => simp [intOf]; omega
                · obtain rfl : b = cs.length := by omega
                  have HR := hideIt hR
                  clear hR
                  go_wp2_with fail
                  go_roundw
                  case rel => exact ⟨a + 1, uN2, by omega, by go_num, HR.out, by rw [Nat.succ_mul]; exact hNl2⟩
                  case measure => simp [intOf]; omega
            · obtain rfl : a = uL.length := by omega
              have hN9 : uN.length ≤ 2000000 := by
                have : uL.length * cs.length ≤ 9 * 196608 := Nat.mul_le_mul hLl hcl
                omega
              have HNq : Hid (k + 1 < 1 → uN.length ≤ 1 ^ (k + 1)) := fun hk1 => by
                have h1 : uL.length * cs.length ≤ 1 ^ k * 1 := Nat.mul_le_mul HLq.out (by omega)
                rw [Nat.pow_succ]; omega
              obtain ⟨na, nc, env⟩ := own_slice hQ.rowN
              subst env
              have HQ := hideIt hQ
              have Hnn := hideIt (own_news hQ.rowN)
              clear hQ
              rcases Hnn.out with ⟨rfl, rfl, rfl⟩ | ⟨nd, rfl, hnn⟩
              · go_wp2_with (at_builtin; refine wpList_append_own_none rfl (.tmp 58) (.tmp 59) 74 rfl w.heap.size 24 i1 1 Tryz.underlying74 hj0 _ _ _ rfl HQ.out.rowW rfl ?_)
                go_roundw
                case rel => exact ⟨k + 1, uW, [], by omega, by go_num, HQ.out.next0, HNq.out, HWb.out⟩
                case measure => simp [intOf]; omega
              · go_wp2_with (at_builtin; refine wpList_append_own_at _ rfl (.tmp 58) (.tmp 59) 74 rfl w.heap.size 24 i1 (.slice none 0 0) 1 24 Tryz.underlying74 hj0 hy0 hy1 hy2 rfl (by decide) _ _ _ rfl HQ.out.rowW nd uN.length nc uN rfl (by simp) hnn (own_ones HQ.out) (by unfold maxLen; omega) (by omega) HQ.out.below.size ?_; intro v8 w8 hown8 hgrow8 _ hloc8)
                go_roundw
                case rel => exact ⟨k + 1, _, _, by omega, by go_num, HQ.out.next (by omega) hown8 hgrow8 hloc8 hX, HNq.out, by simp; omega⟩
                case measure => simp [intOf]; omega
        · obtain rfl : k = 1 := by omega
          have HP0 := hideIt hP
          clear hP
          go_wp2_with fail
          go_ret
          exact HP0.out.done hX (by omega)
end Go.Proofs.Qxb6500848aGreatDoor
