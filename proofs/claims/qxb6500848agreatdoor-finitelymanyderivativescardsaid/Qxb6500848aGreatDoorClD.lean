/-
  closure, by derivatives.
-/
import Derived.Test.Qxb6500848aGreatDoorNxD
import Derived.Deep.LoopGhost
namespace Go.Proofs.Qxb6500848aGreatDoor
open Go.RowKit Pl Go.Maps
set_option maxRecDepth 100000

set_option maxHeartbeats 16000000 in
theorem closureD_walk {X : Nat → Prop} {w : World} {eb mb ab nb : Nat} {lim : Int} {A : List Nd} (hE : Es X w eb mb ab nb lim A) {r : Int} (hr : Valid A r) {cv : Value} {cs : List Int} (hc : Ints X w cv cs) (hca : ∀ c ∈ cs, 0 ≤ c ∧ c ≤ 196607) (hcl : cs.length ≤ 196608) {bx : Nat} (HN : ∀ (X' : Nat → Prop) (w' : World) (nb' : Nat) (A' : List Nd), GrX X w eb mb ab nb lim A X' w' nb' A' → ∀ x c, Valid A' x → 0 ≤ c ∧ c ≤ 196607 → Calls Tryz.prog 44 #[.int .i64 x, .int .i64 c, .pointer (some ⟨bx, 0, none⟩)] w' (NxPost Ds c x X' w' eb mb ab nb' lim A')) :
    Calls Tryz.prog 43 #[.int .i64 r, cv, .func (.func 44) #[] #[.pointer (some ⟨bx, 0, none⟩)]] w (ClPost Ds cs r X w eb mb ab nb lim A) := by
  have lm3 : mb + 3 < w.heap.size := by obtain ⟨_, _, m, _⟩ := hE.ax.pn; exact m.lt
  have HE := hideIt hE
  have Hr := hideIt hr
  have HNx := hideIt HN
  have Hca := hideIt hca
  obtain ⟨w2, hput, hb2, hcl0⟩ := Cl0.start (S := Ds) (cs := cs) hE lm3 hr (fun _ => False) (W := w) (Below.refl _ _)
  have HC0 := hideIt hcl0
  have Hc0 : Hid (Ints (fun b => X b ∨ b = w2.heap.size) (w2.alloc (.cells #[encI r] 28)) cv cs) := ((hc.below hb2 (Nat.le_refl _)).more (fun b hb e => e.elim id (fun e => by omega))).below (alloc_below _) (Nat.le_refl _)
  obtain ⟨ca, cc, rfl, _, _, _⟩ := hc
  clear hE hr HN hca hcl0 hb2
  have hmm := @run_makeMap Tryz.prog
  go_enter Tryz.func43, Tryz.ntmps43
  go_wp2_with fail
  go_loopg [6, 9] 65536 (fun k mv v wr => ∃ (X' : Nat → Prop) (nb' : Nat) (A' : List Nd) (K T : List Int), k + K.length = 65536 + T.length ∧ mv = .map (some w.heap.size) ∧ Cl0 Ds X w eb mb ab nb lim A cs r X' wr nb' A' w.heap.size K T v (fun _ => False) ∧ Ints X' wr (.slice ca cs.length cc) cs)
  case atStart => exact ⟨_, nb, A, [r], [r], rfl, rfl, HC0.out, Hc0.out⟩
  case round =>
    clear HC0 Hc0 hput
    obtain ⟨X', nb', A', K, T, hk, rfl, hC, hI⟩ := hrel
    have HC := hideIt hC
    have HI := hideIt hI
    have hfew := hC.few stpDs Hr.out
    have htl := hC.tl
    cases T with
    | nil =>
      obtain ⟨g, off, cap, rfl, _, _, _⟩ := hC.qu.shape
      clear hC hI
      go_wp2_with fail
      go_ret3
      exact ⟨X', nb', A', _, K, true, true, HC.out.gr, rfl, HC.out.kn, Or.inr ⟨rfl, HC.out.nd, HC.out.kr, HC.out.rc, (fun _ => HC.out.shut), (fun e => by cases e)⟩⟩
    | cons t T =>
      obtain ⟨g, off, cap, rfl, hcap, hcap2, hcell⟩ := hC.qu.shape
      have c0 := hcell 0 (by simp)
      simp only [Nat.add_zero, List.getElem_cons_zero] at c0
      have Htk : Hid (t ∈ K) := hC.tk t (List.mem_cons_self ..)
      clear hC hI hcell
      go_wp2_with fail
      all_goals
        go_loopw [6, 9, 32] (fun mv v i wz => ∃ (k : Nat) (X1 : Nat → Prop) (nb1 : Nat) (A1 : List Nd) (K1 T1 : List Int), k ≤ cs.length ∧ mv = .map (some w.heap.size) ∧ i = .int .i64 k ∧ Cl0 Ds X w eb mb ab nb lim A cs r X1 wz nb1 A1 w.heap.size K1 T1 v (fun x => x = t) ∧ Don Ds A1 (cs.take k) K1 t ∧ t ∈ K1 ∧ Ints X1 wz (.slice ca cs.length cc) cs ∧ K1.length + T.length = K.length + T1.length) (fun _ _ i _ => cs.length - (intOf i).toNat)
        case atStart => exact ⟨0, X', nb', A', K, T, by omega, rfl, rfl, (by first | exact HC.out.pop (Or.inl rfl) | (have hc1 : cap = 1 := (by omega); subst hc1; exact HC.out.pop (Or.inr ⟨rfl, rfl⟩))), by simpa using Don.none, Htk.out, HI.out, rfl⟩
        case round =>
          clear HC HI
          obtain ⟨j, X1, nb1, A1, K1, T1, hj, rfl, rfl, hC, hD, ht1, hI, hKT⟩ := hrel
          have HC := hideIt hC
          have HI := hideIt hI
          have HD := hideIt hD
          have Ht1 := hideIt ht1
          obtain ⟨g1, off1, cap1, rfl, hcap1, _, _⟩ := hC.qu.shape
          by_cases hlt : j < cs.length
          · have hlt' : (j : Int) < (cs.length : Int) := by omega
            obtain ⟨a4, c4, e4, _, _, h4⟩ := hI
            cases e4
            obtain ⟨g4, o4, rfl, _, hc4⟩ := h4 (fun e => by rw [e] at hlt; cases hlt)
            have cj := hc4 j hlt
            have Hcj := hideIt (Hca.out _ (List.getElem_mem hlt))
            have Hcm : Hid (cs[j] ∈ cs) := List.getElem_mem hlt
            have Hsn : Hid (∀ (B : List Nd) (M l : List Int), Don Ds B (cs.take j) M t → Ds B cs[j] t l → (∀ d ∈ l, d ∈ M) → Don Ds B (cs.take (j + 1)) M t) := fun B M l h1 h2 h3 => h1.snoc hlt rfl h2 h3
            have Hv := hideIt (hC.val stpDs Hr.out t ht1)
            generalize cs[j] = c at *
            clear h4 hc4 hC hD ht1
            go_wp2_with fail
            go_at_call 44
            refine (HNx.out X1 _ nb1 A1 HC.out.gr t c Hv.out Hcj.out).mono ?_
            rintro e w5 ⟨X5, nb5, A5, v5, ev5, hg5, rfl, hh5⟩
            have HC5 := hideIt (HC.out.grow stpDs Hr.out lm3 hg5)
            have HI5 := hideIt (hg5.seq HC.out.gr.es HI.out)
            have HD5 := hideIt (HD.out.le stpDs HC.out.gr.en.st.ar.wf hg5.en.st.ar.wf hg5.le Hv.out)
            have Hv5 := hideIt (hg5.le.valid Hv.out)
            rcases hh5 with ⟨rfl, l5, hI5, hn5, hp5⟩ | ⟨⟨t5, u5, rfl⟩, hf5⟩
            · have hl5 : l5.length ≤ 65536 := by
                obtain ⟨d, e, _⟩ := hp5
                rw [e]; simp
              have HL5 := hideIt hI5
              have Hp5 := hideIt hp5
              have Hrc5 : Hid (∀ d ∈ l5, Rc Ds A5 cs r d) := fun d hd => .step (HC5.out.rc t Ht1.out) Hcm.out hp5 hd
              obtain ⟨na, nc, rfl, _, _, _⟩ := hI5
              clear hn5 hp5 hg5 HC HI HD
              go_wp2_with fail
              go_loopw [9, 48] (fun v i wz => ∃ (q : Nat) (X2 : Nat → Prop) (K2 T2 : List Int), q ≤ l5.length ∧ i = .int .i64 q ∧ Cl0 Ds X w eb mb ab nb lim A cs r X2 wz nb5 A5 w.heap.size K2 T2 v (fun x => x = t) ∧ Don Ds A5 (cs.take j) K2 t ∧ t ∈ K2 ∧ Ints X2 wz (.slice (some ⟨g4, o4, none⟩) cs.length cc) cs ∧ Ints X2 wz (.slice na l5.length nc) l5 ∧ (∀ i (h : i < l5.length), i < q → l5[i] ∈ K2) ∧ K2.length + T.length = K.length + T2.length) (fun _ i _ => l5.length - (intOf i).toNat)
              case atStart => exact ⟨0, X5, K1, T1, by omega, rfl, HC5.out, HD5.out, Ht1.out, HI5.out, HL5.out, fun i _ h => by omega, hKT⟩
              case round =>
                clear HC5 HI5 HD5 Ht1 HL5
                obtain ⟨q, X2, K2, T2, hq, rfl, hC, hD, ht2, hI, hL, hin, hKT2⟩ := hrel
                have HC := hideIt hC
                have HI := hideIt hI
                have HL := hideIt hL
                have HD := hideIt hD
                have Ht2 := hideIt ht2
                have Hin := hideIt hin
                obtain ⟨g2, off2, cap2, rfl, hcap2, _, _⟩ := hC.qu.shape
                have hf2 := hC.few stpDs Hr.out
                have htl2 := hC.tl
                by_cases hqt : q < l5.length
                · have hqt' : (q : Int) < (l5.length : Int) := by omega
                  obtain ⟨a6, c6, e6, _, _, h6⟩ := hL
                  cases e6
                  obtain ⟨g6, o6, rfl, _, hc6⟩ := h6 (fun e => by rw [e] at hqt; cases hqt)
                  have cq := hc6 q hqt
                  have Hrq := hideIt (Hrc5.out _ (List.getElem_mem hqt))
                  have Hnx : Hid (∀ M : List Int, (∀ d ∈ K2, d ∈ M) → l5[q] ∈ M → ∀ i (h : i < l5.length), i < q + 1 → l5[i] ∈ M) := fun M h1 h2 i hi hiq => by
                    by_cases e : i = q
                    · subst e; exact h2
                    · exact h1 _ (hin i hi (by omega))
                  have hy := Hrq.out.valid stpDs hC.gr.en.st.ar.wf (hC.gr.le.valid Hr.out)
                  have hy0 := hy.1
                  have hy1 : l5[q] ≤ 65536 := by have h1 := hy.2; have h2 := hC.gr.en.st.ar.len; omega
                  generalize l5[q] = y at *
                  by_cases hyk : y ∈ K2
                  · have lk := hC.kn.look hy0 hy1
                    rw [decide_eq_true hyk] at lk
                    have Hin' := hideIt (Hnx.out K2 (fun _ h => h) hyk)
                    clear h6 hc6 hC hD ht2 hI hin hy hyk
                    go_wp2_with fail
                    go_roundw
                    case rel => exact ⟨q + 1, X2, K2, T2, by omega, by go_num, HC.out, HD.out, Ht2.out, HI.out, HL.out, Hin'.out, hKT2⟩
                    case measure => simp [intOf]; omega
                  · have lk := hC.kn.look hy0 hy1
                    rw [decide_eq_false hyk] at lk
                    obtain ⟨w3, hput, hk3, hx3⟩ := hC.kn.put hy0 hy1 hyk hf2
                    have Hk3 := hideIt hk3
                    have Hx3 := hideIt hx3
                    have HG3 := hideIt (hC.gr.turnOwn hx3 hC.kn.ismap hC.kn.base lm3)
                    have HQ3 := hideIt (hC.qu.turn (Turn.one hx3 hC.kn.ismap))
                    have Hyk := hideIt hyk
                    have Hin' := hideIt (Hnx.out (y :: K2) (fun _ h => List.mem_cons_of_mem _ h) (List.mem_cons_self ..))
                    clear h6 hc6 hC hD ht2 hI hin hy hyk hk3 hx3
                    go_wp2_with (at_builtin; refine wpList_append_qu rfl (.tmp 58) (.tmp 60) rfl HG3.out HQ3.out (alloc_below _) rfl ⟨w3.heap.size, 0, none⟩ y rfl (box_cell (heap_new _ _) 0) (by omega) ?_; intro v6 w6 hap; obtain ⟨X6, hC6, hs6, hq6⟩ := HC.out.pushed Hk3.out Hx3.out hap Hyk.out Hrq.out; have HC6 := hideIt hC6; have HI6 := hideIt (hq6 _ _ HI.out); have HL6 := hideIt (hq6 _ _ HL.out); obtain ⟨g7, off7, cap7, e7, _, _, _⟩ := hC6.qu.shape; subst e7; clear hC6 hs6 hq6 hap)
                    have HD6 := hideIt (HD.out.more (K' := y :: K2) (fun _ h => List.mem_cons_of_mem _ h))
                    go_roundw
                    case rel => exact ⟨q + 1, X6, y :: K2, T2 ++ [y], by omega, by go_num, (by have h := HC6.out; rw [List.length_append, List.length_singleton] at h; exact h), HD6.out, List.mem_cons_of_mem _ Ht2.out, HI6.out, HL6.out, Hin'.out, by simp; omega⟩
                    case measure => simp [intOf]; omega
                · obtain rfl : q = l5.length := by omega
                  have HD' := hideIt (Hsn.out A5 K2 l5 hD Hp5.out (fun d hd => by
                    obtain ⟨i, hi, rfl⟩ := List.getElem_of_mem hd
                    exact hin i hi hi))
                  clear hC hD ht2 hI hL hin
                  go_wp2_with fail
                  go_roundw
                  case rel => exact ⟨j + 1, X2, nb5, A5, K2, T2, by omega, rfl, by go_num, HC.out, HD'.out, Ht2.out, HI.out, hKT2⟩
                  case measure => simp [intOf]; omega
            · have HP : Hid (ClPost Ds cs r X w eb mb ab nb lim A (.returned (.tuple #[.map (some w.heap.size), .bool false, .bool false])) w5) := ⟨X5, nb5, A5, _, K1, false, false, HC5.out.gr, rfl, HC5.out.kn, Or.inl ⟨rfl, hf5⟩⟩
              clear hg5 hf5
              go_wp2_with fail
              go_ret3
              exact HP.out
          · obtain rfl : j = cs.length := by omega
            rw [List.take_length] at hD
            have HCr := hideIt (hC.round hD)
            have hlen : ∀ ty : TypeId, (Builtin.len_ #[82] ty #[.map (some w.heap.size)]).run Tryz.prog wr = .ok (.int .i64 K1.length) wr := hC.kn.len
            have hf1 := hC.few stpDs Hr.out
            clear hC hD ht1 hI
            by_cases hbig : 120 < K1.length
            · have hbig' : (120 : Int) < (K1.length : Int) := by omega
              have HP : Hid (ClPost Ds cs r X w eb mb ab nb lim A (.returned (.tuple #[.map (some w.heap.size), .bool false, .bool true])) wr) := ⟨X1, nb1, A1, _, K1, false, true, HCr.out.gr, rfl, HCr.out.kn, Or.inr ⟨rfl, HCr.out.nd, HCr.out.kr, HCr.out.rc, (fun e => by cases e), (fun _ => hbig)⟩⟩
              go_wp2_with fail
              go_ret3
              exact HP.out
            · have hbig' : ¬ (120 : Int) < (K1.length : Int) := by omega
              go_wp2_with fail
              go_roundg (gk - 1)
              case measure => simp only [List.length_cons] at hk htl; omega
              case rel => exact ⟨X1, nb1, A1, K1, T1, by simp only [List.length_cons] at hk htl; omega, rfl, HCr.out, HI.out⟩
end Go.Proofs.Qxb6500848aGreatDoor
