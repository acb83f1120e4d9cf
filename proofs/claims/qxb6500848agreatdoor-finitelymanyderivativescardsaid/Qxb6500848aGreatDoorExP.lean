/-
  explore at the Antimirov step; PartialStates.
-/
import Derived.Test.Qxb6500848aGreatDoorClP
import Derived.Test.Qxb6500848aGreatDoorCutW
import Derived.Test.Qxb6500848aGreatDoorEdgeW
namespace Go.Proofs.Qxb6500848aGreatDoor
open Go.RowKit Pl Go.Maps
set_option maxRecDepth 100000

def ExPost (S : List Nd → Int → Int → List Int → Prop) (cs : List Int) (r limit : Int) (X : Nat → Prop) (w : World) (eb mb ab nb : Nat) (lim : Int) (A : List Nd) (e : Ending) (w' : World) : Prop :=
  ∃ X' nb' A' v wh ev, GrX X w eb mb ab nb lim A X' w' nb' A' ∧ e = .returned (.tuple #[v, .bool wh, ev]) ∧
    ((ev = .nilIface ∧ ∃ L, Ints X' w' v L ∧ L.Nodup ∧ r ∈ L ∧ (∀ x ∈ L, Rc S A' cs r x) ∧ (wh = true → Pl.Shut S A' cs L ∧ (L.length : Int) ≤ limit) ∧ (wh = false → (L.length : Int) = max limit 0 + 1)) ∨ ((∃ t u, ev = .iface t u) ∧ lim ≤ A'.length))

theorem nodup_rev {l : List Int} (h : l.reverse.Nodup) : l.Nodup := (List.pairwise_reverse.1 h).imp Ne.symm
theorem Cl0.exFull {S : List Nd → Int → Int → List Int → Prop} {X : Nat → Prop} {w0 : World} {eb mb ab nb : Nat} {lim : Int} {A : List Nd} {cs : List Int} {r : Int} {X' : Nat → Prop} {w1 : World} {nb' : Nat} {A' : List Nd} {m : Nat} {T : List Int} {v : Value} {P : Int → Prop} (h : Cl0 S X w0 eb mb ab nb lim A cs r X' w1 nb' A' m T.reverse T v P) {limit : Int} (hl : (T.length : Int) = max limit 0 + 1) :
    ExPost S cs r limit X w0 eb mb ab nb lim A (.returned (.tuple #[v, .bool false, .nilIface])) w1 := by
  obtain ⟨X5, g5, i5, _, _⟩ := Qu.give h.gr h.qu
  exact ⟨X5, nb', A', _, false, _, g5, rfl, Or.inl ⟨rfl, T, i5, nodup_rev h.nd, List.mem_reverse.1 h.kr, (fun x hx => h.rc x (List.mem_reverse.2 hx)), (fun e => by cases e), fun _ => hl⟩⟩

/-- The start of explore: a new queue with r, a new map with r. -/
theorem Cl0.start2 {S : List Nd → Int → Int → List Int → Prop} {X : Nat → Prop} {w0 : World} {eb mb ab nb : Nat} {lim : Int} {A : List Nd} {cs : List Int} {r : Int} (hE : Es X w0 eb mb ab nb lim A) (h3 : mb + 3 < w0.heap.size) (hr : Valid A r) (P : Int → Prop) :
    ∃ w2, (Instr.mapUpdate 82 (.map (some (w0.heap.size + 1))) (.int .i64 r) (.bool true)).run Tryz.prog ((w0.alloc (.cells #[encI r] 28)).alloc (.map #[] 0)) = .ok () w2 ∧ (Below w0.heap.size w0 w2) ∧
      Cl0 S X w0 eb mb ab nb lim A cs r (fun b => X b ∨ b = w0.heap.size) w2 nb A (w0.heap.size + 1) [r] [r] (.slice (some ⟨w0.heap.size, 0, none⟩) 1 1) P := by
  have hA := hE.en.st.ar.len
  have hr0 := hr.1
  have hr1 := hr.2
  obtain ⟨g3, q3⟩ := Qu.one (GrX.refl hE) r
  have sW : (w0.alloc (.cells #[encI r] 28)).heap.size = w0.heap.size + 1 := Deep.nblk_alloc _ _
  have hk := Kn.new (B := w0.heap.size) (X := fun b => X b ∨ b = w0.heap.size) (w0.alloc (.cells #[encI r] 28)) (by omega) (fun x => by rcases x with x | x; (have := hE.en.st.xlt _ x; omega); omega)
  rw [sW] at hk
  obtain ⟨w2, hput, hk2, hx2⟩ := hk.put (x := r) hr0 (by omega) (by simp) (by simp)
  have g4 := (g3.below (alloc_below (.map #[] 0))).turnOwn hx2 hk.ismap (by omega) h3
  have hb2 : Below w0.heap.size w0 w2 := ((alloc_below (w := w0) (.cells #[encI r] 28)).alloc (by omega) (.map #[] 0)).trans (hx2.below' (by rw [Deep.nblk_alloc]; omega) (fun k hk' e => by omega))
  exact ⟨w2, hput, hb2, ⟨g4, hk2, (q3.below (alloc_below (.map #[] 0))).turn (Turn.one hx2 hk.ismap), by simp, by simp, (fun x hx => by rw [List.mem_singleton.1 hx]; exact .refl), fun x hx => hx, Nat.le_refl _, fun x hx => Or.inl hx⟩⟩

set_option maxHeartbeats 16000000 in
theorem exploreP_walk {X : Nat → Prop} {w : World} {eb mb ab nb : Nat} {lim : Int} (hlim : lim ≤ 65536) {A : List Nd} (hE : Es X w eb mb ab nb lim A) {r limit : Int} (hl0 : -1 ≤ limit) (hl1 : limit ≤ 120) (hr : Valid A r) (hp : PlainR A r) {cv : Value} {cs : List Int} (hc : Ints X w cv cs) (hca : ∀ c ∈ cs, 0 ≤ c ∧ c ≤ 196607) (hcl : cs.length ≤ 196608) :
    Calls Tryz.prog 87 #[.int .i64 r, .int .i64 limit, cv, .func (.func 83) #[.pointer (some ⟨eb, 0, none⟩)] #[]] w (ExPost Par cs r limit X w eb mb ab nb lim A) := by
  have lm3 : mb + 3 < w.heap.size := by obtain ⟨_, _, m, _⟩ := hE.ax.pn; exact m.lt
  have HE := hideIt hE
  have Hr := hideIt hr
  have Hp : Hid (∀ (X' : Nat → Prop) (wr : World) (nb' : Nat) (A' : List Nd), GrX X w eb mb ab nb lim A X' wr nb' A' → ∀ q, Rc Par A' cs r q → PlainR A' q) := fun X' wr nb' A' g q h => h.plain g.en.st.ar.wf (g.le.valid hr) ((PlainR.le hE.en.st.ar.wf g.le hr).2 hp)
  have Hca := hideIt hca
  have hxl := hE.en.st.xlt
  by_cases hl : limit < 1
  · have HP : Hid (ExPost Par cs r limit X w eb mb ab nb lim A (.returned (.tuple #[.slice (some ⟨w.heap.size, 0, none⟩) 1 1, .bool false, .nilIface])) (w.alloc (.cells #[encI r] 28))) :=
      ⟨X, nb, A, _, false, _, (GrX.refl hE).below (alloc_below _), rfl, Or.inl ⟨rfl, [r], one_row hxl (Nat.le_refl _) (box_cell (heap_new _ _) 0), by simp, by simp, (fun x hx => by rw [List.mem_singleton.1 hx]; exact .refl), (fun e => by cases e), (fun _ => by simp; omega)⟩⟩
    obtain ⟨ca, cc, rfl, _, _, _⟩ := hc
    clear hE hr hp hca hxl
    go_enter Tryz.func87, Tryz.ntmps87
    go_wp2_with fail
    go_ret3
    exact HP.out
  · obtain ⟨w2, hput, hb2, hcl0⟩ := Cl0.start2 (S := Par) (cs := cs) hE lm3 hr (fun _ => False)
    have HC0 := hideIt hcl0
    have Hc0 : Hid (Ints (fun b => X b ∨ b = w.heap.size) w2 cv cs) := (hc.more (fun b hb e => e.elim id (fun e => by omega))).below hb2 (Nat.le_refl _)
    obtain ⟨ca, cc, rfl, _, _, _⟩ := hc
    have hmm := @run_makeMap Tryz.prog
    clear hE hr hp hca hcl0 hb2 hxl
    go_enter Tryz.func87, Tryz.ntmps87
    go_wp2_with fail
    go_loopw [11, 13] (fun v i wr => ∃ (k : Nat) (X' : Nat → Prop) (nb' : Nat) (A' : List Nd) (T : List Int), k ≤ T.length ∧ i = .int .i64 k ∧ Cl0 Par X w eb mb ab nb lim A cs r X' wr nb' A' (w.heap.size + 1) T.reverse T v (fun _ => False) ∧ (T.length : Int) ≤ limit ∧ (∀ j (h : j < T.length), j < k → Don Par A' cs T T[j]) ∧ Ints X' wr (.slice ca cs.length cc) cs) (fun _ i _ => 65536 - (intOf i).toNat)
    case atStart => exact ⟨0, _, nb, A, [r], by simp, rfl, HC0.out, by simp; omega, fun j _ h => by omega, Hc0.out⟩
    case round =>
      clear HC0 Hc0 hput
      obtain ⟨k, X', nb', A', T, hk, rfl, hC, hTl, hD, hI⟩ := hrel
      have HC := hideIt hC
      have HI := hideIt hI
      have HD := hideIt hD
      have hfew := hC.few stpPar Hr.out
      rw [List.length_reverse] at hfew
      obtain ⟨g, off, cap, rfl, hcap, hcap2, hcell⟩ := hC.qu.shape
      by_cases hlt : k < T.length
      · have hlt' : (k : Int) < (T.length : Int) := by omega
        have HsK : Hid (T[k] ∈ T) := List.getElem_mem hlt
        have Hsg : Hid (T[k]? = some T[k]) := List.getElem?_eq_getElem hlt
        generalize T[k] = s at *
        clear hC hI hD hcell
        go_wp2_with fail
        go_loopw [11, 36] (fun v i wz => ∃ (j : Nat) (X1 : Nat → Prop) (nb1 : Nat) (A1 : List Nd) (T1 : List Int), j ≤ cs.length ∧ i = .int .i64 j ∧ Cl0 Par X w eb mb ab nb lim A cs r X1 wz nb1 A1 (w.heap.size + 1) T1.reverse T1 v (fun _ => False) ∧ (T1.length : Int) ≤ limit ∧ T1[k]? = some s ∧ (∀ j (h : j < T1.length), j < k → Don Par A1 cs T1 T1[j]) ∧ Don Par A1 (cs.take j) T1 s ∧ Ints X1 wz (.slice ca cs.length cc) cs) (fun _ i _ => cs.length - (intOf i).toNat)
        case atStart => exact ⟨0, X', nb', A', T, by omega, rfl, HC.out, hTl, Hsg.out, HD.out, by simpa using Don.none, HI.out⟩
        case round =>
          clear HC HI HD HsK Hsg hTl
          obtain ⟨j, X1, nb1, A1, T1, hj, rfl, hC, hTl, hsg, hD, hDs, hI⟩ := hrel
          have HC := hideIt hC
          have HI := hideIt hI
          have HD := hideIt hD
          have HDs := hideIt hDs
          have Hsg := hideIt hsg
          have hf1 := hC.few stpPar Hr.out
          rw [List.length_reverse] at hf1
          obtain ⟨hk1, hs1⟩ := List.getElem?_eq_some_iff.1 hsg
          have Hsm : Hid (s ∈ T1.reverse) := List.mem_reverse.2 (by rw [← hs1]; exact List.getElem_mem hk1)
          obtain ⟨g1, off1, cap1, rfl, hcap1, hcap12, hcell1⟩ := hC.qu.shape
          have ck := hcell1 k hk1
          rw [hs1] at ck
          by_cases hlt : j < cs.length
          · have hlt' : (j : Int) < (cs.length : Int) := by omega
            have hk1' : (k : Int) < (T1.length : Int) := by omega
            obtain ⟨a4, c4, e4, _, _, h4⟩ := hI
            cases e4
            obtain ⟨g4, o4, rfl, _, hc4⟩ := h4 (fun e => by rw [e] at hlt; cases hlt)
            have cj := hc4 j hlt
            have Hcj := hideIt (Hca.out _ (List.getElem_mem hlt))
            have Hcm : Hid (cs[j] ∈ cs) := List.getElem_mem hlt
            have Hsn : Hid (∀ (B : List Nd) (M l : List Int), Don Par B (cs.take j) M s → Par B cs[j] s l → (∀ d ∈ l, d ∈ M) → Don Par B (cs.take (j + 1)) M s) := fun B M l h1 h2 h3 => h1.snoc hlt rfl h2 h3
            have Hv := hideIt (hC.val stpPar Hr.out s Hsm.out)
            have Hpl := hideIt (Hp.out X1 _ nb1 A1 hC.gr s (hC.rc s Hsm.out))
            generalize cs[j] = c at *
            clear h4 hc4 hC hD hDs hsg hs1 hcell1
            go_wp2_with fail
            go_at_call 83
            refine (part_walk Hcj.out hlim _ s rfl X1 _ nb1 A1 HC.out.gr.es Hv.out Hpl.out).mono ?_
            rintro e w5 ⟨X5, nb5, A5, v5, ev5, hg5, rfl, hh5⟩
            have HC5 := hideIt (HC.out.grow stpPar Hr.out lm3 hg5)
            have HI5 := hideIt (hg5.seq HC.out.gr.es HI.out)
            have HDs5 := hideIt (HDs.out.le stpPar HC.out.gr.en.st.ar.wf hg5.en.st.ar.wf hg5.le Hv.out)
            have HD5 : Hid (∀ j (h : j < T1.length), j < k → Don Par A5 cs T1 T1[j]) := fun j hj hjk => (HD.out j hj hjk).le stpPar HC.out.gr.en.st.ar.wf hg5.en.st.ar.wf hg5.le (HC.out.val stpPar Hr.out _ (List.mem_reverse.2 (List.getElem_mem hj)))
            rcases hh5 with ⟨rfl, l5, hI5, hn5, hp5⟩ | ⟨⟨t5, u5, rfl⟩, rfl, hf5⟩
            · have hl5 : l5.length ≤ 65536 := by
                have h1 := hp5.len hg5.en.st.ar.wf (hg5.le.valid Hv.out)
                have h2 := hg5.en.st.ar.len
                omega
              have HL5 := hideIt hI5
              have Hp5 := hideIt hp5
              have Hrc5 : Hid (∀ d ∈ l5, Rc Par A5 cs r d) := fun d hd => .step (HC5.out.rc s Hsm.out) Hcm.out hp5 hd
              obtain ⟨na, nc, rfl, _, _, _⟩ := hI5
              clear hn5 hp5 hg5 HC HI HD HDs Hsm
              go_wp2_with fail
              go_loopw [11, 55] (fun v i wz => ∃ (q : Nat) (X2 : Nat → Prop) (T2 : List Int), q ≤ l5.length ∧ i = .int .i64 q ∧ Cl0 Par X w eb mb ab nb lim A cs r X2 wz nb5 A5 (w.heap.size + 1) T2.reverse T2 v (fun _ => False) ∧ (T2.length : Int) ≤ limit ∧ T2[k]? = some s ∧ (∀ j (h : j < T2.length), j < k → Don Par A5 cs T2 T2[j]) ∧ Don Par A5 (cs.take j) T2 s ∧ Ints X2 wz (.slice (some ⟨g4, o4, none⟩) cs.length cc) cs ∧ Ints X2 wz (.slice na l5.length nc) l5 ∧ ∀ i (h : i < l5.length), i < q → l5[i] ∈ T2) (fun _ i _ => l5.length - (intOf i).toNat)
              case atStart => exact ⟨0, X5, T1, by omega, rfl, HC5.out, hTl, Hsg.out, HD5.out, HDs5.out, HI5.out, HL5.out, fun i _ h => by omega⟩
              case round =>
                clear HC5 HI5 HD5 HDs5 HL5 Hsg hTl
                obtain ⟨q, X2, T2, hq, rfl, hC, hTl, hsg, hD, hDs, hI, hL, hin⟩ := hrel
                have HC := hideIt hC
                have HI := hideIt hI
                have HL := hideIt hL
                have HD := hideIt hD
                have HDs := hideIt hDs
                have Hsg := hideIt hsg
                obtain ⟨g2, off2, cap2, rfl, hcap2, _, _⟩ := hC.qu.shape
                have hf2 := hC.few stpPar Hr.out
                rw [List.length_reverse] at hf2
                by_cases hqt : q < l5.length
                · have hqt' : (q : Int) < (l5.length : Int) := by omega
                  obtain ⟨a6, c6, e6, _, _, h6⟩ := hL
                  cases e6
                  obtain ⟨g6, o6, rfl, _, hc6⟩ := h6 (fun e => by rw [e] at hqt; cases hqt)
                  have cq := hc6 q hqt
                  have Hrq := hideIt (Hrc5.out _ (List.getElem_mem hqt))
                  have Hnx : Hid (∀ M : List Int, (∀ d ∈ T2, d ∈ M) → l5[q] ∈ M → ∀ i (h : i < l5.length), i < q + 1 → l5[i] ∈ M) := fun M h1 h2 i hi hiq => by
                    by_cases e : i = q
                    · subst e; exact h2
                    · exact h1 _ (hin i hi (by omega))
                  have hy := Hrq.out.valid stpPar hC.gr.en.st.ar.wf (hC.gr.le.valid Hr.out)
                  have hy0 := hy.1
                  have hy1 : l5[q] ≤ 65536 := by have h1 := hy.2; have h2 := hC.gr.en.st.ar.len; omega
                  generalize l5[q] = y at *
                  by_cases hyk : y ∈ T2
                  · have lk := hC.kn.look hy0 hy1
                    rw [decide_eq_true (List.mem_reverse.2 hyk)] at lk
                    have Hin' := hideIt (Hnx.out T2 (fun _ h => h) hyk)
                    clear h6 hc6 hC hD hDs hI hin hy hyk hsg
                    go_wp2_with fail
                    go_roundw
                    case rel => exact ⟨q + 1, X2, T2, by omega, by go_num, HC.out, hTl, Hsg.out, HD.out, HDs.out, HI.out, HL.out, Hin'.out⟩
                    case measure => simp [intOf]; omega
                  · have hykr : y ∉ T2.reverse := fun h => hyk (List.mem_reverse.1 h)
                    have lk := hC.kn.look hy0 hy1
                    rw [decide_eq_false hykr] at lk
                    obtain ⟨w3, hput, hk3, hx3⟩ := hC.kn.put hy0 hy1 hykr (by rw [List.length_reverse]; exact hf2)
                    have Hk3 := hideIt hk3
                    have Hx3 := hideIt hx3
                    have HG3 := hideIt (hC.gr.turnOwn hx3 hC.kn.ismap hC.kn.base lm3)
                    have HQ3 := hideIt (hC.qu.turn (Turn.one hx3 hC.kn.ismap))
                    have Hyk := hideIt hykr
                    have Hin' := hideIt (Hnx.out (T2 ++ [y]) (fun _ h => List.mem_append_left _ h) (by simp))
                    have HDs' := hideIt (hDs.more (K' := T2 ++ [y]) (fun _ h => List.mem_append_left _ h))
                    have HD' : Hid (∀ j (h : j < (T2 ++ [y]).length), j < k → Don Par A5 cs (T2 ++ [y]) (T2 ++ [y])[j]) := fun j hj hjk => by
                      have hk2 := (List.getElem?_eq_some_iff.1 hsg).1
                      rw [List.getElem_append_left (by omega)]
                      exact (hD j (by omega) hjk).more (fun _ h => List.mem_append_left _ h)
                    have Hsg' : Hid ((T2 ++ [y])[k]? = some s) := by
                      have hk2 := (List.getElem?_eq_some_iff.1 hsg).1
                      show (T2 ++ [y])[k]? = some s
                      rw [List.getElem?_append_left hk2]; exact hsg
                    clear h6 hc6 hC hD hDs hI hin hy hyk hykr hk3 hx3 hsg
                    by_cases hbig : limit < (T2.length : Int) + 1
                    · have hT1 : ((T2 ++ [y]).length : Int) = max limit 0 + 1 := by rw [List.length_append, List.length_singleton]; omega
                      have HT1 := hideIt hT1
                      clear hT1
                      go_wp2_with (at_builtin; refine wpList_append_qu rfl (.tmp 64) (.tmp 66) rfl HG3.out HQ3.out (alloc_below _) rfl ⟨w3.heap.size, 0, none⟩ y rfl (box_cell (heap_new _ _) 0) (by omega) ?_; intro v6 w6 hap; obtain ⟨X6, hC6, hs6, hq6⟩ := HC.out.pushed Hk3.out Hx3.out hap Hyk.out Hrq.out; have erev : y :: T2.reverse = (T2 ++ [y]).reverse := (by simp); rw [erev] at hC6; have HP := hideIt (hC6.exFull HT1.out); obtain ⟨g7, off7, cap7, e7, _, _, _⟩ := hC6.qu.shape; subst e7; clear hC6 hs6 hq6 hap erev)
                      go_ret3
                      have h := HP.out
                      rw [List.length_append, List.length_singleton] at h
                      exact h
                    · have hT1 : ((T2 ++ [y]).length : Int) ≤ limit := by rw [List.length_append, List.length_singleton]; omega
                      have HT1 := hideIt hT1
                      clear hT1
                      go_wp2_with (at_builtin; refine wpList_append_qu rfl (.tmp 64) (.tmp 66) rfl HG3.out HQ3.out (alloc_below _) rfl ⟨w3.heap.size, 0, none⟩ y rfl (box_cell (heap_new _ _) 0) (by omega) ?_; intro v6 w6 hap; obtain ⟨X6, hC6, hs6, hq6⟩ := HC.out.pushed Hk3.out Hx3.out hap Hyk.out Hrq.out; have erev : y :: T2.reverse = (T2 ++ [y]).reverse := (by simp); rw [erev] at hC6; have HC6 := hideIt hC6; have HI6 := hideIt (hq6 _ _ HI.out); have HL6 := hideIt (hq6 _ _ HL.out); obtain ⟨g7, off7, cap7, e7, _, _, _⟩ := hC6.qu.shape; subst e7; clear hC6 hs6 hq6 hap erev)
                      go_roundw
                      case rel => exact ⟨q + 1, X6, T2 ++ [y], by omega, by go_num, (by have h := HC6.out; rw [List.length_append, List.length_singleton] at h; exact h), HT1.out, Hsg'.out, HD'.out, HDs'.out, HI6.out, HL6.out, Hin'.out⟩
                      case measure => simp [intOf]; omega
                · obtain rfl : q = l5.length := by omega
                  have HD' := hideIt (Hsn.out A5 T2 l5 hDs Hp5.out (fun d hd => by
                    obtain ⟨i, hi, rfl⟩ := List.getElem_of_mem hd
                    exact hin i hi hi))
                  clear hC hD hDs hI hL hin hsg
                  go_wp2_with fail
                  go_roundw
                  case rel => exact ⟨j + 1, X2, nb5, A5, T2, by omega, by go_num, HC.out, hTl, Hsg.out, HD.out, HD'.out, HI.out⟩
                  case measure => simp [intOf]; omega
            · have HP : Hid (ExPost Par cs r limit X w eb mb ab nb lim A (.returned (.tuple #[.slice none 0 0, .bool false, .iface t5 u5])) w5) := ⟨X5, nb5, A5, _, false, _, HC5.out.gr, rfl, Or.inr ⟨⟨t5, u5, rfl⟩, hf5⟩⟩
              clear hg5 hf5
              go_wp2_with fail
              go_ret3
              exact HP.out
          · obtain rfl : j = cs.length := by omega
            rw [List.take_length] at hDs
            have HDn : Hid (∀ j (h : j < T1.length), j < k + 1 → Don Par A1 cs T1 T1[j]) := fun j hj hjk => by
              by_cases e : j = k
              · subst e; rw [hs1]; exact hDs
              · exact hD j hj (by omega)
            clear hC hD hDs hI hsg hs1 hcell1
            go_wp2_with fail
            go_roundw
            case rel => exact ⟨k + 1, X1, nb1, A1, T1, by omega, by go_num, HC.out, hTl, HDn.out, HI.out⟩
            case measure => simp [intOf]; omega
      · obtain rfl : k = T.length := by omega
        obtain ⟨X5, g5, i5, _, _⟩ := Qu.give hC.gr hC.qu
        have HP : Hid (ExPost Par cs r limit X w eb mb ab nb lim A (.returned (.tuple #[.slice (some ⟨g, off, none⟩) T.length cap, .bool true, .nilIface])) wr) :=
          ⟨X5, nb', A', _, true, _, g5, rfl, Or.inl ⟨rfl, T, i5, nodup_rev hC.nd, List.mem_reverse.1 hC.kr, (fun x hx => hC.rc x (List.mem_reverse.2 hx)), (fun _ => ⟨fun x hx => by
            obtain ⟨j, hj, rfl⟩ := List.getElem_of_mem hx
            exact hD j hj hj, hTl⟩), (fun e => by cases e)⟩⟩
        clear hC hI hD hcell g5 i5
        go_wp2_with fail
        go_ret3
        exact HP.out

set_option maxHeartbeats 4000000 in
theorem PartialStates_walk {X : Nat → Prop} {w : World} {eb mb ab nb : Nat} {lim : Int} (hlim : lim ≤ 65536) {A : List Nd} (hE : Es X w eb mb ab nb lim A) (hgd : Gd tabC w) (hw0 : 3 < w.heap.size) (hxt : ¬ X 3) {r limit : Int} (hl0 : -1 ≤ limit) (hl1 : limit ≤ 120) (hr : Valid A r) (hp : PlainR A r) {P : List (List Nat)} (hP : IsCut tabC A r P) :
    Calls Tryz.prog 34 #[.pointer (some ⟨eb, 0, none⟩), .int .i64 r, .int .i64 limit] w (ExPost Par (P.map (minF tabC)) r limit X w eb mb ab nb lim A) := by
  have HE := hideIt hE
  have Hr := hideIt hr
  have Hp := hideIt hp
  have HP := hideIt hP
  have Hgd := hideIt hgd
  have Hxt := hideIt hxt
  clear hE hr hp hP hgd hxt
  go_enter Tryz.func34, Tryz.ntmps34
  go_wp2_with fail
  go_at_call 35
  refine (Plain_walk _ r rfl w HE.out Hr.out).mono ?_
  rintro e w1 ⟨b1, rfl, hb1, hg1⟩
  have eb1 := hb1.2 Hp.out
  subst eb1
  have HG1 := hideIt hg1
  clear hb1 hg1
  go_wp2_with fail
  go_at_call 18
  refine (Cut_walk HG1.out.es (fun j hj => HG1.out.cell HE.out (Hgd.out j hj) Hxt.out) (Nat.lt_of_lt_of_le hw0 HG1.out.ext.size) Hr.out).mono ?_
  rintro e w2 ⟨tb, P', rfl, hcut, hic, hpl, hg2⟩
  obtain rfl := hic.uniq HP.out
  have HG2 := hideIt (HG1.out.trans hg2)
  obtain ⟨ba, bc, ra, rc, vs, c0, c1, hvl, hS, hW, hR⟩ := hcut.cells
  have HR := hideIt hR
  have Hca : Hid (∀ c ∈ P'.map (minF tabC), 0 ≤ c ∧ c ≤ 196607) := fun c hc => by
    obtain ⟨p, hp, rfl⟩ := List.mem_map.1 hc
    obtain ⟨j, hj, rfl⟩ := List.getElem_of_mem hp
    exact (hic.rep hj).1
  clear hcut hic hg2 hS hW hR
  go_wp2_with fail
  go_at_call 87
  refine (exploreP_walk hlim HG2.out.es hl0 hl1 Hr.out Hp.out HR.out Hca.out (by simpa using hpl)).mono ?_
  rintro e w3 ⟨X3, nb3, A3, v3, wh, ev, hg3, rfl, hh⟩
  have HPP : Hid (ExPost Par (P'.map (minF tabC)) r limit X w eb mb ab nb lim A (.returned (.tuple #[v3, .bool wh, ev])) w3) := ⟨X3, nb3, A3, v3, wh, ev, HG2.out.trans hg3, rfl, hh⟩
  clear hg3 hh
  go_wp2_with fail
  go_ret3
  exact HPP.out
end Go.Proofs.Qxb6500848aGreatDoor
