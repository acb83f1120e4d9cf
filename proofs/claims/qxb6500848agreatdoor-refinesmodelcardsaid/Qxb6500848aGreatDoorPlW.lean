/-
  derivm.Plain, Engine.Plain.
-/
import Derived.Test.Qxb6500848aGreatDoorCutW
import Derived.Test.Qxb6500848aGreatDoorPlainC
import Derived.Deep.DeepCutAuto
namespace Go.Proofs.Qxb6500848aGreatDoor
open Go.RowKit Pl Go.Maps
set_option maxRecDepth 100000

def PlPost (A : List Nd) (x : Int) (w : World) (e : Ending) (w' : World) : Prop := ∃ b, e = .returned (.bool b) ∧ (b = true ↔ PlainR A x) ∧ Below w.heap.size w w'

set_option maxHeartbeats 4000000 in
theorem mplain_walk {X : Nat → Prop} {ab nb : Nat} {lim : Int} {A : List Nd} : ∀ (m : Nat) (x : Int), x.toNat = m → ∀ (w : World), St X w ab nb lim A → Valid A x →
    Calls Tryz.prog 30 #[.pointer (some ⟨ab, 0, none⟩), .int .i64 x] w (PlPost A x w) := by
  intro m
  induction m using Nat.strongRecOn with
  | ind m ih =>
  intro x hm w hS hx
  subst hm
  obtain ⟨cap, n0, _, n1⟩ := hS.ar.node
  obtain ⟨sv, kv, hnc⟩ := n1 x hx
  have hfew := few64 hS.ar.wf hS.ar.len hx
  have HKV : Hid (∀ k ∈ (nodeAt A x).kids, Valid A k ∧ k.toNat < x.toNat) := fun k hk => hS.ar.wf.kidValid hx hk
  have HIH := hideIt ih
  have HS := hideIt hS
  have Hx := hideIt hx
  have Hnc := hideIt hnc
  have Hk0 := hideIt hnc.kids
  have Hpu := hideIt (plainR_unfold (A := A) (x := x))
  obtain ⟨_, _, _, _, _, ⟨ka, kc, rfl, _, _, _⟩, ⟨sa, sc, rfl, _, _, _⟩⟩ := hnc
  clear hS hx n1 ih n0
  go_enter Tryz.func30, Tryz.ntmps30
  go_wp2_with fail
  go_at_call 82
  refine (node_walk _ HS.out.ar x Hx.out Hnc.out).mono ?_
  rintro e w1 ⟨rfl, hb1⟩
  have hb2 : Below w.heap.size w (w1.alloc (.cells #[.int .i64 (nodeAt A x).kind, .slice sa (nodeAt A x).bits.length sc, .slice ka (nodeAt A x).kids.length kc, .int .i64 (nodeAt A x).lo, .int .i64 (nodeAt A x).hi] 110)) := hb1.alloc hb1.size _
  have hbx : (w1.alloc (.cells #[.int .i64 (nodeAt A x).kind, .slice sa (nodeAt A x).bits.length sc, .slice ka (nodeAt A x).kids.length kc, .int .i64 (nodeAt A x).lo, .int .i64 (nodeAt A x).hi] 110)).heap[w1.heap.size]? = some (.cells #[.int .i64 (nodeAt A x).kind, .slice sa (nodeAt A x).bits.length sc, .slice ka (nodeAt A x).kids.length kc, .int .i64 (nodeAt A x).lo, .int .i64 (nodeAt A x).hi] 110 (0, 0)) := heap_new _ _
  have HB2 := hideIt hb2
  clear Hnc hb1
  generalize nodeAt A x = nd at *
  by_cases h7 : nd.kind = 7
  · have b7 : (nd.kind == 7) = true := by rw [h7]; rfl
    have Hno : Hid (¬ PlainR A x) := fun h => ((Hpu.out.1 h).1.2 h7).elim
    clear h7
    go_wp2_with fail
    go_ret
    exact ⟨false, rfl, ⟨fun h => (by cases h), fun h => (Hno.out h).elim⟩, HB2.out⟩
  · by_cases h6 : nd.kind = 6
    · have b7 : (nd.kind == 7) = false := by rw [beq_eq_false_iff_ne]; exact h7
      have b6 : (nd.kind == 6) = true := by rw [h6]; rfl
      have Hno : Hid (¬ PlainR A x) := fun h => ((Hpu.out.1 h).1.1 h6).elim
      clear h7 h6
      go_wp2_with fail
      go_ret
      exact ⟨false, rfl, ⟨fun h => (by cases h), fun h => (Hno.out h).elim⟩, HB2.out⟩
    · have b7 : (nd.kind == 7) = false := by rw [beq_eq_false_iff_ne]; exact h7
      have b6 : (nd.kind == 6) = false := by rw [beq_eq_false_iff_ne]; exact h6
      have Hp : Hid (PlainR A x ↔ ∀ k ∈ nd.kids, PlainR A k) := Hpu.out.trans ⟨fun h => h.2, fun h => ⟨⟨h6, h7⟩, h⟩⟩
      clear h7 h6
      go_wp2_with fail
      generalize w1.alloc (.cells #[.int .i64 nd.kind, .slice sa nd.bits.length sc, .slice ka nd.kids.length kc, .int .i64 nd.lo, .int .i64 nd.hi] 110) = w2 at *
      go_loopw [22] (fun i wr => ∃ (k : Nat), k ≤ nd.kids.length ∧ i = .int .i64 k ∧ Below w.heap.size w wr ∧ ∀ j (h : j < nd.kids.length), j < k → PlainR A nd.kids[j]) (fun i _ => nd.kids.length - (intOf i).toNat)
      case atStart => exact ⟨0, by omega, rfl, HB2.out, fun j _ h => by omega⟩
      case round =>
        obtain ⟨k, hk, rfl, hb, hall⟩ := hrel
        by_cases hlt : k < nd.kids.length
        · have hlt' : (k : Int) < (nd.kids.length : Int) := by omega
          obtain ⟨ad, cap', e, _, _, h3⟩ := Hk0.out.below hb (Nat.le_refl _)
          cases e
          obtain ⟨g, o, rfl, _, hc⟩ := h3 (fun e => by rw [e] at hlt; cases hlt)
          have ck := hc k hlt
          have Hv := hideIt (HKV.out _ (List.getElem_mem hlt))
          have Hin : Hid (nd.kids[k] ∈ nd.kids) := List.getElem_mem hlt
          have Hnext : Hid (PlainR A nd.kids[k] → ∀ j (h : j < nd.kids.length), j < k + 1 → PlainR A nd.kids[j]) := fun hp j hj hjk => by
            by_cases e : j = k
            · subst e; exact hp
            · exact hall j hj (by omega)
          generalize nd.kids[k] = y at *
          have HB := hideIt hb
          clear h3 hc hb hall hbx
          go_wp2_with fail
          go_at_call 30
          refine (HIH.out _ Hv.out.2 y rfl wr (HS.out.below HB.out (Nat.le_refl _)) Hv.out.1).mono ?_
          rintro e w3 ⟨b3, rfl, hb3, hB3⟩
          have HB3 := hideIt (HB.out.trans (hB3.mono HB.out.size))
          have Hb3 := hideIt hb3
          clear hb3 hB3
          cases b3
          · go_wp2_with fail
            go_ret
            exact ⟨false, rfl, ⟨fun h => (by cases h), fun h => absurd (Hb3.out.2 (Hp.out.1 h _ Hin.out)) (by simp)⟩, HB3.out⟩
          · go_wp2_with fail
            go_roundw
            case rel => exact ⟨k + 1, by omega, by go_num, HB3.out, Hnext.out (Hb3.out.1 (by trivial))⟩
            case measure => simp [intOf]; omega
        · obtain rfl : k = nd.kids.length := by omega
          have HB := hideIt hb
          have Hyes : Hid (PlainR A x) := Hp.out.2 (fun q hq => by
            obtain ⟨j, hj, rfl⟩ := List.getElem_of_mem hq
            exact hall j hj hj)
          clear hb hall hbx
          go_wp2_with fail
          go_ret
          exact ⟨true, rfl, ⟨fun _ => Hyes.out, fun _ => rfl⟩, HB.out⟩

/-! ### the engine's -/
theorem Es.putP {X : Nat → Prop} {w : World} {eb mb ab nb : Nat} {lim : Int} {A : List Nd} (h : Es X w eb mb ab nb lim A) {x : Int} (hx : Valid A x) {b : Bool} (hb : b = true ↔ PlainR A x) :
    ∃ w', (Instr.mapUpdate 82 (.map (some (mb + 3))) (.int .i64 x) (.bool b)).run Tryz.prog w = .ok () w' ∧ GrX X w eb mb ab nb lim A X w' nb A := by
  obtain ⟨get, ks, hM, hH⟩ := h.ax.pn
  have hA := h.en.st.ar.len
  have hcnt : ks.length ≤ A.length := keys_le hM.nodup (fun l => match l with | .int _ y => y.toNat | _ => 0) A.length
    (fun k hk => by obtain ⟨y, _, rfl, hy, _⟩ := hH k hk; exact hy.2)
    (fun k hk k' hk' e => by
      obtain ⟨y, _, rfl, hy, _⟩ := hH k hk
      obtain ⟨y', _, rfl, hy', _⟩ := hH k' hk'
      have : y = y' := by have h1 := hy.1; have h2 := hy'.1; simp only at e; omega
      rw [this])
  have hkey := key_int x hx.1 (by have := hx.2; omega)
  have hmax : ks.length < maxLen := by unfold maxLen; omega
  have fin : ∀ w' get' ks', Mp 28 w' (mb + 3) get' ks' → Ext w.heap.size (fun z => z = mb + 3) w w' → get' (IK x) = .bool b → (∀ k ∈ ks', k = IK x ∨ (k ∈ ks ∧ get' k = get k)) → GrX X w eb mb ab nb lim A X w' nb A := by
    intro w' get' ks' m' e' g1 g2
    have hT := Turn.one e' h.ax.m3
    refine GrX.turned h e' (Or.inr (Or.inr rfl)) ?_
    obtain ⟨a, c, d, he⟩ := h.ax.eng
    obtain ⟨q1, k1, M1, H1⟩ := h.ax.cu
    obtain ⟨q2, k2, M2, H2⟩ := h.ax.pa
    refine ⟨⟨a, c, d, hT.block he⟩, h.ax.n1, h.ax.n2, h.ax.n3, ⟨q1, k1, M1.ext e' M1.lt (by omega), fun k hk => ?_⟩, ⟨q2, k2, M2.ext e' M2.lt (by omega), fun k hk => ?_⟩, ⟨get', ks', m', fun k hk => ?_⟩⟩
    · obtain ⟨y, tb, P, r1, r2, r3, r4, r5, r6⟩ := H1 k hk
      exact ⟨y, tb, P, r1, r2, r3, r4.turn hT, r5, r6⟩
    · obtain ⟨y, c, l, r1, r2, r3, r4, r5⟩ := H2 k hk
      exact ⟨y, c, l, r1, r2, r3, hT.seq r4, r5⟩
    · rcases g2 k hk with rfl | ⟨hk, e⟩
      · exact ⟨x, b, rfl, hx, g1, hb⟩
      · obtain ⟨y, b', r1, r2, r3, r4⟩ := hH k hk
        exact ⟨y, b', r1, r2, e.trans r3, r4⟩
  by_cases hin : IK x ∈ ks
  · obtain ⟨w', get', r1, r2, r3, r4, r5⟩ := hM.over law_id Tryz.underlying82 hmax hkey (law_id.key hkey) hin (.bool b)
    exact ⟨w', r1, fin w' get' ks r2 r5 r3 (fun k hk => by
      by_cases e : k = IK x
      · exact Or.inl e
      · exact Or.inr ⟨hk, r4 k hk e⟩)⟩
  · obtain ⟨w', get', r1, r2, r3, r4, r5⟩ := hM.store law_id Tryz.underlying82 hmax hkey trivial hin (.bool b)
    exact ⟨w', r1, fin w' get' _ r2 r5 r3 (fun k hk => (List.mem_cons.1 hk).imp id (fun hk => ⟨hk, r4 k hk⟩))⟩

def EpPost (x : Int) (X : Nat → Prop) (w : World) (eb mb ab nb : Nat) (lim : Int) (A : List Nd) (e : Ending) (w' : World) : Prop :=
  ∃ b, e = .returned (.bool b) ∧ (b = true ↔ PlainR A x) ∧ GrX X w eb mb ab nb lim A X w' nb A

set_option maxHeartbeats 8000000 in
theorem Plain_T {X : Nat → Prop} {eb mb ab nb : Nat} {lim : Int} {A : List Nd} (x : Int) (ih : ∀ m, m < x.toNat → ∀ y : Int, y.toNat = m → ∀ w : World, Es X w eb mb ab nb lim A → Valid A y → Calls Tryz.prog 35 #[.pointer (some ⟨eb, 0, none⟩), .int .i64 y] w (EpPost y X w eb mb ab nb lim A)) (w : World) (hE : Es X w eb mb ab nb lim A) (hx : Valid A x) (e1 : w.cell? ⟨eb, 1, none⟩ = some (.bool true)) :
    Calls Tryz.prog 35 #[.pointer (some ⟨eb, 0, none⟩), .int .i64 x] w (EpPost x X w eb mb ab nb lim A) := by
  obtain ⟨a1, a2, a3, he⟩ := hE.ax.eng
  obtain ⟨b1, b2, b3, he2⟩ := hE.en.eng
  have e0 := box_cell he2 0
  have e5 := box_cell he 5
  simp only [List.getElem?_toArray, List.getElem?_cons_zero, List.getElem?_cons_succ] at e0 e5
  have le := heap_lt he
  obtain ⟨get, ks, hM, hH⟩ := hE.ax.pn
  have hlen := hE.en.st.ar.len
  have hkey := key_int x hx.1 (by have := hx.2; omega)
  by_cases hin : (IK x) ∈ ks
  · obtain ⟨y, b, ey, _, eg, hb⟩ := hH _ hin
    cases ey
    have hlk := hM.hit law_id Tryz.underlying82 (zero_bool w) hkey hin
    have eg' : get (Lit.int .i64 x) = .bool b := eg
    rw [eg'] at hlk
    have HP : Hid (EpPost x X w eb mb ab nb lim A (.returned (.bool b)) w) := ⟨b, rfl, hb, GrX.refl hE⟩
    clear hE hx hM hH hb eg ih
    go_enter Tryz.func35, Tryz.ntmps35
    go_wp2
    go_ret
    exact HP.out
  · have hlk := hM.miss law_id Tryz.underlying82 (zero_bool w) hkey hin
    obtain ⟨cap, n0, _, n1⟩ := hE.en.st.ar.node
    obtain ⟨sv, kv, hnc⟩ := n1 x hx
    have hfew := few64 hE.en.st.ar.wf hE.en.st.ar.len hx
    have HKV : Hid (∀ k ∈ (nodeAt A x).kids, Valid A k ∧ k.toNat < x.toNat) := fun k hk => hE.en.st.ar.wf.kidValid hx hk
    have HIH := hideIt ih
    have HE := hideIt hE
    have Hx := hideIt hx
    have Hnc := hideIt hnc
    have Hk0 := hideIt hnc.kids
    have Hpu := hideIt (plainR_unfold (A := A) (x := x))
    have Hxl := hideIt hE.en.st.xlt
    obtain ⟨_, _, _, _, _, ⟨ka, kc, rfl, _, _, _⟩, ⟨sa, sc, rfl, _, _, _⟩⟩ := hnc
    clear hE hx n1 ih n0 hM hH hin
    go_enter Tryz.func35, Tryz.ntmps35
    go_wp2_with fail
    go_at_call 82
    refine (node_walk _ HE.out.en.st.ar x Hx.out Hnc.out).mono ?_
    rintro e w1 ⟨rfl, hb1⟩
    have hb2 : Below w.heap.size w (w1.alloc (.cells #[.int .i64 (nodeAt A x).kind, .slice sa (nodeAt A x).bits.length sc, .slice ka (nodeAt A x).kids.length kc, .int .i64 (nodeAt A x).lo, .int .i64 (nodeAt A x).hi] 110)) := hb1.alloc hb1.size _
    have HB2 := hideIt hb2
    have HE2 := hideIt (HE.out.below hb2)
    have HG2 := hideIt ((GrX.refl HE.out).below hb2)
    have Hk2 := hideIt (Hk0.out.below hb2 (Nat.le_refl _))
    clear Hnc hb1 Hk0
    generalize nodeAt A x = nd at *
    have hbx : (w1.alloc (.cells #[.int .i64 nd.kind, .slice sa nd.bits.length sc, .slice ka nd.kids.length kc, .int .i64 nd.lo, .int .i64 nd.hi] 110)).heap[w1.heap.size]? = some (.cells #[.int .i64 nd.kind, .slice sa nd.bits.length sc, .slice ka nd.kids.length kc, .int .i64 nd.lo, .int .i64 nd.hi] 110 (0, 0)) := heap_new _ _
    go_upto_region 6 with fail
    generalize w1.alloc (.cells #[.int .i64 nd.kind, .slice sa nd.bits.length sc, .slice ka nd.kids.length kc, .int .i64 nd.lo, .int .i64 nd.hi] 110) = w2 at *
    have d0 := box_cell hbx 0
    have d2 := box_cell hbx 2
    simp only [List.getElem?_toArray, List.getElem?_cons_zero, List.getElem?_cons_succ] at d0 d2
    clear hbx hb2
    go_cut [8] (fun v wx => ∃ pb : Bool, v = .bool pb ∧ (pb = true ↔ nd.kind ≠ 6 ∧ nd.kind ≠ 7) ∧ wx = w2)
    case first =>
      have Hq : Hid ((nd.kind != 7 && nd.kind != 6) = true ↔ nd.kind ≠ 6 ∧ nd.kind ≠ 7) := by show _ ↔ _; simp; exact And.comm
      go_wp2_with fail
      all_goals go_meet
      all_goals exact ⟨_, rfl, by first | exact Hq.out | (simp; exact And.comm) | (simp_all; done), rfl⟩
    case rest =>
      obtain ⟨pb, rfl, hpb, hwc⟩ := hcut
      obtain rfl := hwc
      have Hpb := hideIt hpb
      clear hpb
      go_wp2_with fail
      go_loopw [8, 43] (fun v i wr => ∃ (k : Nat) (b : Bool), k ≤ nd.kids.length ∧ i = .int .i64 k ∧ v = .bool b ∧ GrX X w eb mb ab nb lim A X wr nb A ∧ Ints X wr (.slice ka nd.kids.length kc) nd.kids ∧ (b = true ↔ (nd.kind ≠ 6 ∧ nd.kind ≠ 7) ∧ ∀ j (h : j < nd.kids.length), j < k → PlainR A nd.kids[j])) (fun _ i _ => nd.kids.length - (intOf i).toNat)
      case atStart => exact ⟨0, pb, by omega, rfl, rfl, HG2.out, Hk2.out, ⟨fun h => ⟨Hpb.out.1 h, fun j _ h => by omega⟩, fun h => Hpb.out.2 h.1⟩⟩
      case round =>
        obtain ⟨k, b, hk, rfl, rfl, hG, hI, hb⟩ := hrel
        have HG := hideIt hG
        have HI := hideIt hI
        by_cases hlt : k < nd.kids.length
        · have hlt' : (k : Int) < (nd.kids.length : Int) := by omega
          obtain ⟨ad, cap', e, _, _, h3⟩ := hI
          cases e
          obtain ⟨g, o, rfl, _, hc⟩ := h3 (fun e => by rw [e] at hlt; cases hlt)
          have ck := hc k hlt
          have Hv := hideIt (HKV.out _ (List.getElem_mem hlt))
          have Hnx : Hid (∀ b' : Bool, (b' = true ↔ b = true ∧ PlainR A nd.kids[k]) → (b' = true ↔ (nd.kind ≠ 6 ∧ nd.kind ≠ 7) ∧ ∀ j (h : j < nd.kids.length), j < k + 1 → PlainR A nd.kids[j])) := fun b' hb' => by
            rw [hb', hb]
            constructor
            · rintro ⟨⟨q1, q2⟩, q3⟩
              refine ⟨q1, fun j hj hjk => ?_⟩
              by_cases e : j = k
              · subst e; exact q3
              · exact q2 j hj (by omega)
            · rintro ⟨q1, q2⟩
              exact ⟨⟨q1, fun j hj hjk => q2 j hj (by omega)⟩, q2 k hlt (by omega)⟩
          generalize nd.kids[k] = y at *
          clear h3 hc hG hb
          cases b
          · go_wp2_with fail
            go_roundw
            case rel => exact ⟨k + 1, false, by omega, by go_num, rfl, HG.out, HI.out, Hnx.out false (by simp)⟩
            case measure => simp [intOf]; omega
          · go_wp2_with fail
            go_at_call 35
            refine (HIH.out _ Hv.out.2 y rfl wr HG.out.es Hv.out.1).mono ?_
            rintro e w3 ⟨b3, rfl, hb3, hg3⟩
            have HG3 := hideIt (HG.out.trans hg3)
            have HI3 := hideIt (hg3.seq HG.out.es HI.out)
            have Hb3 := hideIt hb3
            clear hb3 hg3
            go_wp2_with fail
            go_roundw
            case rel => exact ⟨k + 1, b3, by omega, by go_num, rfl, HG3.out, HI3.out, Hnx.out b3 (by rw [Hb3.out]; simp)⟩
            case measure => simp [intOf]; omega
        · obtain rfl : k = nd.kids.length := by omega
          have hb' : b = true ↔ PlainR A x := by
            rw [hb, Hpu.out]
            constructor
            · rintro ⟨q1, q2⟩
              exact ⟨q1, fun q hq => by obtain ⟨j, hj, rfl⟩ := List.getElem_of_mem hq; exact q2 j hj hj⟩
            · rintro ⟨q1, q2⟩
              exact ⟨q1, fun j hj _ => q2 _ (List.getElem_mem hj)⟩
          obtain ⟨w', hput, hgp⟩ := hG.es.putP Hx.out hb'
          obtain ⟨a1', a2', a3', he'⟩ := hG.ax.eng
          obtain ⟨⟨mm', b1'⟩, b2', b3', he2'⟩ := hG.en.eng
          have i1 : wr.cell? ⟨eb, 1, none⟩ = some (.bool mm') := box_cell he2' 1
          have i5 := box_cell he' 5
          simp only [List.getElem?_toArray, List.getElem?_cons_zero, List.getElem?_cons_succ] at i5
          have HP : Hid (EpPost x X w eb mb ab nb lim A (.returned (.bool b)) w') := ⟨b, rfl, hb', hG.trans hgp⟩
          have HP0 : Hid (EpPost x X w eb mb ab nb lim A (.returned (.bool b)) wr) := ⟨b, rfl, hb', hG⟩
          clear hG hI hb hb' hgp he' he2'
          cases mm'
          · go_wp2_with fail
            go_ret
            exact HP0.out
          · go_wp2_with fail
            go_ret
            exact HP.out

set_option maxHeartbeats 8000000 in
theorem Plain_F {X : Nat → Prop} {eb mb ab nb : Nat} {lim : Int} {A : List Nd} (x : Int) (ih : ∀ m, m < x.toNat → ∀ y : Int, y.toNat = m → ∀ w : World, Es X w eb mb ab nb lim A → Valid A y → Calls Tryz.prog 35 #[.pointer (some ⟨eb, 0, none⟩), .int .i64 y] w (EpPost y X w eb mb ab nb lim A)) (w : World) (hE : Es X w eb mb ab nb lim A) (hx : Valid A x) (e1 : w.cell? ⟨eb, 1, none⟩ = some (.bool false)) :
    Calls Tryz.prog 35 #[.pointer (some ⟨eb, 0, none⟩), .int .i64 x] w (EpPost x X w eb mb ab nb lim A) := by
  obtain ⟨a1, a2, a3, he⟩ := hE.ax.eng
  obtain ⟨b1, b2, b3, he2⟩ := hE.en.eng
  have e0 := box_cell he2 0
  have e5 := box_cell he 5
  simp only [List.getElem?_toArray, List.getElem?_cons_zero, List.getElem?_cons_succ] at e0 e5
  have le := heap_lt he
  obtain ⟨get, ks, hM, hH⟩ := hE.ax.pn
  have hlen := hE.en.st.ar.len
  have hkey := key_int x hx.1 (by have := hx.2; omega)
  obtain ⟨cap, n0, _, n1⟩ := hE.en.st.ar.node
  obtain ⟨sv, kv, hnc⟩ := n1 x hx
  have hfew := few64 hE.en.st.ar.wf hE.en.st.ar.len hx
  have HKV : Hid (∀ k ∈ (nodeAt A x).kids, Valid A k ∧ k.toNat < x.toNat) := fun k hk => hE.en.st.ar.wf.kidValid hx hk
  have HIH := hideIt ih
  have HE := hideIt hE
  have Hx := hideIt hx
  have Hnc := hideIt hnc
  have Hk0 := hideIt hnc.kids
  have Hpu := hideIt (plainR_unfold (A := A) (x := x))
  have Hxl := hideIt hE.en.st.xlt
  obtain ⟨_, _, _, _, _, ⟨ka, kc, rfl, _, _, _⟩, ⟨sa, sc, rfl, _, _, _⟩⟩ := hnc
  clear hE hx n1 ih n0 hM hH
  go_enter Tryz.func35, Tryz.ntmps35
  go_wp2_with fail
  go_at_call 82
  refine (node_walk _ HE.out.en.st.ar x Hx.out Hnc.out).mono ?_
  rintro e w1 ⟨rfl, hb1⟩
  have hb2 : Below w.heap.size w (w1.alloc (.cells #[.int .i64 (nodeAt A x).kind, .slice sa (nodeAt A x).bits.length sc, .slice ka (nodeAt A x).kids.length kc, .int .i64 (nodeAt A x).lo, .int .i64 (nodeAt A x).hi] 110)) := hb1.alloc hb1.size _
  have HB2 := hideIt hb2
  have HE2 := hideIt (HE.out.below hb2)
  have HG2 := hideIt ((GrX.refl HE.out).below hb2)
  have Hk2 := hideIt (Hk0.out.below hb2 (Nat.le_refl _))
  clear Hnc hb1 Hk0
  generalize nodeAt A x = nd at *
  have hbx : (w1.alloc (.cells #[.int .i64 nd.kind, .slice sa nd.bits.length sc, .slice ka nd.kids.length kc, .int .i64 nd.lo, .int .i64 nd.hi] 110)).heap[w1.heap.size]? = some (.cells #[.int .i64 nd.kind, .slice sa nd.bits.length sc, .slice ka nd.kids.length kc, .int .i64 nd.lo, .int .i64 nd.hi] 110 (0, 0)) := heap_new _ _
  go_upto_region 6 with fail
  generalize w1.alloc (.cells #[.int .i64 nd.kind, .slice sa nd.bits.length sc, .slice ka nd.kids.length kc, .int .i64 nd.lo, .int .i64 nd.hi] 110) = w2 at *
  have d0 := box_cell hbx 0
  have d2 := box_cell hbx 2
  simp only [List.getElem?_toArray, List.getElem?_cons_zero, List.getElem?_cons_succ] at d0 d2
  clear hbx hb2
  go_cut [8] (fun v wx => ∃ pb : Bool, v = .bool pb ∧ (pb = true ↔ nd.kind ≠ 6 ∧ nd.kind ≠ 7) ∧ wx = w2)
  case first =>
    have Hq : Hid ((nd.kind != 7 && nd.kind != 6) = true ↔ nd.kind ≠ 6 ∧ nd.kind ≠ 7) := by show _ ↔ _; simp; exact And.comm
    go_wp2_with fail
    all_goals go_meet
    all_goals exact ⟨_, rfl, by first | exact Hq.out | (simp; exact And.comm) | (simp_all; done), rfl⟩
  case rest =>
    obtain ⟨pb, rfl, hpb, hwc⟩ := hcut
    obtain rfl := hwc
    have Hpb := hideIt hpb
    clear hpb
    go_wp2_with fail
    go_loopw [8, 43] (fun v i wr => ∃ (k : Nat) (b : Bool), k ≤ nd.kids.length ∧ i = .int .i64 k ∧ v = .bool b ∧ GrX X w eb mb ab nb lim A X wr nb A ∧ Ints X wr (.slice ka nd.kids.length kc) nd.kids ∧ (b = true ↔ (nd.kind ≠ 6 ∧ nd.kind ≠ 7) ∧ ∀ j (h : j < nd.kids.length), j < k → PlainR A nd.kids[j])) (fun _ i _ => nd.kids.length - (intOf i).toNat)
    case atStart => exact ⟨0, pb, by omega, rfl, rfl, HG2.out, Hk2.out, ⟨fun h => ⟨Hpb.out.1 h, fun j _ h => by omega⟩, fun h => Hpb.out.2 h.1⟩⟩
    case round =>
      obtain ⟨k, b, hk, rfl, rfl, hG, hI, hb⟩ := hrel
      have HG := hideIt hG
      have HI := hideIt hI
      by_cases hlt : k < nd.kids.length
      · have hlt' : (k : Int) < (nd.kids.length : Int) := by omega
        obtain ⟨ad, cap', e, _, _, h3⟩ := hI
        cases e
        obtain ⟨g, o, rfl, _, hc⟩ := h3 (fun e => by rw [e] at hlt; cases hlt)
        have ck := hc k hlt
        have Hv := hideIt (HKV.out _ (List.getElem_mem hlt))
        have Hnx : Hid (∀ b' : Bool, (b' = true ↔ b = true ∧ PlainR A nd.kids[k]) → (b' = true ↔ (nd.kind ≠ 6 ∧ nd.kind ≠ 7) ∧ ∀ j (h : j < nd.kids.length), j < k + 1 → PlainR A nd.kids[j])) := fun b' hb' => by
          rw [hb', hb]
          constructor
          · rintro ⟨⟨q1, q2⟩, q3⟩
            refine ⟨q1, fun j hj hjk => ?_⟩
            by_cases e : j = k
            · subst e; exact q3
            · exact q2 j hj (by omega)
          · rintro ⟨q1, q2⟩
            exact ⟨⟨q1, fun j hj hjk => q2 j hj (by omega)⟩, q2 k hlt (by omega)⟩
        generalize nd.kids[k] = y at *
        clear h3 hc hG hb
        cases b
        · go_wp2_with fail
          go_roundw
          case rel => exact ⟨k + 1, false, by omega, by go_num, rfl, HG.out, HI.out, Hnx.out false (by simp)⟩
          case measure => simp [intOf]; omega
        · go_wp2_with fail
          go_at_call 35
          refine (HIH.out _ Hv.out.2 y rfl wr HG.out.es Hv.out.1).mono ?_
          rintro e w3 ⟨b3, rfl, hb3, hg3⟩
          have HG3 := hideIt (HG.out.trans hg3)
          have HI3 := hideIt (hg3.seq HG.out.es HI.out)
          have Hb3 := hideIt hb3
          clear hb3 hg3
          go_wp2_with fail
          go_roundw
          case rel => exact ⟨k + 1, b3, by omega, by go_num, rfl, HG3.out, HI3.out, Hnx.out b3 (by rw [Hb3.out]; simp)⟩
          case measure => simp [intOf]; omega
      · obtain rfl : k = nd.kids.length := by omega
        have hb' : b = true ↔ PlainR A x := by
          rw [hb, Hpu.out]
          constructor
          · rintro ⟨q1, q2⟩
            exact ⟨q1, fun q hq => by obtain ⟨j, hj, rfl⟩ := List.getElem_of_mem hq; exact q2 j hj hj⟩
          · rintro ⟨q1, q2⟩
            exact ⟨q1, fun j hj _ => q2 _ (List.getElem_mem hj)⟩
        obtain ⟨w', hput, hgp⟩ := hG.es.putP Hx.out hb'
        obtain ⟨a1', a2', a3', he'⟩ := hG.ax.eng
        obtain ⟨⟨mm', b1'⟩, b2', b3', he2'⟩ := hG.en.eng
        have i1 : wr.cell? ⟨eb, 1, none⟩ = some (.bool mm') := box_cell he2' 1
        have i5 := box_cell he' 5
        simp only [List.getElem?_toArray, List.getElem?_cons_zero, List.getElem?_cons_succ] at i5
        have HP : Hid (EpPost x X w eb mb ab nb lim A (.returned (.bool b)) w') := ⟨b, rfl, hb', hG.trans hgp⟩
        have HP0 : Hid (EpPost x X w eb mb ab nb lim A (.returned (.bool b)) wr) := ⟨b, rfl, hb', hG⟩
        clear hG hI hb hb' hgp he' he2'
        cases mm'
        · go_wp2_with fail
          go_ret
          exact HP0.out
        · go_wp2_with fail
          go_ret
          exact HP.out

theorem Plain_walk {X : Nat → Prop} {eb mb ab nb : Nat} {lim : Int} {A : List Nd} : ∀ (m : Nat) (x : Int), x.toNat = m → ∀ (w : World), Es X w eb mb ab nb lim A → Valid A x →
    Calls Tryz.prog 35 #[.pointer (some ⟨eb, 0, none⟩), .int .i64 x] w (EpPost x X w eb mb ab nb lim A) := by
  intro m
  induction m using Nat.strongRecOn with
  | ind m ih =>
  intro x hm w hE hx
  subst hm
  obtain ⟨⟨mm, b1⟩, b2, b3, he2⟩ := hE.en.eng
  cases mm
  · exact Plain_F x ih w hE hx (box_cell he2 1)
  · exact Plain_T x ih w hE hx (box_cell he2 1)
end Go.Proofs.Qxb6500848aGreatDoor
