/-
  some, leaves, isSet.
-/
import Derived.Test.Qxb6500848aGreatDoorPtW
import Derived.Test.Qxb6500848aGreatDoorPlainU
import Derived.Test.Qxb6500848aGreatDoorMtA
namespace Go.Proofs.Qxb6500848aGreatDoor
open Go.RowKit Pl Go.Maps Go.Sort Go.Shelf Go.Lib
set_option maxRecDepth 100000

theorem own_base {w : World} {B B' : Nat} {v : Value} {n : Nat} {xs : List Value} {t : TypeId} (h : w.ownsRow B' t 1 v n xs) (hb : B ≤ B') : w.ownsRow B t 1 v n xs := by
  refine ⟨h.1, ?_⟩
  rcases h.2 with h | ⟨g, cap, cur, e, hg, r⟩
  · exact Or.inl h
  · exact Or.inr ⟨g, cap, cur, e, by omega, r⟩

theorem Clone_own {X : Nat → Prop} {w : World} {v : Value} {l : List Int} (h : Ints X w v l) (hz : Nz v) (hl : l.length ≤ 65536) :
    Calls Tryz.prog 84 #[v] w fun e w' => ∃ v', e = .returned v' ∧ Below w.heap.size w w' ∧ ((l = [] ∧ ∃ a c, v' = .slice a 0 c) ∨ (l ≠ [] ∧ w'.ownsRow w.heap.size 28 1 v' l.length (l.map encI))) := by
  obtain ⟨i0, hi0, hz0, hz1, hz2⟩ := info_parts info_id
  obtain ⟨ad, cap, rfl, h1, h2, h3⟩ := h
  cases ad with
  | none =>
    obtain ⟨z1, rfl⟩ := hz _ _ rfl
    have : l = [] := List.length_eq_zero_iff.1 z1
    subst this
    have he := eql_nil w
    clear hz h3 z1
    go_enter Tryz.func84, Tryz.ntmps84
    go_wp2
    go_ret
    exact ⟨_, rfl, Below.refl _ _, Or.inl ⟨by first | rfl | trivial, _, _, rfl⟩⟩
  | some a =>
    by_cases hl0 : l = []
    · subst hl0
      have he := eql_some a 0 cap w
      clear hz h3
      go_enter Tryz.func84, Tryz.ntmps84
      go_wp2
      go_ret
      exact ⟨_, rfl, alloc_below _, Or.inl ⟨by first | rfl | trivial, _, _, rfl⟩⟩
    · obtain ⟨g, o, ea, hxg, hc⟩ := h3 hl0
      cases ea
      have Hc := hideIt hc
      have Hl0 := hideIt hl0
      have he := eql_some ⟨g, o, none⟩ l.length cap w
      clear hz h3 hc hl0 hxg
      go_enter Tryz.func84, Tryz.ntmps84
      have hl1 : 0 < l.length := List.length_pos_iff.2 Hl0.out
      go_wp2_with (at_builtin; refine wpList_append_grows _ rfl (.tmp 5) (.tmp 6) 37 rfl 28 i0 (.int .i64 0) 1 8 Tryz.underlying37 hi0 hz0 hz1 hz2 rfl (by decide) (some ⟨w.heap.size, 0, none⟩) 0 0 [] rfl (fun e => by cases e) rfl (fun b e j u hu => by simp at hu) ⟨g, o, none⟩ l.length cap (l.map encI) rfl (by simp) (fun j u hu => by exact clone_cells Hc.out j u hu) (one_ints l) (by omega) (by unfold maxLen; omega) (by omega) ?_; intro v' w3 hown hg; rw [Nat.zero_add, List.nil_append] at hown; have HI := hideIt (own_base hown (B := w.heap.size) (by rw [Deep.nblk_alloc]; omega)); have HB : Hid (Below w.heap.size w w3) := ((alloc_below (w := w) (.cells #[] 28)).grown hg (by rw [Deep.nblk_alloc]; omega) (fun k e => by cases e)); clear hown hg)
      go_ret
      exact ⟨_, rfl, HB.out, Or.inr ⟨Hl0.out, HI.out⟩⟩


theorem nan_walk (a : Int) (w : World) : Calls Tryz.prog 146 #[.int .i64 a] w fun e w' => e = .returned (.bool false) ∧ w' = w := by
  have b0 : (a != a) = false := by simp
  go_enter Tryz.func146, Tryz.ntmps146
  go_wp2
  go_ret
  exact ⟨rfl, rfl⟩
theorem idless_walk (a b : Int) (h : ¬ a < b) (w : World) : Calls Tryz.prog 119 #[.int .i64 a, .int .i64 b] w fun e w' => e = .returned (.bool false) ∧ w' = w := by
  go_enter Tryz.func119, Tryz.ntmps119
  go_wp2_with (go_at_call 146; refine (nan_walk a _).mono ?_; rintro e w1 ⟨rfl, hw1⟩; obtain rfl := hw1.symm)
  go_ret
  exact ⟨by show Ending.returned (.bool (decide (a < b))) = _; rw [decide_eq_false (by omega)], rfl⟩

set_option maxHeartbeats 2000000 in
theorem sorted_walk {X : Nat → Prop} {w : World} {v : Value} {l : List Int} (h : Ints X w v l) (hl : l.length ≤ 65536) (hr : l.Pairwise (· < ·)) :
    Calls Tryz.prog 88 #[v] w fun e w' => e = .returned (.bool true) ∧ Below w.heap.size w w' := by
  have Hi := hideIt h
  have Hr := hideIt hr
  obtain ⟨ad, cap, rfl, _, _, _⟩ := h
  clear hr
  go_enter Tryz.func88, Tryz.ntmps88
  go_wp2_with fail
  go_loopw [3] (fun i wr => ∃ k : Int, -1 ≤ k ∧ k < l.length ∧ i = .int .i64 k ∧ Below w.heap.size w wr) (fun i _ => (intOf i).toNat)
  case atStart => exact ⟨(l.length : Int) - 1, by omega, by omega, rfl, Below.refl _ _⟩
  case round =>
    obtain ⟨k, hk0, hk1, rfl, hb⟩ := hrel
    have HB := hideIt hb
    by_cases hpos : 0 < k
    · obtain ⟨a4, c4, e4, _, _, h4⟩ := Hi.out.below hb (Nat.le_refl _)
      cases e4
      obtain ⟨g, o, rfl, _, hc⟩ := h4 (fun e => by rw [e] at hk1; simp at hk1; omega)
      obtain ⟨n, rfl⟩ : ∃ n : Nat, k = (n : Int) + 1 := ⟨(k - 1).toNat, by omega⟩
      have hn1 : n + 1 < l.length := by omega
      have hn0 : n < l.length := by omega
      have c1 := hc (n + 1) hn1
      have c0 := hc n hn0
      have hlt : ¬ l[n + 1] < l[n] := by
        have := List.pairwise_iff_getElem.1 Hr.out n (n + 1) hn0 hn1 (by omega)
        omega
      have Hls := hideIt (idless_walk _ _ hlt)
      generalize l[n + 1] = p at *
      generalize l[n] = q at *
      clear h4 hc hb hlt
      have hi1 : (n : Int) + 1 < (l.length : Int) := by omega
      have hi3 : (n : Int) < (l.length : Int) := by omega
      have hi4 : (0 : Int) ≤ (n : Int) + 1 := by omega
      have hi5 : (0 : Int) ≤ (n : Int) := by omega
      have ht1 : ((n : Int) + 1).toNat = n + 1 := by omega
      have a8 : IntKind.i64.wrap ((n : Int) + 1 - 1) = (n : Int) := by simp [IntKind.wrap, IntKind.bits, IntKind.signed]; omega
      have a9 : IntKind.i64.wrap (n : Int) = (n : Int) := by simp [IntKind.wrap, IntKind.bits, IntKind.signed]; omega
      go_wp2_with fail
      go_region_held3 (fun w' => w'.cell? ⟨g, o + (n + 1), none⟩ = some (.int .i64 p) ∧ w'.cell? ⟨g, o + n, none⟩ = some (.int .i64 q)) (go_keep)
        (first | (go_at_call 119; refine (Hls.out _).mono ?_; rintro e w5 ⟨rfl, hw5⟩; obtain rfl := hw5.symm))
      all_goals go_wp2_with fail
      all_goals go_roundw
      all_goals first | exact ⟨(n : Int), by omega, by omega, by go_num, HB.out.trans ((below_d _).mono HB.out.size)⟩ | (simp [intOf]; done) | (simp [intOf]; omega)
    · clear hb
      go_wp2_with fail
      go_ret
      exact ⟨rfl, HB.out⟩

set_option maxHeartbeats 2000000 in
/-- m.some. -/
theorem some_walk {X : Nat → Prop} {w : World} {kb ab nb : Nat} {lim : Int} {A : List Nd} (hS : St X w ab nb lim A) (hk : w.cell? ⟨kb, 0, none⟩ = some (.pointer (some ⟨ab, 0, none⟩))) {pv : Value} {ps : List Int} (hp : Ints X w pv ps) (hpl : ps.length ≤ 65536) (hpv : ∀ p ∈ ps, Valid A p) {wv : Value} {wd : Word} (hw : Ints X w wv wd) (hwl : wd.length ≤ 1000) :
    Calls Tryz.prog 40 #[.pointer (some ⟨kb, 0, none⟩), pv, wv] w (Says (∃ p ∈ ps, Alph wd ∧ lang A p wd) w) := by
  have HS := hideIt hS
  have Hp := hideIt hp
  have Hw := hideIt hw
  have Hpv := hideIt hpv
  have lk := cell_lt hk
  have Hk := hideIt hk
  obtain ⟨pa, pc, rfl, _, _, _⟩ := hp
  obtain ⟨wa, wc, rfl, _, _, _⟩ := hw
  clear hS hk hpv
  go_enter Tryz.func40, Tryz.ntmps40
  go_wp2_with fail
  go_loopw [11] (fun i wr => ∃ (k : Nat), k ≤ ps.length ∧ i = .int .i64 k ∧ Below w.heap.size w wr ∧ ∀ j (h : j < ps.length), j < k → ¬ (Alph wd ∧ lang A ps[j] wd)) (fun i _ => ps.length - (intOf i).toNat)
  case atStart => exact ⟨0, by omega, rfl, Below.refl _ _, fun j _ h => by omega⟩
  case round =>
    obtain ⟨k, hk, rfl, hb, hall⟩ := hrel
    have HB := hideIt hb
    by_cases hlt : k < ps.length
    · have hlt' : (k : Int) < (ps.length : Int) := by omega
      obtain ⟨a4, c4, e4, _, _, h4⟩ := Hp.out.below hb (Nat.le_refl _)
      cases e4
      obtain ⟨g4, o4, rfl, _, hc4⟩ := h4 (fun e => by rw [e] at hlt; cases hlt)
      have cj := hc4 k hlt
      have Hvk := hideIt (Hpv.out _ (List.getElem_mem hlt))
      have Hin : Hid (ps[k] ∈ ps) := List.getElem_mem hlt
      have Hnext : Hid (¬ (Alph wd ∧ lang A ps[k] wd) → ∀ j (h : j < ps.length), j < k + 1 → ¬ (Alph wd ∧ lang A ps[j] wd)) := fun hp j hj hjk => by
        by_cases e : j = k
        · subst e; exact hp
        · exact hall j hj (by omega)
      have kc := (hb.cell (p := ⟨kb, 0, none⟩) lk).trans Hk.out
      generalize ps[k] = y at *
      clear h4 hc4 hall hb
      go_wp2_with fail
      go_at_call 41
      refine (has_walk (HS.out.below HB.out (Nat.le_refl _)) (Hw.out.below HB.out (Nat.le_refl _)) hwl Hvk.out).mono ?_
      rintro e w2 ⟨b, rfl, hb, hB⟩
      have HB2 := hideIt (HB.out.trans (hB.mono HB.out.size))
      have Hb := hideIt hb
      clear hb hB
      cases b
      · go_wp2_with fail
        go_roundw
        case rel => exact ⟨k + 1, by omega, by go_num, HB2.out, Hnext.out (fun h => absurd (Hb.out.2 h) (by simp))⟩
        case measure => simp [intOf]; omega
      · go_wp2_with fail
        go_ret
        exact ⟨true, rfl, ⟨fun _ => ⟨_, Hin.out, Hb.out.1 (by trivial)⟩, fun _ => rfl⟩, HB2.out⟩
    · obtain rfl : k = ps.length := by omega
      have Hno : Hid (¬ ∃ p ∈ ps, Alph wd ∧ lang A p wd) := fun ⟨p, hp, hl'⟩ => by
        obtain ⟨j, hj, rfl⟩ := List.getElem_of_mem hp
        exact hall j hj hj hl'
      clear hb hall
      go_wp2_with fail
      go_ret
      exact ⟨false, rfl, ⟨fun h => (by cases h), fun h => (Hno.out h).elim⟩, HB.out⟩

theorem take_sumv {A : List Nd} {l : List Int} (k : Nat) : ((l.take k).map (lv A)).sum ≤ (l.map (lv A)).sum := by
  have : l = l.take k ++ l.drop k := (List.take_append_drop k l).symm
  conv => rhs; rw [this]
  rw [List.map_append, List.sum_append]
  omega

set_option maxHeartbeats 4000000 in
/-- m.leaves. -/
theorem leaves_walk {X : Nat → Prop} {kb ab nb : Nat} {lim : Int} {A : List Nd} : ∀ (m : Nat) (x : Int), x.toNat = m → ∀ (w : World), St X w ab nb lim A → w.cell? ⟨kb, 0, none⟩ = some (.pointer (some ⟨ab, 0, none⟩)) → Valid A x → lv A x ≤ 1000000000 →
    Calls Tryz.prog 38 #[.pointer (some ⟨kb, 0, none⟩), .int .i64 x] w fun e w' => e = .returned (.int .i64 (lv A x : Nat)) ∧ Below w.heap.size w w' := by
  intro m
  induction m using Nat.strongRecOn with
  | ind m ih =>
  intro x hm w hS hk hx hlv
  subst hm
  obtain ⟨cap, n0, _, n1⟩ := hS.ar.node
  obtain ⟨sv, kv, hnc⟩ := n1 x hx
  have hfew := few64 hS.ar.wf hS.ar.len hx
  have HKV : Hid (∀ k ∈ (nodeAt A x).kids, (Valid A k ∧ k.toNat < x.toNat) ∧ lv A k ≤ 1000000000) := fun k hk => ⟨hS.ar.wf.kidValid hx hk, by have h1 := sum_mem (f := lv A) hk; have h2 := lv_unfold hS.ar.wf hx; omega⟩
  have Hsum : Hid (∀ k, lf (nodeAt A x) + (((nodeAt A x).kids.take k).map (lv A)).sum ≤ lv A x) := fun k => by rw [lv_unfold hS.ar.wf hx]; exact Nat.add_le_add_left (take_sumv k) _
  have hend : lf (nodeAt A x) + (((nodeAt A x).kids.take (nodeAt A x).kids.length).map (lv A)).sum = lv A x := by rw [List.take_length, lv_unfold hS.ar.wf hx]
  have Hend := hideIt hend
  have HIH := hideIt ih
  have HS := hideIt hS
  have Hx := hideIt hx
  have Hnc := hideIt hnc
  have Hk0 := hideIt hnc.kids
  have Hk := hideIt hk
  have lk := cell_lt hk
  obtain ⟨N, hN⟩ : ∃ N, N = lv A x := ⟨_, rfl⟩
  have HN := hideIt hN
  rw [← hN] at hlv ⊢
  obtain ⟨_, _, _, _, _, ⟨ka, kc, rfl, _, _, _⟩, ⟨sa, sc, rfl, _, _, _⟩⟩ := hnc
  clear hS hx n1 ih n0 hend hN
  go_enter Tryz.func38, Tryz.ntmps38
  go_wp2_with fail
  go_at_call 82
  refine (node_walk _ HS.out.ar x Hx.out Hnc.out).mono ?_
  rintro e w1 ⟨rfl, hb1⟩
  have hb2 : Below w.heap.size w (w1.alloc (.cells #[.int .i64 (nodeAt A x).kind, .slice sa (nodeAt A x).bits.length sc, .slice ka (nodeAt A x).kids.length kc, .int .i64 (nodeAt A x).lo, .int .i64 (nodeAt A x).hi] 110)) := hb1.alloc hb1.size _
  have HB2 := hideIt hb2
  have Hk2 := hideIt (Hk0.out.below hb2 (Nat.le_refl _))
  clear Hnc hb1 Hk0 hk
  generalize nodeAt A x = nd at *
  have hbx : (w1.alloc (.cells #[.int .i64 nd.kind, .slice sa nd.bits.length sc, .slice ka nd.kids.length kc, .int .i64 nd.lo, .int .i64 nd.hi] 110)).heap[w1.heap.size]? = some (.cells #[.int .i64 nd.kind, .slice sa nd.bits.length sc, .slice ka nd.kids.length kc, .int .i64 nd.lo, .int .i64 nd.hi] 110 (0, 0)) := heap_new _ _
  go_upto_region 3 with fail
  generalize w1.alloc (.cells #[.int .i64 nd.kind, .slice sa nd.bits.length sc, .slice ka nd.kids.length kc, .int .i64 nd.lo, .int .i64 nd.hi] 110) = w2 at *
  have d0 := box_cell hbx 0
  have d2 := box_cell hbx 2
  simp only [List.getElem?_toArray, List.getElem?_cons_zero, List.getElem?_cons_succ] at d0 d2
  clear hbx hb2
  by_cases k3 : nd.kind = 3
  · have b3 : (nd.kind == 3) = true := by simp [k3]
    have elf : lf nd = 1 := by unfold lf; rw [if_pos (Or.inr k3)]
    have Helf := hideIt elf
    clear elf k3
    go_wp2_with fail
    go_loopw [6, 26] (fun v i wr => ∃ (k n : Nat), k ≤ nd.kids.length ∧ i = .int .i64 k ∧ v = .int .i64 n ∧ Hid (n = lf nd + ((nd.kids.take k).map (lv A)).sum) ∧ Below w2.heap.size w2 wr) (fun _ i _ => nd.kids.length - (intOf i).toNat)
    case atStart => exact ⟨0, 1, by omega, rfl, rfl, by show 1 = _; rw [Helf.out]; simp, Below.refl _ _⟩
    case round =>
      obtain ⟨k, n, hk, rfl, rfl, hn, hb⟩ := hrel
      have HB := hideIt hb
      have hn0 : n ≤ N := by have h1 := hn.out; have h2 := Hsum.out k; have h3 := HN.out; omega
      by_cases hlt : k < nd.kids.length
      · have hlt' : (k : Int) < (nd.kids.length : Int) := by omega
        obtain ⟨a4, c4, e4, _, _, h4⟩ := Hk2.out.below hb (Nat.le_refl _)
        cases e4
        obtain ⟨g4, o4, rfl, _, hc4⟩ := h4 (fun e => by rw [e] at hlt; cases hlt)
        have cj := hc4 k hlt
        have Hkv := hideIt (HKV.out _ (List.getElem_mem hlt))
        have hnx : n + lv A nd.kids[k] = lf nd + ((nd.kids.take (k + 1)).map (lv A)).sum := by
          have h1 := hn.out
          rw [List.take_succ_eq_append_getElem hlt, List.map_append, List.sum_append, List.map_cons, List.map_nil, List.sum_cons, List.sum_nil]
          omega
        have hn1 : n + lv A nd.kids[k] ≤ N := by have h2 := Hsum.out (k + 1); have h3 := HN.out; omega
        have Hnx := hideIt hnx
        have HBw := hideIt (HB2.out.trans (hb.mono HB2.out.size))
        have kc' := (HBw.out.cell (p := ⟨kb, 0, none⟩) lk).trans Hk.out
        generalize nd.kids[k] = y at *
        generalize hly : lv A y = p at *
        clear h4 hc4 hn hb hnx
        go_wp2_with fail
        go_at_call 38
        refine (HIH.out y.toNat Hkv.out.1.2 y rfl _ (HS.out.below HBw.out (Nat.le_refl _)) kc' Hkv.out.1.1 (by rw [hly]; exact Hkv.out.2)).mono ?_
        rintro e w4 ⟨rfl, hb4⟩
        rw [hly]
        have HB4 := hideIt (HB.out.trans (hb4.mono HB.out.size))
        clear hb4 hly
        go_wp2_with fail
        go_roundw
        case rel => exact ⟨k + 1, n + p, by omega, by go_num, by go_num, Hnx.out, HB4.out⟩
        case measure => simp [intOf]; omega
      · obtain rfl : k = nd.kids.length := by omega
        obtain rfl : n = N := by have h1 := hn.out; have h2 := Hend.out; have h3 := HN.out; omega
        clear hn hb
        go_wp2_with fail
        go_ret
        exact ⟨rfl, HB2.out.trans (HB.out.mono HB2.out.size)⟩
  · have b3 : (nd.kind == 3) = false := by simp [k3]
    by_cases k2 : nd.kind = 2
    · have b2 : (nd.kind == 2) = true := by simp [k2]
      have elf : lf nd = 1 := by unfold lf; rw [if_pos (Or.inl k2)]
      have Helf := hideIt elf
      clear elf k2 k3
      go_wp2_with fail
      go_loopw [6, 26] (fun v i wr => ∃ (k n : Nat), k ≤ nd.kids.length ∧ i = .int .i64 k ∧ v = .int .i64 n ∧ Hid (n = lf nd + ((nd.kids.take k).map (lv A)).sum) ∧ Below w2.heap.size w2 wr) (fun _ i _ => nd.kids.length - (intOf i).toNat)
      case atStart => exact ⟨0, 1, by omega, rfl, rfl, by show 1 = _; rw [Helf.out]; simp, Below.refl _ _⟩
      case round =>
        obtain ⟨k, n, hk, rfl, rfl, hn, hb⟩ := hrel
        have HB := hideIt hb
        have hn0 : n ≤ N := by have h1 := hn.out; have h2 := Hsum.out k; have h3 := HN.out; omega
        by_cases hlt : k < nd.kids.length
        · have hlt' : (k : Int) < (nd.kids.length : Int) := by omega
          obtain ⟨a4, c4, e4, _, _, h4⟩ := Hk2.out.below hb (Nat.le_refl _)
          cases e4
          obtain ⟨g4, o4, rfl, _, hc4⟩ := h4 (fun e => by rw [e] at hlt; cases hlt)
          have cj := hc4 k hlt
          have Hkv := hideIt (HKV.out _ (List.getElem_mem hlt))
          have hnx : n + lv A nd.kids[k] = lf nd + ((nd.kids.take (k + 1)).map (lv A)).sum := by
            have h1 := hn.out
            rw [List.take_succ_eq_append_getElem hlt, List.map_append, List.sum_append, List.map_cons, List.map_nil, List.sum_cons, List.sum_nil]
            omega
          have hn1 : n + lv A nd.kids[k] ≤ N := by have h2 := Hsum.out (k + 1); have h3 := HN.out; omega
          have Hnx := hideIt hnx
          have HBw := hideIt (HB2.out.trans (hb.mono HB2.out.size))
          have kc' := (HBw.out.cell (p := ⟨kb, 0, none⟩) lk).trans Hk.out
          generalize nd.kids[k] = y at *
          generalize hly : lv A y = p at *
          clear h4 hc4 hn hb hnx
          go_wp2_with fail
          go_at_call 38
          refine (HIH.out y.toNat Hkv.out.1.2 y rfl _ (HS.out.below HBw.out (Nat.le_refl _)) kc' Hkv.out.1.1 (by rw [hly]; exact Hkv.out.2)).mono ?_
          rintro e w4 ⟨rfl, hb4⟩
          rw [hly]
          have HB4 := hideIt (HB.out.trans (hb4.mono HB.out.size))
          clear hb4 hly
          go_wp2_with fail
          go_roundw
          case rel => exact ⟨k + 1, n + p, by omega, by go_num, by go_num, Hnx.out, HB4.out⟩
          case measure => simp [intOf]; omega
        · obtain rfl : k = nd.kids.length := by omega
          obtain rfl : n = N := by have h1 := hn.out; have h2 := Hend.out; have h3 := HN.out; omega
          clear hn hb
          go_wp2_with fail
          go_ret
          exact ⟨rfl, HB2.out.trans (HB.out.mono HB2.out.size)⟩
    · have b2 : (nd.kind == 2) = false := by simp [k2]
      have elf : lf nd = 0 := by unfold lf; rw [if_neg (by omega)]
      have Helf := hideIt elf
      clear elf k2 k3
      go_wp2_with fail
      go_loopw [6, 26] (fun v i wr => ∃ (k n : Nat), k ≤ nd.kids.length ∧ i = .int .i64 k ∧ v = .int .i64 n ∧ Hid (n = lf nd + ((nd.kids.take k).map (lv A)).sum) ∧ Below w2.heap.size w2 wr) (fun _ i _ => nd.kids.length - (intOf i).toNat)
      case atStart => exact ⟨0, 0, by omega, rfl, rfl, by show 0 = _; rw [Helf.out]; simp, Below.refl _ _⟩
      case round =>
        obtain ⟨k, n, hk, rfl, rfl, hn, hb⟩ := hrel
        have HB := hideIt hb
        have hn0 : n ≤ N := by have h1 := hn.out; have h2 := Hsum.out k; have h3 := HN.out; omega
        by_cases hlt : k < nd.kids.length
        · have hlt' : (k : Int) < (nd.kids.length : Int) := by omega
          obtain ⟨a4, c4, e4, _, _, h4⟩ := Hk2.out.below hb (Nat.le_refl _)
          cases e4
          obtain ⟨g4, o4, rfl, _, hc4⟩ := h4 (fun e => by rw [e] at hlt; cases hlt)
          have cj := hc4 k hlt
          have Hkv := hideIt (HKV.out _ (List.getElem_mem hlt))
          have hnx : n + lv A nd.kids[k] = lf nd + ((nd.kids.take (k + 1)).map (lv A)).sum := by
            have h1 := hn.out
            rw [List.take_succ_eq_append_getElem hlt, List.map_append, List.sum_append, List.map_cons, List.map_nil, List.sum_cons, List.sum_nil]
            omega
          have hn1 : n + lv A nd.kids[k] ≤ N := by have h2 := Hsum.out (k + 1); have h3 := HN.out; omega
          have Hnx := hideIt hnx
          have HBw := hideIt (HB2.out.trans (hb.mono HB2.out.size))
          have kc' := (HBw.out.cell (p := ⟨kb, 0, none⟩) lk).trans Hk.out
          generalize nd.kids[k] = y at *
          generalize hly : lv A y = p at *
          clear h4 hc4 hn hb hnx
          go_wp2_with fail
          go_at_call 38
          refine (HIH.out y.toNat Hkv.out.1.2 y rfl _ (HS.out.below HBw.out (Nat.le_refl _)) kc' Hkv.out.1.1 (by rw [hly]; exact Hkv.out.2)).mono ?_
          rintro e w4 ⟨rfl, hb4⟩
          rw [hly]
          have HB4 := hideIt (HB.out.trans (hb4.mono HB.out.size))
          clear hb4 hly
          go_wp2_with fail
          go_roundw
          case rel => exact ⟨k + 1, n + p, by omega, by go_num, by go_num, Hnx.out, HB4.out⟩
          case measure => simp [intOf]; omega
        · obtain rfl : k = nd.kids.length := by omega
          obtain rfl : n = N := by have h1 := hn.out; have h2 := Hend.out; have h3 := HN.out; omega
          clear hn hb
          go_wp2_with fail
          go_ret
          exact ⟨rfl, HB2.out.trans (HB.out.mono HB2.out.size)⟩
end Go.Proofs.Qxb6500848aGreatDoor
