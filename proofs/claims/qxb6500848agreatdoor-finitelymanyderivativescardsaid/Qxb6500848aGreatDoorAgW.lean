/-
  agrees.
-/
import Derived.Test.Qxb6500848aGreatDoorKnW
namespace Go.Proofs.Qxb6500848aGreatDoor
open Go.RowKit Pl Go.Maps
set_option maxRecDepth 100000

set_option maxHeartbeats 8000000 in
theorem agrees_walk {B : Nat} {X : Nat → Prop} {w : World} {m : Nat} {K L : List Int} {v : Value} {wh kw : Bool} {limit : Int} (hk : Kn B X w m K) (hL : Ints X w v L) (hLn : L.Nodup) (hLl : L.length ≤ 65536) (_hKl : K.length ≤ 65536) (hLv : ∀ s ∈ L, 0 ≤ s ∧ s ≤ 65536) (_hl0 : -1 ≤ limit) (_hl1 : limit ≤ 120)
    (h1 : wh = (kw && decide ((K.length : Int) ≤ limit))) (h2 : wh = true → L.length = K.length) (h3 : wh = false → (L.length : Int) = max limit 0 + 1) (h4 : kw = true → ∀ s ∈ L, s ∈ K) :
    Calls Tryz.prog 48 #[v, .bool wh, .int .i64 limit, .map (some m), .bool kw] w fun e w' => e = .returned (.bool true) ∧ Below w.heap.size w w' := by
  have HK := hideIt hk
  have HL := hideIt hL
  have HLn := hideIt hLn
  have HLv := hideIt hLv
  have HK0 : Hid (Kn w.heap.size (fun _ => False) (w.alloc (.map #[] 0)) w.heap.size []) := Kn.new (X := fun _ => False) w (Nat.le_refl _) id
  have hlen : ∀ ty : TypeId, (Builtin.len_ #[82] ty #[.map (some m)]).run Tryz.prog w = .ok (.int .i64 K.length) w := hk.len
  obtain ⟨va, vc, rfl, _, _, _⟩ := hL
  have hmm := @run_makeMap Tryz.prog
  clear hk hLn hLv
  cases kw with
  | true =>
    have H4 := hideIt (h4 rfl)
    clear h4
    by_cases hle : (K.length : Int) ≤ limit
    · have e1 : wh = true := by rw [h1]; simp [hle]
      subst e1
      have eL := h2 rfl
      have eL' : (L.length : Int) = (K.length : Int) := by omega
      clear h1 h2 h3 eL
      go_enter Tryz.func48, Tryz.ntmps48
      go_wp2_with fail
      go_loopw [46] (fun i wr => ∃ k : Nat, k ≤ L.length ∧ i = .int .i64 k ∧ Kn w.heap.size (fun _ => False) wr w.heap.size (L.take k).reverse ∧ Below w.heap.size w wr) (fun i _ => L.length - (intOf i).toNat)
      case atStart => exact ⟨0, by omega, rfl, by simpa using HK0.out, alloc_below _⟩
      case round =>
          obtain ⟨k, hk, rfl, hkn, hb⟩ := hrel
          have Hb := hideIt hb
          by_cases hlt : k < L.length
          · have hlt' : (k : Int) < (L.length : Int) := by omega
            obtain ⟨a4, c4, e4, _, _, h4⟩ := HL.out.below hb (Nat.le_refl _)
            cases e4
            obtain ⟨g4, o4, rfl, _, hc4⟩ := h4 (fun e => by rw [e] at hlt; cases hlt)
            have cj := hc4 k hlt
            have hs := HLv.out _ (List.getElem_mem hlt)
            have hnot : L[k] ∉ (L.take k).reverse := fun h => by
              have hn := (List.take_sublist (k + 1) L).nodup HLn.out
              rw [List.take_succ_eq_append_getElem hlt] at hn
              exact (List.nodup_append.1 hn).2.2 _ (List.mem_reverse.1 h) _ (by simp) rfl
            have lk1 := hkn.look hs.1 hs.2
            rw [decide_eq_false hnot] at lk1
            have lk2 := (HK.out.below hb).look hs.1 hs.2
            rw [decide_eq_true (H4.out _ (List.getElem_mem hlt))] at lk2
            obtain ⟨w', hput, hkn', hx'⟩ := hkn.put hs.1 hs.2 hnot (by simp; omega)
            have hkn2 : Kn w.heap.size (fun _ => False) w' w.heap.size (L.take (k + 1)).reverse := by
              rw [List.take_succ_eq_append_getElem hlt, List.reverse_append]
              exact hkn'
            have Hkn' := hideIt hkn2
            have Hb' : Hid (Below w.heap.size w w') := hb.trans (hx'.below' hb.size (fun q hq e => by omega))
            generalize L[k] = s at *
            clear h4 hc4 hnot hkn hkn' hkn2 hx' hb hs
            go_wp2_with fail
            go_roundw
            case rel => exact ⟨k + 1, by omega, by go_num, Hkn'.out, Hb'.out⟩
            case measure => simp [intOf]; omega
          · obtain rfl : k = L.length := by omega
            clear hkn hb
            go_wp2_with fail
            go_ret
            exact ⟨rfl, Hb.out⟩
    · have e1 : wh = false := by rw [h1]; simp; omega
      subst e1
      have eL := h3 rfl
      clear h1 h2 h3
      go_enter Tryz.func48, Tryz.ntmps48
      go_wp2_with fail
      go_loopw [46] (fun i wr => ∃ k : Nat, k ≤ L.length ∧ i = .int .i64 k ∧ Kn w.heap.size (fun _ => False) wr w.heap.size (L.take k).reverse ∧ Below w.heap.size w wr) (fun i _ => L.length - (intOf i).toNat)
      case atStart => exact ⟨0, by omega, rfl, by simpa using HK0.out, alloc_below _⟩
      case round =>
          obtain ⟨k, hk, rfl, hkn, hb⟩ := hrel
          have Hb := hideIt hb
          by_cases hlt : k < L.length
          · have hlt' : (k : Int) < (L.length : Int) := by omega
            obtain ⟨a4, c4, e4, _, _, h4⟩ := HL.out.below hb (Nat.le_refl _)
            cases e4
            obtain ⟨g4, o4, rfl, _, hc4⟩ := h4 (fun e => by rw [e] at hlt; cases hlt)
            have cj := hc4 k hlt
            have hs := HLv.out _ (List.getElem_mem hlt)
            have hnot : L[k] ∉ (L.take k).reverse := fun h => by
              have hn := (List.take_sublist (k + 1) L).nodup HLn.out
              rw [List.take_succ_eq_append_getElem hlt] at hn
              exact (List.nodup_append.1 hn).2.2 _ (List.mem_reverse.1 h) _ (by simp) rfl
            have lk1 := hkn.look hs.1 hs.2
            rw [decide_eq_false hnot] at lk1
            have lk2 := (HK.out.below hb).look hs.1 hs.2
            rw [decide_eq_true (H4.out _ (List.getElem_mem hlt))] at lk2
            obtain ⟨w', hput, hkn', hx'⟩ := hkn.put hs.1 hs.2 hnot (by simp; omega)
            have hkn2 : Kn w.heap.size (fun _ => False) w' w.heap.size (L.take (k + 1)).reverse := by
              rw [List.take_succ_eq_append_getElem hlt, List.reverse_append]
              exact hkn'
            have Hkn' := hideIt hkn2
            have Hb' : Hid (Below w.heap.size w w') := hb.trans (hx'.below' hb.size (fun q hq e => by omega))
            generalize L[k] = s at *
            clear h4 hc4 hnot hkn hkn' hkn2 hx' hb hs
            go_wp2_with fail
            go_roundw
            case rel => exact ⟨k + 1, by omega, by go_num, Hkn'.out, Hb'.out⟩
            case measure => simp [intOf]; omega
          · obtain rfl : k = L.length := by omega
            clear hkn hb
            go_wp2_with fail
            go_ret
            exact ⟨rfl, Hb.out⟩
  | false =>
    have e1 : wh = false := by rw [h1]; rfl
    subst e1
    have eL := h3 rfl
    clear h1 h2 h3 h4
    go_enter Tryz.func48, Tryz.ntmps48
    go_wp2_with fail
    go_loopw [46] (fun i wr => ∃ k : Nat, k ≤ L.length ∧ i = .int .i64 k ∧ Kn w.heap.size (fun _ => False) wr w.heap.size (L.take k).reverse ∧ Below w.heap.size w wr) (fun i _ => L.length - (intOf i).toNat)
    case atStart => exact ⟨0, by omega, rfl, by simpa using HK0.out, alloc_below _⟩
    case round =>
        obtain ⟨k, hk, rfl, hkn, hb⟩ := hrel
        have Hb := hideIt hb
        by_cases hlt : k < L.length
        · have hlt' : (k : Int) < (L.length : Int) := by omega
          obtain ⟨a4, c4, e4, _, _, h4⟩ := HL.out.below hb (Nat.le_refl _)
          cases e4
          obtain ⟨g4, o4, rfl, _, hc4⟩ := h4 (fun e => by rw [e] at hlt; cases hlt)
          have cj := hc4 k hlt
          have hs := HLv.out _ (List.getElem_mem hlt)
          have hnot : L[k] ∉ (L.take k).reverse := fun h => by
            have hn := (List.take_sublist (k + 1) L).nodup HLn.out
            rw [List.take_succ_eq_append_getElem hlt] at hn
            exact (List.nodup_append.1 hn).2.2 _ (List.mem_reverse.1 h) _ (by simp) rfl
          have lk1 := hkn.look hs.1 hs.2
          rw [decide_eq_false hnot] at lk1
          obtain ⟨w', hput, hkn', hx'⟩ := hkn.put hs.1 hs.2 hnot (by simp; omega)
          have hkn2 : Kn w.heap.size (fun _ => False) w' w.heap.size (L.take (k + 1)).reverse := by
            rw [List.take_succ_eq_append_getElem hlt, List.reverse_append]
            exact hkn'
          have Hkn' := hideIt hkn2
          have Hb' : Hid (Below w.heap.size w w') := hb.trans (hx'.below' hb.size (fun q hq e => by omega))
          generalize L[k] = s at *
          clear h4 hc4 hnot hkn hkn' hkn2 hx' hb hs
          go_wp2_with fail
          go_roundw
          case rel => exact ⟨k + 1, by omega, by go_num, Hkn'.out, Hb'.out⟩
          case measure => simp [intOf]; omega
        · obtain rfl : k = L.length := by omega
          clear hkn hb
          go_wp2_with fail
          go_ret
          exact ⟨rfl, Hb.out⟩
end Go.Proofs.Qxb6500848aGreatDoor
