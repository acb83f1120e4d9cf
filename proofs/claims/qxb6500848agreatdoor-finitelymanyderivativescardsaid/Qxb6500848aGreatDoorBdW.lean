/-
  plus, times, rounds, width, PartialBound; a map's length.
-/
import Derived.Test.Qxb6500848aGreatDoorPlainG
import Derived.Test.Qxb6500848aGreatDoorKnW
namespace Go.Proofs.Qxb6500848aGreatDoor
open Go.RowKit Pl Go.Maps
set_option maxRecDepth 100000

theorem plus_walk (a b : Int) (ha : 0 ≤ a) (ha1 : a ≤ 4611686018427387904) (hb : 0 ≤ b) (hb1 : b ≤ 4611686018427387904) (w : World) :
    Calls Tryz.prog 92 #[.int .i64 a, .int .i64 b] w fun e w' => e = .returned (.int .i64 (plusZ a b)) ∧ w' = w := by
  have hz : plusZ a b = if 4611686018427387904 - b ≤ a then 4611686018427387904 else a + b := by unfold plusZ TM; rfl
  rw [hz]
  by_cases h : 4611686018427387904 - b ≤ a
  · rw [if_pos h]
    clear hz
    go_enter Tryz.func92, Tryz.ntmps92
    go_wp2
    go_ret
    exact ⟨rfl, rfl⟩
  · rw [if_neg h]
    clear hz
    go_enter Tryz.func92, Tryz.ntmps92
    go_wp2
    go_ret
    exact ⟨rfl, rfl⟩

theorem times_walk (a b : Int) (ha : 0 ≤ a) (ha1 : a ≤ 4611686018427387904) (hb : 0 ≤ b) (w : World) :
    Calls Tryz.prog 126 #[.int .i64 a, .int .i64 b] w fun e w' => e = .returned (.int .i64 (timesZ a b)) ∧ w' = w := by
  by_cases h0 : a = 0
  · subst h0
    have e : timesZ 0 b = 0 := by unfold timesZ; simp
    rw [e]
    clear e
    go_enter Tryz.func126, Tryz.ntmps126
    go_wp2
    go_ret
    exact ⟨rfl, rfl⟩
  · have b0 : (a != 0) = true := by simp [h0]
    have hq : Int.tdiv (4611686018427387904 + a - 1) a = (4611686018427387904 + a - 1) / a := Int.tdiv_eq_ediv_of_nonneg (by omega)
    have hz : timesZ a b = if (4611686018427387904 + a - 1) / a ≤ b then 4611686018427387904 else a * b := by
      unfold timesZ TM
      by_cases h : (4611686018427387904 + a - 1) / a ≤ b
      · rw [if_pos ⟨h0, h⟩, if_pos h]
      · rw [if_neg (fun e => h e.2), if_neg h]
    rw [hz]
    clear hz
    have hd0 : 0 ≤ (4611686018427387904 + a - 1) / a := Int.ediv_nonneg (by omega) ha
    have hd1 : (4611686018427387904 + a - 1) / a ≤ 4611686018427387904 + a - 1 := Int.ediv_le_self _ (by omega)
    have hwr : wrap64 ((wrap64 (wrap64 (4611686018427387904 + a) - 1)).tdiv a) = (4611686018427387904 + a - 1) / a := by
      have e1 : wrap64 (wrap64 (4611686018427387904 + a) - 1) = 4611686018427387904 + a - 1 := by unfold wrap64; omega
      rw [e1, hq]
      unfold wrap64
      omega
    clear hq
    by_cases h : (4611686018427387904 + a - 1) / a ≤ b
    · rw [if_pos h]
      go_enter Tryz.func126, Tryz.ntmps126
      go_wp2
      go_ret
      exact ⟨rfl, rfl⟩
    · rw [if_neg h]
      have hm : a * b ≤ 4611686018427387904 := by
        have h5 : (4611686018427387904 + a - 1) / a * a ≤ 4611686018427387904 + a - 1 := Int.ediv_mul_le _ h0
        have h6 : (b + 1) * a ≤ (4611686018427387904 + a - 1) / a * a := Int.mul_le_mul_of_nonneg_right (by omega) ha
        rw [Int.add_mul, Int.mul_comm b a] at h6
        omega
      have hm0 : 0 ≤ a * b := Int.mul_nonneg ha hb
      go_enter Tryz.func126, Tryz.ntmps126
      go_wp2
      go_ret
      exact ⟨rfl, rfl⟩

theorem rounds_walk (nd : Nd) (sv kv : Value) (w : World) :
    Calls Tryz.prog 129 #[.agg #[.int .i64 nd.kind, sv, kv, .int .i64 nd.lo, .int .i64 nd.hi]] w fun e w' => e = .returned (.int .i64 (rnd nd)) ∧ Below w.heap.size w w' := by
  unfold rnd
  by_cases h : nd.hi = -1
  · rw [if_pos h]
    have b0 : (nd.hi == -1) = true := by simp [h]
    clear h
    go_enter Tryz.func129, Tryz.ntmps129
    go_wp2
    go_ret
    exact ⟨rfl, alloc_below _⟩
  · rw [if_neg h]
    have b0 : (nd.hi == -1) = false := by simp [h]
    clear h
    go_enter Tryz.func129, Tryz.ntmps129
    go_wp2
    go_ret
    exact ⟨rfl, alloc_below _⟩

/-- What width keeps: the table of finished bounds. -/
structure WdS (X : Nat → Prop) (w : World) (eb ab nb : Nat) (lim : Int) (A : List Nd) (db : Nat) : Prop where
  st : St X w ab nb lim A
  en : w.cell? ⟨eb, 0, none⟩ = some (.pointer (some ⟨ab, 0, none⟩))
  mp : ∃ get ks, Mp 28 w db get ks ∧ ∀ k ∈ ks, ∃ x n, k = IK x ∧ Valid A x ∧ get k = .int .i64 n ∧ Bd A x n
theorem WdS.ismap {X : Nat → Prop} {w : World} {eb ab nb : Nat} {lim : Int} {A : List Nd} {db : Nat} (h : WdS X w eb ab nb lim A db) : IsMap w db := by obtain ⟨_, _, m, _⟩ := h.mp; exact m.isMap
theorem WdS.lt {X : Nat → Prop} {w : World} {eb ab nb : Nat} {lim : Int} {A : List Nd} {db : Nat} (h : WdS X w eb ab nb lim A db) : db < w.heap.size := by obtain ⟨_, _, m, _⟩ := h.mp; exact m.lt
theorem WdS.below {X : Nat → Prop} {w w' : World} {eb ab nb : Nat} {lim : Int} {A : List Nd} {db : Nat} (h : WdS X w eb ab nb lim A db) (k : Below w.heap.size w w') : WdS X w' eb ab nb lim A db := by
  obtain ⟨get, ks, m, hm⟩ := h.mp
  exact ⟨h.st.below k (Nat.le_refl _), (k.cell (p := ⟨eb, 0, none⟩) (cell_lt h.en)).trans h.en, get, ks, m.ext (Ext.of_below k (fun _ => False)) m.lt id, hm⟩
theorem zero_int (w : World) : (zeroValue 3).run Tryz.prog w = .ok (.int .i64 0) w := by kernel_rfl
theorem WdS.look {X : Nat → Prop} {w : World} {eb ab nb : Nat} {lim : Int} {A : List Nd} {db : Nat} (h : WdS X w eb ab nb lim A db) {x : Int} (hx : Valid A x) :
    (∃ n, (Instr.lookup 138 (.map (some db)) (.int .i64 x) true).run Tryz.prog w = .ok (.tuple #[.int .i64 n, .bool true]) w ∧ Bd A x n) ∨
    (Instr.lookup 138 (.map (some db)) (.int .i64 x) true).run Tryz.prog w = .ok (.tuple #[.int .i64 0, .bool false]) w := by
  obtain ⟨get, ks, hM, hH⟩ := h.mp
  have hlen := h.st.ar.len
  have hkey := key_int x hx.1 (by have := hx.2; omega)
  by_cases hin : IK x ∈ ks
  · obtain ⟨y, n, ey, _, eg, hb⟩ := hH _ hin
    cases ey
    have hlk := hM.hit law_id Tryz.underlying138 (zero_int w) hkey hin
    have eg' : get (Lit.int .i64 x) = .int .i64 n := eg
    rw [eg'] at hlk
    exact Or.inl ⟨n, hlk, hb⟩
  · exact Or.inr (hM.miss law_id Tryz.underlying138 (zero_int w) hkey hin)
theorem WdS.put {X : Nat → Prop} {w : World} {eb ab nb : Nat} {lim : Int} {A : List Nd} {db : Nat} (h : WdS X w eb ab nb lim A db) {x n : Int} (hx : Valid A x) (hb : Bd A x n) :
    ∃ w', (Instr.mapUpdate 138 (.map (some db)) (.int .i64 x) (.int .i64 n)).run Tryz.prog w = .ok () w' ∧ WdS X w' eb ab nb lim A db ∧ Ext w.heap.size (fun b => b = db) w w' := by
  obtain ⟨get, ks, hM, hH⟩ := h.mp
  have hA := h.st.ar.len
  have hcnt : ks.length ≤ A.length := keys_le hM.nodup (fun l => match l with | .int _ y => y.toNat | _ => 0) A.length
    (fun k hk => by obtain ⟨y, _, rfl, hy, _⟩ := hH k hk; exact hy.2)
    (fun k hk k' hk' e => by
      obtain ⟨y, _, rfl, hy, _⟩ := hH k hk
      obtain ⟨y', _, rfl, hy', _⟩ := hH k' hk'
      have : y = y' := by have h1 := hy.1; have h2 := hy'.1; simp only at e; omega
      rw [this])
  have hkey := key_int x hx.1 (by have := hx.2; omega)
  have hmax : ks.length < maxLen := by unfold maxLen; omega
  have fin : ∀ w' get' ks', Mp 28 w' db get' ks' → Ext w.heap.size (fun z => z = db) w w' → get' (IK x) = .int .i64 n → (∀ k ∈ ks', k = IK x ∨ (k ∈ ks ∧ get' k = get k)) → WdS X w' eb ab nb lim A db := by
    intro w' get' ks' m' e' g1 g2
    have hT := Turn.one e' h.ismap
    refine ⟨⟨h.st.ar.turn hT, fun z hz => Nat.lt_of_lt_of_le (h.st.xlt z hz) hT.size⟩, hT.cell h.en, get', ks', m', fun k hk => ?_⟩
    rcases g2 k hk with rfl | ⟨hk, e⟩
    · exact ⟨x, n, rfl, hx, g1, hb⟩
    · obtain ⟨y, b', r1, r2, r3, r4⟩ := hH k hk
      exact ⟨y, b', r1, r2, e.trans r3, r4⟩
  by_cases hin : IK x ∈ ks
  · obtain ⟨w', get', r1, r2, r3, r4, r5⟩ := hM.over law_id Tryz.underlying138 hmax hkey (law_id.key hkey) hin (.int .i64 n)
    exact ⟨w', r1, fin w' get' ks r2 r5 r3 (fun k hk => by
      by_cases e : k = IK x
      · exact Or.inl e
      · exact Or.inr ⟨hk, r4 k hk e⟩), r5⟩
  · obtain ⟨w', get', r1, r2, r3, r4, r5⟩ := hM.store law_id Tryz.underlying138 hmax hkey trivial hin (.int .i64 n)
    exact ⟨w', r1, fin w' get' _ r2 r5 r3 (fun k hk => (List.mem_cons.1 hk).imp id (fun hk => ⟨hk, r4 k hk⟩)), r5⟩

def WdPost (x : Int) (X : Nat → Prop) (w : World) (eb ab nb : Nat) (lim : Int) (A : List Nd) (db : Nat) (e : Ending) (w' : World) : Prop :=
  ∃ n, e = .returned (.int .i64 n) ∧ Bd A x n ∧ WdS X w' eb ab nb lim A db ∧ Ext w.heap.size (fun b => b = db) w w'

set_option maxHeartbeats 8000000 in
theorem width_walk {X : Nat → Prop} {eb ab nb : Nat} {lim : Int} {A : List Nd} {db : Nat} : ∀ (m : Nat) (x : Int), x.toNat = m → ∀ (w : World), WdS X w eb ab nb lim A db → Valid A x →
    Calls Tryz.prog 95 #[.pointer (some ⟨eb, 0, none⟩), .int .i64 x, .map (some db)] w (WdPost x X w eb ab nb lim A db) := by
  intro m
  induction m using Nat.strongRecOn with
  | ind m ih =>
  intro x hm w hE hx
  subst hm
  have e0 := hE.en
  rcases hE.look hx with ⟨n, hl, hb⟩ | hl
  · have HP : Hid (WdPost x X w eb ab nb lim A db (.returned (.int .i64 n)) w) := ⟨n, rfl, hb, hE, Ext.refl _ _ _⟩
    clear hE hx hb ih
    go_enter Tryz.func95, Tryz.ntmps95
    go_wp2
    go_ret
    exact HP.out
  · obtain ⟨cap, n0, _, n1⟩ := hE.st.ar.node
    obtain ⟨sv, kv, hnc⟩ := n1 x hx
    have hfew := few64 hE.st.ar.wf hE.st.ar.len hx
    have hlp := (hE.st.ar.wf.at hx).loop
    have HKV : Hid (∀ k ∈ (nodeAt A x).kids, Valid A k ∧ k.toNat < x.toNat) := fun k hk => hE.st.ar.wf.kidValid hx hk
    have HIH := hideIt ih
    have HE := hideIt hE
    have Hx := hideIt hx
    have Hnc := hideIt hnc
    have Hk0 := hideIt hnc.kids
    have Hdone : Hid (∀ n, Bs A (nodeAt A x) (nodeAt A x).kids.length n → ((nodeAt A x).kind = 2 ∨ (nodeAt A x).kind = 3 → 1 ≤ n) → (nodeAt A x).kind ≠ 9 → Bd A x n) := fun n h1 h2 h3 => h1.done hE.st.ar.wf hx h2 h3
    have Hloop : Hid (∀ n, Bs A (nodeAt A x) (nodeAt A x).kids.length n → (nodeAt A x).kind = 9 → Bd A x (timesZ n (rnd (nodeAt A x)))) := fun n h1 h2 => h1.loop hE.st.ar.wf hx h2
    have Hrnd : Hid ((nodeAt A x).kind = 9 → 0 ≤ rnd (nodeAt A x) ∧ rnd (nodeAt A x) ≤ 5) := fun h => by have := hlp h; unfold rnd; split <;> omega
    have Hnok : Hid ((nodeAt A x).kind = 2 ∨ (nodeAt A x).kind = 3 → (nodeAt A x).kids = []) := fun h => (hE.st.ar.wf.at hx).nokids (by omega)
    obtain ⟨_, _, _, _, _, ⟨ka, kc, rfl, _, _, _⟩, ⟨sa, sc, rfl, _, _, _⟩⟩ := hnc
    clear hE hx n1 ih n0 hlp
    go_enter Tryz.func95, Tryz.ntmps95
    go_wp2_with fail
    go_at_call 82
    refine (node_walk _ HE.out.st.ar x Hx.out Hnc.out).mono ?_
    rintro e w1 ⟨rfl, hb1⟩
    have hb2 : Below w.heap.size w (w1.alloc (.cells #[.int .i64 (nodeAt A x).kind, .slice sa (nodeAt A x).bits.length sc, .slice ka (nodeAt A x).kids.length kc, .int .i64 (nodeAt A x).lo, .int .i64 (nodeAt A x).hi] 110)) := hb1.alloc hb1.size _
    have HE2 := hideIt (HE.out.below hb2)
    have Hk2 := hideIt (Hk0.out.below hb2 (Nat.le_refl _))
    have Hx2 : Hid (Ext w.heap.size (fun b => b = db) w (w1.alloc (.cells #[.int .i64 (nodeAt A x).kind, .slice sa (nodeAt A x).bits.length sc, .slice ka (nodeAt A x).kids.length kc, .int .i64 (nodeAt A x).lo, .int .i64 (nodeAt A x).hi] 110))) := Ext.of_below hb2 _
    have hsz1 : w.heap.size ≤ w1.heap.size := hb1.size
    have ldb := HE.out.lt
    clear Hnc hb1 Hk0 hl e0
    generalize nodeAt A x = nd at *
    have hbx : (w1.alloc (.cells #[.int .i64 nd.kind, .slice sa nd.bits.length sc, .slice ka nd.kids.length kc, .int .i64 nd.lo, .int .i64 nd.hi] 110)).heap[w1.heap.size]? = some (.cells #[.int .i64 nd.kind, .slice sa nd.bits.length sc, .slice ka nd.kids.length kc, .int .i64 nd.lo, .int .i64 nd.hi] 110 (0, 0)) := heap_new _ _
    go_upto_region 6 with fail
    generalize w1.alloc (.cells #[.int .i64 nd.kind, .slice sa nd.bits.length sc, .slice ka nd.kids.length kc, .int .i64 nd.lo, .int .i64 nd.hi] 110) = w2 at *
    have Hbx := hideIt hbx
    have d0 := box_cell hbx 0
    have d2 := box_cell hbx 2
    simp only [List.getElem?_toArray, List.getElem?_cons_zero, List.getElem?_cons_succ] at d0 d2
    have hs2 : w.heap.size ≤ w2.heap.size := hb2.size
    clear hbx hb2
    by_cases k23 : nd.kind = 2 ∨ nd.kind = 3
    · have hnok := Hnok.out k23
      have hk0 : nd.kids.length = 0 := by rw [hnok]; rfl
      have hb1 : Bd A x 1 := Hdone.out 1 (by rw [hk0]; exact Bs.zero A nd (by omega) (by unfold TM; omega)) (fun _ => by omega) (by omega)
      obtain ⟨w', hput, hw', hx'⟩ := HE2.out.put Hx.out hb1
      have HP : Hid (WdPost x X w eb ab nb lim A db (.returned (.int .i64 1)) w') := ⟨1, rfl, hb1, hw', Hx2.out.trans hx' hs2 (fun _ _ e => e)⟩
      have b9 : (nd.kind == 9) = false := by rw [beq_eq_false_iff_ne]; omega
      have hn0 : ¬ (0 : Int) < (nd.kids.length : Int) := by omega
      clear hw' hx' hb1 HIH HKV Hdone Hloop Hrnd Hnok hnok HE2 Hk2 Hx2 Hbx HE
      by_cases k2 : nd.kind = 2
      · have b2 : (nd.kind == 2) = true := by simp [k2]
        clear k2 k23 hk0
        go_wp2_with fail
        go_loopw [10, 38] (fun v i wr => v = .int .i64 1 ∧ i = .int .i64 0 ∧ wr = w2) (fun _ _ _ => 0)
        case atStart => exact ⟨rfl, rfl, rfl⟩
        case round =>
          obtain ⟨rfl, rfl, rfl⟩ := hrel
          go_wp2_with fail
          go_ret
          exact HP.out
      · have b2 : (nd.kind == 2) = false := by simp [k2]
        have b3 : (nd.kind == 3) = true := by simp; omega
        clear k2 k23 hk0
        go_wp2_with fail
        go_loopw [10, 38] (fun v i wr => v = .int .i64 1 ∧ i = .int .i64 0 ∧ wr = w2) (fun _ _ _ => 0)
        case atStart => exact ⟨rfl, rfl, rfl⟩
        case round =>
          obtain ⟨rfl, rfl, rfl⟩ := hrel
          go_wp2_with fail
          go_ret
          exact HP.out
    · have b2 : (nd.kind == 2) = false := by rw [beq_eq_false_iff_ne]; omega
      have b3 : (nd.kind == 3) = false := by rw [beq_eq_false_iff_ne]; omega
      have Hk23 := hideIt k23
      clear k23 Hnok
      go_wp2_with fail
      go_loopw [10, 38] (fun v i wr => ∃ (k : Nat) (n : Int), k ≤ nd.kids.length ∧ i = .int .i64 k ∧ v = .int .i64 n ∧ Bs A nd k n ∧ WdS X wr eb ab nb lim A db ∧ Ext w2.heap.size (fun b => b = db) w2 wr) (fun _ i _ => nd.kids.length - (intOf i).toNat)
      case atStart => exact ⟨0, 0, by omega, rfl, rfl, Bs.zero A nd (by omega) (by unfold TM; omega), HE2.out, Ext.refl _ _ _⟩
      case round =>
        obtain ⟨k, n, hk, rfl, rfl, hB, hW, hX⟩ := hrel
        have HB := hideIt hB
        have HW := hideIt hW
        have HX := hideIt hX
        have hT := Turn.one hX HE2.out.ismap
        have hbx := hT.block Hbx.out
        have f0 := box_cell hbx 0
        have f1 := box_cell hbx 1
        have f2 := box_cell hbx 2
        have f3 := box_cell hbx 3
        have f4 := box_cell hbx 4
        simp only [List.getElem?_toArray, List.getElem?_cons_zero, List.getElem?_cons_succ] at f0 f1 f2 f3 f4
        have hn0 := hB.1
        have hn1 : n ≤ 4611686018427387904 := hB.2.1
        by_cases hlt : k < nd.kids.length
        · have hlt' : (k : Int) < (nd.kids.length : Int) := by omega
          obtain ⟨a4, c4, e4, _, _, h4⟩ := hT.seq Hk2.out
          cases e4
          obtain ⟨g4, o4, rfl, _, hc4⟩ := h4 (fun e => by rw [e] at hlt; cases hlt)
          have cj := hc4 k hlt
          have Hkv := hideIt (HKV.out _ (List.getElem_mem hlt))
          have Hek : Hid (kid nd k = nd.kids[k]) := by unfold kid; exact getD_lt hlt _
          generalize nd.kids[k] = y at *
          clear h4 hc4 hB hW hX hT hbx
          go_wp2_with fail
          go_at_call 95
          refine (HIH.out y.toNat Hkv.out.2 y rfl wr HW.out Hkv.out.1).mono ?_
          rintro e w4 ⟨p, rfl, hbd, hw4, hx4⟩
          have HBn : Hid (Bs A nd (k + 1) (plusZ n p)) := HB.out.next (by rw [Hek.out]; exact hbd)
          have HW4 := hideIt hw4
          have HX4 := hideIt (HX.out.trans hx4 HX.out.size (fun _ _ e => e))
          have hp0 := hbd.1
          have hp1 : p ≤ 4611686018427387904 := hbd.2.1
          clear hbd hw4 hx4 HB
          go_wp2_with (go_at_call 92; refine (plus_walk n p hn0 hn1 hp0 hp1 _).mono ?_; rintro e w5 ⟨rfl, rfl⟩)
          go_roundw
          case rel => exact ⟨k + 1, _, by omega, by go_num, rfl, HBn.out, HW4.out, HX4.out⟩
          case measure => simp [intOf]; omega
        · obtain rfl : k = nd.kids.length := by omega
          clear hB hW hX hT hbx HIH HKV Hk2
          by_cases k9 : nd.kind = 9
          · have b9 : (nd.kind == 9) = true := by simp [k9]
            have HBd := hideIt (Hloop.out n HB.out k9)
            have hrn := Hrnd.out k9
            clear k9
            go_wp2_with fail
            go_at_call 129
            refine (rounds_walk nd _ _ _).mono ?_
            rintro e w6 ⟨rfl, hb6⟩
            have HW6 := hideIt (HW.out.below hb6)
            have HX6 := hideIt (HX.out.andThen hb6 HX.out.size)
            obtain ⟨w', hput, hw', hx'⟩ := HW6.out.put Hx.out HBd.out
            have HP : Hid (WdPost x X w eb ab nb lim A db (.returned (.int .i64 (timesZ n (rnd nd)))) w') := ⟨_, rfl, HBd.out, hw', Hx2.out.trans (HX6.out.trans hx' HX6.out.size (fun _ _ e => e)) hs2 (fun _ _ e => e)⟩
            clear hw' hx' hb6 HBd
            go_wp2_with (go_at_call 126; refine (times_walk n (rnd nd) hn0 hn1 hrn.1 _).mono ?_; rintro e w7 ⟨rfl, rfl⟩)
            go_ret
            exact HP.out
          · have b9 : (nd.kind == 9) = false := by simp [k9]
            have hbd := Hdone.out n HB.out (fun h => absurd h Hk23.out) k9
            obtain ⟨w', hput, hw', hx'⟩ := HW.out.put Hx.out hbd
            have HP : Hid (WdPost x X w eb ab nb lim A db (.returned (.int .i64 n)) w') := ⟨_, rfl, hbd, hw', Hx2.out.trans (HX.out.trans hx' HX.out.size (fun _ _ e => e)) hs2 (fun _ _ e => e)⟩
            clear hw' hx' hbd k9
            go_wp2_with fail
            go_ret
            exact HP.out

/-- PartialBound. -/
theorem PartialBound_walk {X : Nat → Prop} {w : World} {eb mb ab nb : Nat} {lim : Int} {A : List Nd} (hE : Es X w eb mb ab nb lim A) {x : Int} (hx : Valid A x) :
    Calls Tryz.prog 50 #[.pointer (some ⟨eb, 0, none⟩), .int .i64 x] w fun e w' => ∃ n, e = .returned (.int .i64 (plusZ n 1)) ∧ Bd A x n ∧ Below w.heap.size w w' := by
  have hb0 : Below w.heap.size w (w.alloc (.map #[] 0)) := alloc_below _
  obtain ⟨b1, b2, b3, he2⟩ := (hE.below hb0).en.eng
  have e0 := box_cell he2 0
  simp only [List.getElem?_toArray, List.getElem?_cons_zero] at e0
  have HW : Hid (WdS X (w.alloc (.map #[] 0)) eb ab nb lim A w.heap.size) := ⟨(hE.below hb0).en.st, e0, fun _ => .int .i64 0, [], Mp.made _ _ _, fun k hk => absurd hk (by simp)⟩
  have Hx := hideIt hx
  have hmm := @run_makeMap Tryz.prog
  clear hE hx he2 e0 hb0
  go_enter Tryz.func50, Tryz.ntmps50
  go_wp2_with fail
  go_at_call 95
  refine (width_walk _ x rfl _ HW.out Hx.out).mono ?_
  rintro e w1 ⟨n, rfl, hbd, _, hx1⟩
  have Hbd := hideIt hbd
  have hn0 := hbd.1
  have hn1 : n ≤ 4611686018427387904 := hbd.2.1
  have HB : Hid (Below w.heap.size w w1) := (alloc_below (w := w) (.map #[] 0)).trans (hx1.below' (by rw [Deep.nblk_alloc]; omega) (fun k hk e => by omega))
  clear hbd hx1
  go_wp2_with (go_at_call 92; refine (plus_walk n 1 hn0 hn1 (by omega) (by omega) _).mono ?_; rintro e w5 ⟨rfl, rfl⟩)
  go_ret
  exact ⟨n, rfl, Hbd.out, HB.out⟩
end Go.Proofs.Qxb6500848aGreatDoor
