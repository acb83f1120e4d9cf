/-
  less1, twoTo, proper, StateBound.
-/
import Derived.Test.Qxb6500848aGreatDoorBdW
import Derived.Test.Qxb6500848aGreatDoorPlainQ
import Derived.Deep.DeepCutAuto
import Derived.Deep.AppendLies
namespace Go.Proofs.Qxb6500848aGreatDoor
open Go.RowKit Pl Go.Maps
set_option maxRecDepth 100000

theorem less_walk (a : Int) (ha : 1 ≤ a) (ha1 : a ≤ 4611686018427387904) (w : World) :
    Calls Tryz.prog 127 #[.int .i64 a] w fun e w' => e = .returned (.int .i64 (lessZ a)) ∧ w' = w := by
  have hz : lessZ a = if a = 4611686018427387904 then a else a - 1 := rfl
  rw [hz]
  clear hz
  by_cases h : a = 4611686018427387904
  · rw [if_pos h]
    have b0 : (a == 4611686018427387904) = true := by simp [h]
    clear h
    go_enter Tryz.func127, Tryz.ntmps127
    go_wp2
    go_ret
    exact ⟨rfl, rfl⟩
  · rw [if_neg h]
    have b0 : (a == 4611686018427387904) = false := by simp [h]
    clear h
    go_enter Tryz.func127, Tryz.ntmps127
    go_wp2
    go_ret
    exact ⟨rfl, rfl⟩

theorem two_walk (n : Int) (hn : 0 ≤ n) (hn1 : n ≤ 4611686018427387904) (w : World) :
    Calls Tryz.prog 128 #[.int .i64 n] w fun e w' => e = .returned (.int .i64 (twoZ n)) ∧ w' = w := by
  have hz : twoZ n = if 62 ≤ n then 4611686018427387904 else 2 ^ n.toNat := rfl
  rw [hz]
  clear hz
  by_cases h : 62 ≤ n
  · rw [if_pos h]
    go_enter Tryz.func128, Tryz.ntmps128
    go_wp2
    go_ret
    exact ⟨rfl, rfl⟩
  · rw [if_neg h]
    have h1 : (2 : Int) ^ n.toNat = ((2 ^ n.toNat : Nat) : Int) := by simp
    have h2 : 0 < 2 ^ n.toNat := Nat.pow_pos (by omega)
    have h3 : 2 ^ n.toNat ≤ 2 ^ 61 := Nat.pow_le_pow_right (by omega) (by omega)
    have hw : wrap64 ((2 : Int) ^ n.toNat) = (2 : Int) ^ n.toNat := by rw [h1]; unfold wrap64; omega
    clear h1 h2 h3
    go_enter Tryz.func128, Tryz.ntmps128
    go_wp2
    go_ret
    exact ⟨rfl, rfl⟩

theorem own_cells {w : World} {B : Nat} {v : Value} {l : List Int} {t : TypeId} (h : w.ownsRow B t 1 v l.length (l.map encI)) (hl : 0 < l.length) : ∃ g cap, v = .slice (some ⟨g, 0, none⟩) l.length cap ∧ ∀ j (h : j < l.length), w.cell? ⟨g, j, none⟩ = some (encI l[j]) := by
  rcases h.2 with ⟨rfl, h0⟩ | ⟨g, cap, cur, rfl, hb, hh, r1, r2, r3, r4⟩
  · omega
  · refine ⟨g, cap, rfl, fun j hj => ?_⟩
    have e : (cur.toList.take (l.length * 1))[j]? = (l.map encI)[j]? := by rw [r4]
    rw [List.getElem?_take_of_lt (by omega)] at e
    simp only [World.cell?, hh]
    simp [hj] at e
    simpa using e

/-- What proper keeps: the table of finished bounds. -/
structure PrS (X : Nat → Prop) (w : World) (eb ab nb : Nat) (lim : Int) (A : List Nd) (db : Nat) : Prop where
  st : St X w ab nb lim A
  en : w.cell? ⟨eb, 0, none⟩ = some (.pointer (some ⟨ab, 0, none⟩))
  mp : ∃ get ks, Mp 28 w db get ks ∧ ∀ k ∈ ks, ∃ x n, k = IK x ∧ Valid A x ∧ get k = .int .i64 n ∧ Bp A x n
theorem PrS.ismap {X : Nat → Prop} {w : World} {eb ab nb : Nat} {lim : Int} {A : List Nd} {db : Nat} (h : PrS X w eb ab nb lim A db) : IsMap w db := by obtain ⟨_, _, m, _⟩ := h.mp; exact m.isMap
theorem PrS.lt {X : Nat → Prop} {w : World} {eb ab nb : Nat} {lim : Int} {A : List Nd} {db : Nat} (h : PrS X w eb ab nb lim A db) : db < w.heap.size := by obtain ⟨_, _, m, _⟩ := h.mp; exact m.lt
theorem PrS.below {X : Nat → Prop} {w w' : World} {eb ab nb : Nat} {lim : Int} {A : List Nd} {db : Nat} (h : PrS X w eb ab nb lim A db) (k : Below w.heap.size w w') : PrS X w' eb ab nb lim A db := by
  obtain ⟨get, ks, m, hm⟩ := h.mp
  exact ⟨h.st.below k (Nat.le_refl _), (k.cell (p := ⟨eb, 0, none⟩) (cell_lt h.en)).trans h.en, get, ks, m.ext (Ext.of_below k (fun _ => False)) m.lt id, hm⟩
theorem PrS.look {X : Nat → Prop} {w : World} {eb ab nb : Nat} {lim : Int} {A : List Nd} {db : Nat} (h : PrS X w eb ab nb lim A db) {x : Int} (hx : Valid A x) :
    (∃ n, (Instr.lookup 138 (.map (some db)) (.int .i64 x) true).run Tryz.prog w = .ok (.tuple #[.int .i64 n, .bool true]) w ∧ Bp A x n) ∨
    (Instr.lookup 138 (.map (some db)) (.int .i64 x) true).run Tryz.prog w = .ok (.tuple #[.int .i64 0, .bool false]) w := by
  obtain ⟨get, ks, hM, hH⟩ := h.mp
  have hlen := h.st.ar.len
  have hkey := key_int x hx.1 (by have := hx.2; omega)
  by_cases hin : IK x ∈ ks
  · obtain ⟨y, n, ey, _, eg, hb⟩ := hH _ hin
    cases ey
    have hlk := hM.hit law_id Tryz.underlying138 (zero_int w) hkey hin
    have eg' : get (Lit.int .i64 x) = .int .i64 n := eg
    rw [eg'] at hlk
    exact Or.inl ⟨n, hlk, hb⟩
  · exact Or.inr (hM.miss law_id Tryz.underlying138 (zero_int w) hkey hin)
theorem PrS.put {X : Nat → Prop} {w : World} {eb ab nb : Nat} {lim : Int} {A : List Nd} {db : Nat} (h : PrS X w eb ab nb lim A db) {x n : Int} (hx : Valid A x) (hb : Bp A x n) :
    ∃ w', (Instr.mapUpdate 138 (.map (some db)) (.int .i64 x) (.int .i64 n)).run Tryz.prog w = .ok () w' ∧ PrS X w' eb ab nb lim A db ∧ Ext w.heap.size (fun b => b = db) w w' := by
  obtain ⟨get, ks, hM, hH⟩ := h.mp
  have hA := h.st.ar.len
  have hcnt : ks.length ≤ A.length := keys_le hM.nodup (fun l => match l with | .int _ y => y.toNat | _ => 0) A.length
    (fun k hk => by obtain ⟨y, _, rfl, hy, _⟩ := hH k hk; exact hy.2)
    (fun k hk k' hk' e => by
      obtain ⟨y, _, rfl, hy, _⟩ := hH k hk
      obtain ⟨y', _, rfl, hy', _⟩ := hH k' hk'
      have : y = y' := by have h1 := hy.1; have h2 := hy'.1; simp only at e; omega
      rw [this])
  have hkey := key_int x hx.1 (by have := hx.2; omega)
  have hmax : ks.length < maxLen := by unfold maxLen; omega
  have fin : ∀ w' get' ks', Mp 28 w' db get' ks' → Ext w.heap.size (fun z => z = db) w w' → get' (IK x) = .int .i64 n → (∀ k ∈ ks', k = IK x ∨ (k ∈ ks ∧ get' k = get k)) → PrS X w' eb ab nb lim A db := by
    intro w' get' ks' m' e' g1 g2
    have hT := Turn.one e' h.ismap
    refine ⟨⟨h.st.ar.turn hT, fun z hz => Nat.lt_of_lt_of_le (h.st.xlt z hz) hT.size⟩, hT.cell h.en, get', ks', m', fun k hk => ?_⟩
    rcases g2 k hk with rfl | ⟨hk, e⟩
    · exact ⟨x, n, rfl, hx, g1, hb⟩
    · obtain ⟨y, b', r1, r2, r3, r4⟩ := hH k hk
      exact ⟨y, b', r1, r2, e.trans r3, r4⟩
  by_cases hin : IK x ∈ ks
  · obtain ⟨w', get', r1, r2, r3, r4, r5⟩ := hM.over law_id Tryz.underlying138 hmax hkey (law_id.key hkey) hin (.int .i64 n)
    exact ⟨w', r1, fin w' get' ks r2 r5 r3 (fun k hk => by
      by_cases e : k = IK x
      · exact Or.inl e
      · exact Or.inr ⟨hk, r4 k hk e⟩), r5⟩
  · obtain ⟨w', get', r1, r2, r3, r4, r5⟩ := hM.store law_id Tryz.underlying138 hmax hkey trivial hin (.int .i64 n)
    exact ⟨w', r1, fin w' get' _ r2 r5 r3 (fun k hk => (List.mem_cons.1 hk).imp id (fun hk => ⟨hk, r4 k hk⟩)), r5⟩


theorem PrS.upd {X : Nat → Prop} {w w' : World} {eb ab nb : Nat} {lim : Int} {A : List Nd} {db : Nat} (h : PrS X w eb ab nb lim A db) (e : Ext w.heap.size (fun b => b = db) w w') (m : ∃ get ks, Mp 28 w' db get ks ∧ ∀ k ∈ ks, ∃ x n, k = IK x ∧ Valid A x ∧ get k = .int .i64 n ∧ Bp A x n) : PrS X w' eb ab nb lim A db := by
  have hT := Turn.one e h.ismap
  exact ⟨⟨h.st.ar.turn hT, fun z hz => Nat.lt_of_lt_of_le (h.st.xlt z hz) hT.size⟩, hT.cell h.en, m⟩
def PrM (A : List Nd) (w : World) (db : Nat) : Prop := ∃ get ks, Mp 28 w db get ks ∧ ∀ k ∈ ks, ∃ x n, k = IK x ∧ Valid A x ∧ get k = .int .i64 n ∧ Bp A x n
theorem PrM.ext {A : List Nd} {w w' : World} {db : Nat} (h : PrM A w db) {Y : Nat → Prop} (k : Ext w.heap.size Y w w') (hn : ¬ Y db) : PrM A w' db := by
  obtain ⟨get, ks, m, hm⟩ := h
  exact ⟨get, ks, m.ext k m.lt hn, hm⟩
def PrPost (x : Int) (X : Nat → Prop) (w : World) (eb ab nb : Nat) (lim : Int) (A : List Nd) (db : Nat) (e : Ending) (w' : World) : Prop :=
  ∃ n, e = .returned (.int .i64 n) ∧ Bp A x n ∧ PrS X w' eb ab nb lim A db ∧ Ext w.heap.size (fun b => b = db) w w'
/-- What the tables of kinds give. -/
structure PrK (A : List Nd) (x : Int) (nd : Nd) : Prop where
  kd : 0 ≤ nd.kind ∧ nd.kind ≤ 9
  low : nd.kind = 0 ∨ nd.kind = 1 → Bp A x 0
  one : nd.kind = 2 ∨ nd.kind = 3 → Bp A x 1
  comp : nd.kind = 7 → ∀ n, Bp A (kid nd 0) n → Bp A x (plusZ n 1)
  cat : nd.kind = 4 → ∀ n m, Bp A (kid nd 0) n → Bp A (kid nd 1) m → Bp A x (lessZ (timesZ (plusZ n 1) (twoZ m)))
  star : nd.kind = 8 → ∀ n, Bp A (kid nd 0) n → Bp A x (lessZ (twoZ n))
  loop : nd.kind = 9 → ∀ n, Bp A (kid nd 0) n → Bp A x (lessZ (twoZ (timesZ n (rnd nd))))
  uni : nd.kind = 5 → ∀ n, Bu A nd nd.kids.length n → Bp A x (lessZ n)
  int : nd.kind = 6 → ∀ n, Bi A nd nd.kids.length n → Bp A x n
  l1 : nd.kind = 7 ∨ nd.kind = 8 ∨ nd.kind = 9 → nd.kids.length = 1
  l2 : nd.kind = 4 → nd.kids.length = 2
  l5 : nd.kind = 5 ∨ nd.kind = 6 → 2 ≤ nd.kids.length
  rn : nd.kind = 9 → 1 ≤ rnd nd ∧ rnd nd ≤ 5
theorem prK {A : List Nd} (hA : Wf A) {x : Int} (hx : Valid A x) : PrK A x (nodeAt A x) :=
  ⟨(hA.at hx).kind, Bp.low hx, Bp.one hx, fun h n hn => Bp.comp hx h hn, fun h n m hn hm => Bp.cat hx h hn hm, fun h n hn => Bp.star hx h hn, fun h n hn => Bp.loop hA hx h hn, fun h n hn => Bu.done hx h hn, fun h n hn => Bi.done hx h hn, fun h => len1 hA hx h, fun h => len2 hA hx h, fun h => h.elim (fun h => ((hA.at hx).nrm.uni h).1) (fun h => ((hA.at hx).nrm.int h).1), fun h => by have := (hA.at hx).loop h; unfold rnd; split <;> omega⟩

theorem times_one {a b : Int} (ha : 1 ≤ a) (ha1 : a ≤ 4611686018427387904) (hb : 1 ≤ b) (hb1 : b ≤ 4611686018427387904) : 1 ≤ timesZ a b ∧ timesZ a b ≤ 4611686018427387904 := by
  obtain ⟨h1, h2, h3⟩ := times_lt (a := a) (b := b) (by omega) (by omega) ha1 hb1
  refine ⟨?_, h2⟩
  by_cases e : timesZ a b < TM
  · rw [(h3 e).1]
    have : 1 * b ≤ a * b := Int.mul_le_mul_of_nonneg_right ha (by omega)
    omega
  · unfold TM at e; omega
theorem getD_snoc0 {A : List Nd} {nd : Nd} {bs : List Int} {p : Int} {i : Nat} (hl : bs.length = i) (h : ∀ j, j < i → Bp A (kid nd j) (bs.getD j 0)) (hp : Bp A (kid nd i) p) : ∀ j, j < i + 1 → Bp A (kid nd j) ((bs ++ [p]).getD j 0) := fun j hj => by
  by_cases e : j < i
  · have e4 : (bs ++ [p]).getD j 0 = bs.getD j 0 := by
      simp only [List.getD]
      rw [List.getElem?_append_left (by omega)]
    rw [e4]
    exact h j e
  · have e5 : j = i := by omega
    subst e5
    have e4 : (bs ++ [p]).getD j 0 = p := by rw [← hl]; simp [List.getD]
    rw [e4]
    exact hp

set_option maxHeartbeats 32000000 in
theorem proper_walk {X : Nat → Prop} {eb ab nb : Nat} {lim : Int} {A : List Nd} {db : Nat} : ∀ (m : Nat) (x : Int), x.toNat = m → ∀ (w : World), PrS X w eb ab nb lim A db → Valid A x →
    Calls Tryz.prog 93 #[.pointer (some ⟨eb, 0, none⟩), .int .i64 x, .map (some db)] w (PrPost x X w eb ab nb lim A db) := by
  intro m
  induction m using Nat.strongRecOn with
  | ind m ih =>
  intro x hm w hE hx
  subst hm
  have e0 := hE.en
  rcases hE.look hx with ⟨n, hl, hb⟩ | hl
  · have HP : Hid (PrPost x X w eb ab nb lim A db (.returned (.int .i64 n)) w) := ⟨n, rfl, hb, hE, Ext.refl _ _ _⟩
    clear hE hx hb ih
    go_enter Tryz.func93, Tryz.ntmps93
    go_wp2
    go_ret
    exact HP.out
  · obtain ⟨cap, n0, _, n1⟩ := hE.st.ar.node
    obtain ⟨sv, kv, hnc⟩ := n1 x hx
    have hfew := few64 hE.st.ar.wf hE.st.ar.len hx
    have HK := hideIt (prK hE.st.ar.wf hx)
    have HKV : Hid (∀ k ∈ (nodeAt A x).kids, Valid A k ∧ k.toNat < x.toNat) := fun k hk => hE.st.ar.wf.kidValid hx hk
    have HIH := hideIt ih
    have HE := hideIt hE
    have Hx := hideIt hx
    have Hnc := hideIt hnc
    have Hk0 := hideIt hnc.kids
    obtain ⟨i0, hi0, hz0, hz1, hz2⟩ := info_parts info_int
    obtain ⟨_, _, _, _, _, ⟨ka, kc, rfl, _, _, _⟩, ⟨sa, sc, rfl, _, _, _⟩⟩ := hnc
    clear hE hx n1 ih n0
    go_enter Tryz.func93, Tryz.ntmps93
    go_wp2_with fail
    go_at_call 82
    refine (node_walk _ HE.out.st.ar x Hx.out Hnc.out).mono ?_
    rintro e w1 ⟨rfl, hb1⟩
    have hb2 : Below w.heap.size w (w1.alloc (.cells #[.int .i64 (nodeAt A x).kind, .slice sa (nodeAt A x).bits.length sc, .slice ka (nodeAt A x).kids.length kc, .int .i64 (nodeAt A x).lo, .int .i64 (nodeAt A x).hi] 110)) := hb1.alloc hb1.size _
    have HE2 := hideIt (HE.out.below hb2)
    have Hk2 := hideIt (Hk0.out.below hb2 (Nat.le_refl _))
    have Hx2 : Hid (Ext w.heap.size (fun b => b = db) w (w1.alloc (.cells #[.int .i64 (nodeAt A x).kind, .slice sa (nodeAt A x).bits.length sc, .slice ka (nodeAt A x).kids.length kc, .int .i64 (nodeAt A x).lo, .int .i64 (nodeAt A x).hi] 110))) := Ext.of_below hb2 _
    have hsz1 : w.heap.size ≤ w1.heap.size := hb1.size
    have ldb := HE.out.lt
    clear Hnc hb1 Hk0 hl e0
    generalize nodeAt A x = nd at *
    have hbx : (w1.alloc (.cells #[.int .i64 nd.kind, .slice sa nd.bits.length sc, .slice ka nd.kids.length kc, .int .i64 nd.lo, .int .i64 nd.hi] 110)).heap[w1.heap.size]? = some (.cells #[.int .i64 nd.kind, .slice sa nd.bits.length sc, .slice ka nd.kids.length kc, .int .i64 nd.lo, .int .i64 nd.hi] 110 (0, 0)) := heap_new _ _
    go_upto_region 5 with fail
    generalize w1.alloc (.cells #[.int .i64 nd.kind, .slice sa nd.bits.length sc, .slice ka nd.kids.length kc, .int .i64 nd.lo, .int .i64 nd.hi] 110) = w2 at *
    have Hbx := hideIt hbx
    have d2 := box_cell hbx 2
    simp only [List.getElem?_toArray, List.getElem?_cons_zero, List.getElem?_cons_succ] at d2
    have hs2 : w.heap.size ≤ w2.heap.size := hb2.size
    clear hbx hb2
    go_wp2_with fail
    go_loopw [10, 35] (fun v i wr => ∃ (k : Nat) (bs : List Int), k ≤ nd.kids.length ∧ i = .int .i64 k ∧ bs.length = k ∧ wr.ownsRow w2.heap.size 3 1 v bs.length (bs.map encI) ∧ (∀ j, j < k → Bp A (kid nd j) (bs.getD j 0)) ∧ PrM A wr db ∧ Ext w2.heap.size (fun b => b = db) w2 wr) (fun _ i _ => nd.kids.length - (intOf i).toNat)
    case atStart => exact ⟨0, [], by omega, rfl, rfl, ⟨by simp, Or.inl ⟨rfl, rfl⟩⟩, fun j hj => by omega, HE2.out.mp, Ext.refl _ _ _⟩
    case round =>
      obtain ⟨k, bs, hk, rfl, hbl, hR, hB, hM, hX⟩ := hrel
      have HR := hideIt hR
      have Hbs := hideIt hB
      have HX := hideIt hX
      have HW := hideIt (HE2.out.upd hX hM)
      have hT := Turn.one hX HE2.out.ismap
      have hbxr := hT.block Hbx.out
      have f0 := box_cell hbxr 0
      have f1 := box_cell hbxr 1
      have f2 := box_cell hbxr 2
      have f3 := box_cell hbxr 3
      have f4 := box_cell hbxr 4
      simp only [List.getElem?_toArray, List.getElem?_cons_zero, List.getElem?_cons_succ] at f0 f1 f2 f3 f4
      by_cases hlt : k < nd.kids.length
      · have hlt' : (k : Int) < (nd.kids.length : Int) := by omega
        obtain ⟨a4, c4, e4, _, _, h4⟩ := hT.seq Hk2.out
        cases e4
        obtain ⟨g4, o4, rfl, _, hc4⟩ := h4 (fun e => by rw [e] at hlt; cases hlt)
        have cj := hc4 k hlt
        have Hkv := hideIt (HKV.out _ (List.getElem_mem hlt))
        have Hek : Hid (kid nd k = nd.kids[k]) := by unfold kid; exact getD_lt hlt _
        generalize nd.kids[k] = y at *
        have Hbl := hideIt hbl
        clear h4 hc4 hB hM hX hT hbxr hR hbl
        go_wp2_with fail
        go_at_call 93
        refine (HIH.out y.toNat Hkv.out.2 y rfl wr HW.out Hkv.out.1).mono ?_
        rintro e w4 ⟨p, rfl, hbd, hw4, hx4⟩
        have HR4 := hideIt (ownsRow_ext HR.out hx4 (fun g hg e => by have h1 := (ownsRow_block HR.out hg).1; have h2 : g = db := e; omega))
        have HX4 := hideIt (HX.out.trans hx4 HX.out.size (fun _ _ e => e))
        have HM4 : Hid (PrM A w4 db) := hw4.mp
        have Hbd : Hid (Bp A (kid nd k) p) := by rw [Hek.out]; exact hbd
        have hbs : w2.heap.size ≤ w4.heap.size := HX4.out.size
        have hbk : bs.length ≤ 65536 := by have := Hbl.out; omega
        clear hbd hw4 hx4
        go_wp2_with (at_builtin; refine wpList_append_own_at _ rfl (.tmp 39) (.tmp 44) 24 rfl w2.heap.size 3 i0 (.int .i64 0) 1 8 Tryz.underlying24 hi0 hz0 hz1 hz2 rfl (by decide) _ _ _ rfl (HR4.out.alloc _) ⟨w4.heap.size, 0, none⟩ 1 1 ([p].map encI) rfl rfl (World.news_of_block (cs := #[.int .i64 p]) (t := 3) (fr := (0, 0)) (heap_new _ _)) (one_ints _) (by unfold maxLen; omega) (by omega) (Nat.le_trans hbs (alloc_below _).size) ?_; intro v' w5 hown5 hgrow5 _ hloc5)
        have hown6 : w5.ownsRow w2.heap.size 3 1 v' (bs ++ [p]).length ((bs ++ [p]).map encI) := by rw [List.length_append, List.map_append]; exact hown5
        have hX5 := (HX4.out.alloc hbs _).grown hgrow5 (Nat.le_trans hbs (alloc_below _).size) (fun q e => Or.inl (ownsRow_block HR4.out e).1)
        have hM5 := HM4.out.ext (((Ext.refl w4.heap.size _ w4).alloc (Nat.le_refl _) _).grown hgrow5 (alloc_below _).size (fun q e => Or.inr e)) (fun e => by have h1 := (ownsRow_block HR4.out e).1; omega)
        go_roundw
        case rel => exact ⟨k + 1, bs ++ [p], by omega, by go_num, by rw [List.length_append, Hbl.out]; rfl, hown6, getD_snoc0 Hbl.out Hbs.out Hbd.out, hM5, hX5⟩
        case measure => simp [intOf]; omega
      · obtain rfl : k = nd.kids.length := by omega
        have Hbl := hideIt hbl
        clear hB hM hX hT hR HIH HKV Hk2 hbl
        have hkk := HK.out.kd
        have hcs : nd.kind = 0 ∨ nd.kind = 1 ∨ nd.kind = 2 ∨ nd.kind = 3 ∨ nd.kind = 4 ∨ nd.kind = 5 ∨ nd.kind = 6 ∨ nd.kind = 7 ∨ nd.kind = 8 ∨ nd.kind = 9 := by omega
        rcases hcs with hkd | hkd | hkd | hkd | hkd | hkd | hkd | hkd | hkd | hkd
        · have b0 : (nd.kind == 0) = true := by simp [hkd]
          have b1 : (nd.kind == 1) = false := by rw [beq_eq_false_iff_ne]; omega
          have b2 : (nd.kind == 2) = false := by rw [beq_eq_false_iff_ne]; omega
          have b3 : (nd.kind == 3) = false := by rw [beq_eq_false_iff_ne]; omega
          have b4 : (nd.kind == 4) = false := by rw [beq_eq_false_iff_ne]; omega
          have b5 : (nd.kind == 5) = false := by rw [beq_eq_false_iff_ne]; omega
          have b6 : (nd.kind == 6) = false := by rw [beq_eq_false_iff_ne]; omega
          have b7 : (nd.kind == 7) = false := by rw [beq_eq_false_iff_ne]; omega
          have b8 : (nd.kind == 8) = false := by rw [beq_eq_false_iff_ne]; omega
          have b9 : (nd.kind == 9) = false := by rw [beq_eq_false_iff_ne]; omega
          have hbp : Bp A x (0) := HK.out.low (by omega)
          obtain ⟨w', hput, hw', hx'⟩ := HW.out.put Hx.out hbp
          have HP : Hid (PrPost x X w eb ab nb lim A db (.returned (.int .i64 (0))) w') := ⟨_, rfl, hbp, hw', Hx2.out.trans (HX.out.trans hx' HX.out.size (fun _ _ e => e)) hs2 (fun _ _ e => e)⟩
          clear hbp hw' hx'
          clear hkd
          go_wp2_with fail
          go_ret
          exact HP.out
        · have b0 : (nd.kind == 0) = false := by rw [beq_eq_false_iff_ne]; omega
          have b1 : (nd.kind == 1) = true := by simp [hkd]
          have b2 : (nd.kind == 2) = false := by rw [beq_eq_false_iff_ne]; omega
          have b3 : (nd.kind == 3) = false := by rw [beq_eq_false_iff_ne]; omega
          have b4 : (nd.kind == 4) = false := by rw [beq_eq_false_iff_ne]; omega
          have b5 : (nd.kind == 5) = false := by rw [beq_eq_false_iff_ne]; omega
          have b6 : (nd.kind == 6) = false := by rw [beq_eq_false_iff_ne]; omega
          have b7 : (nd.kind == 7) = false := by rw [beq_eq_false_iff_ne]; omega
          have b8 : (nd.kind == 8) = false := by rw [beq_eq_false_iff_ne]; omega
          have b9 : (nd.kind == 9) = false := by rw [beq_eq_false_iff_ne]; omega
          have hbp : Bp A x (0) := HK.out.low (by omega)
          obtain ⟨w', hput, hw', hx'⟩ := HW.out.put Hx.out hbp
          have HP : Hid (PrPost x X w eb ab nb lim A db (.returned (.int .i64 (0))) w') := ⟨_, rfl, hbp, hw', Hx2.out.trans (HX.out.trans hx' HX.out.size (fun _ _ e => e)) hs2 (fun _ _ e => e)⟩
          clear hbp hw' hx'
          clear hkd
          go_wp2_with fail
          go_ret
          exact HP.out
        · have b0 : (nd.kind == 0) = false := by rw [beq_eq_false_iff_ne]; omega
          have b1 : (nd.kind == 1) = false := by rw [beq_eq_false_iff_ne]; omega
          have b2 : (nd.kind == 2) = true := by simp [hkd]
          have b3 : (nd.kind == 3) = false := by rw [beq_eq_false_iff_ne]; omega
          have b4 : (nd.kind == 4) = false := by rw [beq_eq_false_iff_ne]; omega
          have b5 : (nd.kind == 5) = false := by rw [beq_eq_false_iff_ne]; omega
          have b6 : (nd.kind == 6) = false := by rw [beq_eq_false_iff_ne]; omega
          have b7 : (nd.kind == 7) = false := by rw [beq_eq_false_iff_ne]; omega
          have b8 : (nd.kind == 8) = false := by rw [beq_eq_false_iff_ne]; omega
          have b9 : (nd.kind == 9) = false := by rw [beq_eq_false_iff_ne]; omega
          have hbp : Bp A x (1) := HK.out.one (by omega)
          obtain ⟨w', hput, hw', hx'⟩ := HW.out.put Hx.out hbp
          have HP : Hid (PrPost x X w eb ab nb lim A db (.returned (.int .i64 (1))) w') := ⟨_, rfl, hbp, hw', Hx2.out.trans (HX.out.trans hx' HX.out.size (fun _ _ e => e)) hs2 (fun _ _ e => e)⟩
          clear hbp hw' hx'
          clear hkd
          go_wp2_with fail
          go_ret
          exact HP.out
        · have b0 : (nd.kind == 0) = false := by rw [beq_eq_false_iff_ne]; omega
          have b1 : (nd.kind == 1) = false := by rw [beq_eq_false_iff_ne]; omega
          have b2 : (nd.kind == 2) = false := by rw [beq_eq_false_iff_ne]; omega
          have b3 : (nd.kind == 3) = true := by simp [hkd]
          have b4 : (nd.kind == 4) = false := by rw [beq_eq_false_iff_ne]; omega
          have b5 : (nd.kind == 5) = false := by rw [beq_eq_false_iff_ne]; omega
          have b6 : (nd.kind == 6) = false := by rw [beq_eq_false_iff_ne]; omega
          have b7 : (nd.kind == 7) = false := by rw [beq_eq_false_iff_ne]; omega
          have b8 : (nd.kind == 8) = false := by rw [beq_eq_false_iff_ne]; omega
          have b9 : (nd.kind == 9) = false := by rw [beq_eq_false_iff_ne]; omega
          have hbp : Bp A x (1) := HK.out.one (by omega)
          obtain ⟨w', hput, hw', hx'⟩ := HW.out.put Hx.out hbp
          have HP : Hid (PrPost x X w eb ab nb lim A db (.returned (.int .i64 (1))) w') := ⟨_, rfl, hbp, hw', Hx2.out.trans (HX.out.trans hx' HX.out.size (fun _ _ e => e)) hs2 (fun _ _ e => e)⟩
          clear hbp hw' hx'
          clear hkd
          go_wp2_with fail
          go_ret
          exact HP.out
        · have b0 : (nd.kind == 0) = false := by rw [beq_eq_false_iff_ne]; omega
          have b1 : (nd.kind == 1) = false := by rw [beq_eq_false_iff_ne]; omega
          have b2 : (nd.kind == 2) = false := by rw [beq_eq_false_iff_ne]; omega
          have b3 : (nd.kind == 3) = false := by rw [beq_eq_false_iff_ne]; omega
          have b4 : (nd.kind == 4) = true := by simp [hkd]
          have b5 : (nd.kind == 5) = false := by rw [beq_eq_false_iff_ne]; omega
          have b6 : (nd.kind == 6) = false := by rw [beq_eq_false_iff_ne]; omega
          have b7 : (nd.kind == 7) = false := by rw [beq_eq_false_iff_ne]; omega
          have b8 : (nd.kind == 8) = false := by rw [beq_eq_false_iff_ne]; omega
          have b9 : (nd.kind == 9) = false := by rw [beq_eq_false_iff_ne]; omega
          have hl2 := HK.out.l2 hkd
          obtain ⟨n, q, ebs⟩ : ∃ n q, bs = [n, q] := by
            match bs, (show bs.length = 2 by have := Hbl.out; omega) with
            | [a, b], _ => exact ⟨a, b, rfl⟩
          subst ebs
          have hn := Hbs.out 0 (by omega)
          have hm := Hbs.out 1 (by omega)
          simp only [List.getD_cons_zero, List.getD_cons_succ] at hn hm
          obtain ⟨g, cap, rfl, hcl⟩ := own_cells HR.out (by simp)
          have cg := hcl 0 (by simp)
          have ch := hcl 1 (by simp)
          simp only [List.getElem_cons_zero, List.getElem_cons_succ] at cg ch
          have lg := cell_lt cg
          have hn0 := hn.1
          have hn1 : n ≤ 4611686018427387904 := hn.2.1
          have hm0 := hm.1
          have hm1 : q ≤ 4611686018427387904 := hm.2.1
          have hp0 := (plus_lt hn0).1
          have hp1 : plusZ n 1 ≤ 4611686018427387904 := (plus_lt hn0).2.1
          have hp2 : 0 ≤ plusZ n 1 := by omega
          have ht0 := (two_lt hm0).1
          have ht1 : twoZ q ≤ 4611686018427387904 := (two_lt hm0).2.1
          have ht2 : 0 ≤ twoZ q := by omega
          obtain ⟨hs0, hs1⟩ : 1 ≤ timesZ (plusZ n 1) (twoZ q) ∧ timesZ (plusZ n 1) (twoZ q) ≤ 4611686018427387904 := times_one hp0 hp1 ht0 ht1
          have Hbp := hideIt (HK.out.cat hkd n q hn hm)
          clear hcl hkd hn hm hl2
          have KP : Hid (∀ w2 : World, Below wr.heap.size wr w2 → w2.cell? ⟨g, 0, none⟩ = some (.int .i64 n) ∧ w2.cell? ⟨g, 1, none⟩ = some (.int .i64 q)) := fun w2 h => ⟨(h.cell (p := ⟨g, 0, none⟩) lg).trans cg, (h.cell (p := ⟨g, 1, none⟩) lg).trans ch⟩
          have HW7 := hideIt (HW.out.below (below_d wr))
          have HX7 := hideIt (HX.out.andThen (below_d wr) HX.out.size)
          have hbp : Bp A x (lessZ (timesZ (plusZ n 1) (twoZ q))) := Hbp.out
          obtain ⟨w', hput, hw', hx'⟩ := HW7.out.put Hx.out hbp
          have HP : Hid (PrPost x X w eb ab nb lim A db (.returned (.int .i64 (lessZ (timesZ (plusZ n 1) (twoZ q))))) w') := ⟨_, rfl, hbp, hw', Hx2.out.trans (HX7.out.trans hx' HX7.out.size (fun _ _ e => e)) hs2 (fun _ _ e => e)⟩
          clear hbp hw' hx'
          go_upto_region 37 with fail
          go_region_held3 (fun w' => w'.cell? ⟨g, 0, none⟩ = some (.int .i64 n) ∧ w'.cell? ⟨g, 1, none⟩ = some (.int .i64 q)) (first | (exact KP.out _ (below_d _)) | (exact KP.out _ (Below.refl _ _)) | go_keep)
            (first
              | (go_at_call 92; refine (plus_walk n 1 hn0 hn1 (by omega) (by omega) _).mono ?_; rintro e w5 ⟨rfl, hw5⟩; obtain rfl := hw5.symm)
              | (go_at_call 128; refine (two_walk (q) hm0 hm1 _).mono ?_; rintro e w5 ⟨rfl, hw5⟩; obtain rfl := hw5.symm)
              | (go_at_call 126; refine (times_walk (plusZ n 1) (twoZ q) hp2 hp1 ht2 _).mono ?_; rintro e w5 ⟨rfl, hw5⟩; obtain rfl := hw5.symm)
              | (go_at_call 127; refine (less_walk (timesZ (plusZ n 1) (twoZ q)) hs0 hs1 _).mono ?_; rintro e w5 ⟨rfl, hw5⟩; obtain rfl := hw5.symm))
          all_goals go_wp2_with fail
          all_goals go_ret
          all_goals exact HP.out
        · have b0 : (nd.kind == 0) = false := by rw [beq_eq_false_iff_ne]; omega
          have b1 : (nd.kind == 1) = false := by rw [beq_eq_false_iff_ne]; omega
          have b2 : (nd.kind == 2) = false := by rw [beq_eq_false_iff_ne]; omega
          have b3 : (nd.kind == 3) = false := by rw [beq_eq_false_iff_ne]; omega
          have b4 : (nd.kind == 4) = false := by rw [beq_eq_false_iff_ne]; omega
          have b5 : (nd.kind == 5) = true := by simp [hkd]
          have b6 : (nd.kind == 6) = false := by rw [beq_eq_false_iff_ne]; omega
          have b7 : (nd.kind == 7) = false := by rw [beq_eq_false_iff_ne]; omega
          have b8 : (nd.kind == 8) = false := by rw [beq_eq_false_iff_ne]; omega
          have b9 : (nd.kind == 9) = false := by rw [beq_eq_false_iff_ne]; omega
          have hl5 := HK.out.l5 (by omega)
          have Hkd := hideIt hkd
          clear hkd
          obtain ⟨g, cap, rfl, hcl⟩ := own_cells HR.out (by have := Hbl.out; omega)
          have Hcl := hideIt hcl
          have hbl2 : bs.length ≤ 65536 := by have := Hbl.out; omega
          obtain ⟨W, hW⟩ : ∃ W, W = wr := ⟨_, rfl⟩
          subst hW
          clear hcl
          go_wp2_with fail
          go_loopw [13, 59] (fun v i wz => ∃ (q : Nat) (n : Int), q ≤ bs.length ∧ i = .int .i64 q ∧ v = .int .i64 n ∧ Bu A nd q n ∧ wz = W) (fun _ i _ => bs.length - (intOf i).toNat)
          case atStart => exact ⟨0, 1, by omega, rfl, rfl, Bu.zero A nd, rfl⟩
          case round =>
            obtain ⟨q, n, hq, rfl, rfl, hbu, hwz⟩ := hrel
            obtain rfl := hwz
            have HBu := hideIt hbu
            have hn0 : 0 ≤ n := by have := hbu.1; omega
            have hn1 : n ≤ 4611686018427387904 := hbu.2.1
            have hu1 : 1 ≤ n := hbu.1
            by_cases hqt : q < bs.length
            · have hqt' : (q : Int) < (bs.length : Int) := by omega
              have cq := Hcl.out q hqt
              have hbq := Hbs.out q (by have := Hbl.out; omega)
              rw [getD_lt hqt] at hbq
              generalize bs[q] = p at *
              have hp0 := hbq.1
              have hp1 : p ≤ 4611686018427387904 := hbq.2.1
              have hq0 : 0 ≤ plusZ p 1 := by have := (plus_lt hp0).1; omega
              have HBn := hideIt (hbu.next hbq)
              clear hbu hbq
              go_wp2_with (first | (go_at_call 92; refine (plus_walk p 1 hp0 hp1 (by omega) (by omega) _).mono ?_; rintro e w5 ⟨rfl, hw5⟩; obtain rfl := hw5.symm) | (go_at_call 126; refine (times_walk (n) (plusZ p 1) hn0 hn1 hq0 _).mono ?_; rintro e w5 ⟨rfl, hw5⟩; obtain rfl := hw5.symm))
              go_roundw
              case rel => exact ⟨q + 1, timesZ n (plusZ p 1), by omega, by go_num, rfl, HBn.out, trivial⟩
              case measure => simp [intOf]; omega
            · obtain rfl : q = bs.length := by omega
              clear hbu
              have hbp : Bp A x (lessZ n) := HK.out.uni Hkd.out n (by rw [← Hbl.out]; exact HBu.out)
              obtain ⟨w', hput, hw', hx'⟩ := HW.out.put Hx.out hbp
              have HP : Hid (PrPost x X w eb ab nb lim A db (.returned (.int .i64 (lessZ n))) w') := ⟨_, rfl, hbp, hw', Hx2.out.trans (HX.out.trans hx' HX.out.size (fun _ _ e => e)) hs2 (fun _ _ e => e)⟩
              clear hbp hw' hx'

              go_wp2_with (go_at_call 127; refine (less_walk (n) hu1 hn1 _).mono ?_; rintro e w5 ⟨rfl, hw5⟩; obtain rfl := hw5.symm)
              go_ret
              exact HP.out
        · have b0 : (nd.kind == 0) = false := by rw [beq_eq_false_iff_ne]; omega
          have b1 : (nd.kind == 1) = false := by rw [beq_eq_false_iff_ne]; omega
          have b2 : (nd.kind == 2) = false := by rw [beq_eq_false_iff_ne]; omega
          have b3 : (nd.kind == 3) = false := by rw [beq_eq_false_iff_ne]; omega
          have b4 : (nd.kind == 4) = false := by rw [beq_eq_false_iff_ne]; omega
          have b5 : (nd.kind == 5) = false := by rw [beq_eq_false_iff_ne]; omega
          have b6 : (nd.kind == 6) = true := by simp [hkd]
          have b7 : (nd.kind == 7) = false := by rw [beq_eq_false_iff_ne]; omega
          have b8 : (nd.kind == 8) = false := by rw [beq_eq_false_iff_ne]; omega
          have b9 : (nd.kind == 9) = false := by rw [beq_eq_false_iff_ne]; omega
          have hl5 := HK.out.l5 (by omega)
          have Hkd := hideIt hkd
          clear hkd
          obtain ⟨g, cap, rfl, hcl⟩ := own_cells HR.out (by have := Hbl.out; omega)
          have Hcl := hideIt hcl
          have hbl2 : bs.length ≤ 65536 := by have := Hbl.out; omega
          obtain ⟨W, hW⟩ : ∃ W, W = wr := ⟨_, rfl⟩
          subst hW
          clear hcl
          go_wp2_with fail
          go_loopw [13, 74] (fun v i wz => ∃ (q : Nat) (n : Int), q ≤ bs.length ∧ i = .int .i64 q ∧ v = .int .i64 n ∧ Bi A nd q n ∧ wz = W) (fun _ i _ => bs.length - (intOf i).toNat)
          case atStart => exact ⟨0, 1, by omega, rfl, rfl, Bi.zero A nd, rfl⟩
          case round =>
            obtain ⟨q, n, hq, rfl, rfl, hbu, hwz⟩ := hrel
            obtain rfl := hwz
            have HBu := hideIt hbu
            have hn0 : 0 ≤ n := by have := hbu.1; omega
            have hn1 : n ≤ 4611686018427387904 := hbu.2.1
  
            by_cases hqt : q < bs.length
            · have hqt' : (q : Int) < (bs.length : Int) := by omega
              have cq := Hcl.out q hqt
              have hbq := Hbs.out q (by have := Hbl.out; omega)
              rw [getD_lt hqt] at hbq
              generalize bs[q] = p at *
              have hp0 := hbq.1
              have hp1 : p ≤ 4611686018427387904 := hbq.2.1
    
              have HBn := hideIt (hbu.next hbq)
              clear hbu hbq
              go_wp2_with (go_at_call 126; refine (times_walk (n) (p) hn0 hn1 hp0 _).mono ?_; rintro e w5 ⟨rfl, hw5⟩; obtain rfl := hw5.symm)
              go_roundw
              case rel => exact ⟨q + 1, timesZ n p, by omega, by go_num, rfl, HBn.out, trivial⟩
              case measure => simp [intOf]; omega
            · obtain rfl : q = bs.length := by omega
              clear hbu
              have hbp : Bp A x (n) := HK.out.int Hkd.out n (by rw [← Hbl.out]; exact HBu.out)
              obtain ⟨w', hput, hw', hx'⟩ := HW.out.put Hx.out hbp
              have HP : Hid (PrPost x X w eb ab nb lim A db (.returned (.int .i64 (n))) w') := ⟨_, rfl, hbp, hw', Hx2.out.trans (HX.out.trans hx' HX.out.size (fun _ _ e => e)) hs2 (fun _ _ e => e)⟩
              clear hbp hw' hx'

              go_wp2_with fail
              go_ret
              exact HP.out
        · have b0 : (nd.kind == 0) = false := by rw [beq_eq_false_iff_ne]; omega
          have b1 : (nd.kind == 1) = false := by rw [beq_eq_false_iff_ne]; omega
          have b2 : (nd.kind == 2) = false := by rw [beq_eq_false_iff_ne]; omega
          have b3 : (nd.kind == 3) = false := by rw [beq_eq_false_iff_ne]; omega
          have b4 : (nd.kind == 4) = false := by rw [beq_eq_false_iff_ne]; omega
          have b5 : (nd.kind == 5) = false := by rw [beq_eq_false_iff_ne]; omega
          have b6 : (nd.kind == 6) = false := by rw [beq_eq_false_iff_ne]; omega
          have b7 : (nd.kind == 7) = true := by simp [hkd]
          have b8 : (nd.kind == 8) = false := by rw [beq_eq_false_iff_ne]; omega
          have b9 : (nd.kind == 9) = false := by rw [beq_eq_false_iff_ne]; omega
          have hl1 := HK.out.l1 (Or.inl hkd)
          obtain ⟨n, ebs⟩ := List.length_eq_one_iff.1 (show bs.length = 1 by have := Hbl.out; omega)
          subst ebs
          have hn := Hbs.out 0 (by omega)
          simp only [List.getD_cons_zero] at hn
          obtain ⟨g, cap, rfl, hcl⟩ := own_cells HR.out (by simp)
          have cg := hcl 0 (by simp)
          simp only [List.getElem_cons_zero] at cg
          have hn0 := hn.1
          have hn1 : n ≤ 4611686018427387904 := hn.2.1
          clear hcl
          have hbp : Bp A x (plusZ n 1) := HK.out.comp hkd n hn
          obtain ⟨w', hput, hw', hx'⟩ := HW.out.put Hx.out hbp
          have HP : Hid (PrPost x X w eb ab nb lim A db (.returned (.int .i64 (plusZ n 1))) w') := ⟨_, rfl, hbp, hw', Hx2.out.trans (HX.out.trans hx' HX.out.size (fun _ _ e => e)) hs2 (fun _ _ e => e)⟩
          clear hbp hw' hx'
          clear hkd hn hl1
          go_wp2_with (go_at_call 92; refine (plus_walk n 1 hn0 hn1 (by omega) (by omega) _).mono ?_; rintro e w5 ⟨rfl, hw5⟩; obtain rfl := hw5.symm)
          go_ret
          exact HP.out
        · have b0 : (nd.kind == 0) = false := by rw [beq_eq_false_iff_ne]; omega
          have b1 : (nd.kind == 1) = false := by rw [beq_eq_false_iff_ne]; omega
          have b2 : (nd.kind == 2) = false := by rw [beq_eq_false_iff_ne]; omega
          have b3 : (nd.kind == 3) = false := by rw [beq_eq_false_iff_ne]; omega
          have b4 : (nd.kind == 4) = false := by rw [beq_eq_false_iff_ne]; omega
          have b5 : (nd.kind == 5) = false := by rw [beq_eq_false_iff_ne]; omega
          have b6 : (nd.kind == 6) = false := by rw [beq_eq_false_iff_ne]; omega
          have b7 : (nd.kind == 7) = false := by rw [beq_eq_false_iff_ne]; omega
          have b8 : (nd.kind == 8) = true := by simp [hkd]
          have b9 : (nd.kind == 9) = false := by rw [beq_eq_false_iff_ne]; omega
          have hl1 := HK.out.l1 (Or.inr (Or.inl hkd))
          obtain ⟨n, ebs⟩ := List.length_eq_one_iff.1 (show bs.length = 1 by have := Hbl.out; omega)
          subst ebs
          have hn := Hbs.out 0 (by omega)
          simp only [List.getD_cons_zero] at hn
          obtain ⟨g, cap, rfl, hcl⟩ := own_cells HR.out (by simp)
          have cg := hcl 0 (by simp)
          simp only [List.getElem_cons_zero] at cg
          have hn0 := hn.1
          have hn1 : n ≤ 4611686018427387904 := hn.2.1
          clear hcl
          have ht0 := (two_lt hn0).1
          have ht1 : twoZ n ≤ 4611686018427387904 := (two_lt hn0).2.1
          have hbp : Bp A x (lessZ (twoZ n)) := HK.out.star hkd n hn
          obtain ⟨w', hput, hw', hx'⟩ := HW.out.put Hx.out hbp
          have HP : Hid (PrPost x X w eb ab nb lim A db (.returned (.int .i64 (lessZ (twoZ n)))) w') := ⟨_, rfl, hbp, hw', Hx2.out.trans (HX.out.trans hx' HX.out.size (fun _ _ e => e)) hs2 (fun _ _ e => e)⟩
          clear hbp hw' hx'
          clear hkd hn hl1
          go_wp2_with (first | (go_at_call 128; refine (two_walk (n) hn0 hn1 _).mono ?_; rintro e w5 ⟨rfl, hw5⟩; obtain rfl := hw5.symm) | (go_at_call 127; refine (less_walk (twoZ n) ht0 ht1 _).mono ?_; rintro e w5 ⟨rfl, hw5⟩; obtain rfl := hw5.symm))
          go_ret
          exact HP.out
        · have b0 : (nd.kind == 0) = false := by rw [beq_eq_false_iff_ne]; omega
          have b1 : (nd.kind == 1) = false := by rw [beq_eq_false_iff_ne]; omega
          have b2 : (nd.kind == 2) = false := by rw [beq_eq_false_iff_ne]; omega
          have b3 : (nd.kind == 3) = false := by rw [beq_eq_false_iff_ne]; omega
          have b4 : (nd.kind == 4) = false := by rw [beq_eq_false_iff_ne]; omega
          have b5 : (nd.kind == 5) = false := by rw [beq_eq_false_iff_ne]; omega
          have b6 : (nd.kind == 6) = false := by rw [beq_eq_false_iff_ne]; omega
          have b7 : (nd.kind == 7) = false := by rw [beq_eq_false_iff_ne]; omega
          have b8 : (nd.kind == 8) = false := by rw [beq_eq_false_iff_ne]; omega
          have b9 : (nd.kind == 9) = true := by simp [hkd]
          have hl1 := HK.out.l1 (Or.inr (Or.inr hkd))
          obtain ⟨n, ebs⟩ := List.length_eq_one_iff.1 (show bs.length = 1 by have := Hbl.out; omega)
          subst ebs
          have hn := Hbs.out 0 (by omega)
          simp only [List.getD_cons_zero] at hn
          obtain ⟨g, cap, rfl, hcl⟩ := own_cells HR.out (by simp)
          have cg := hcl 0 (by simp)
          simp only [List.getElem_cons_zero] at cg
          have hn0 := hn.1
          have hn1 : n ≤ 4611686018427387904 := hn.2.1
          clear hcl
          have lg := cell_lt cg
          have hrn := HK.out.rn hkd
          have hr0 : 0 ≤ rnd nd := by omega
          have hs0 : 0 ≤ timesZ n (rnd nd) := (times_lt hn0 hr0 hn1 (by unfold TM; omega)).1
          have hs1 : timesZ n (rnd nd) ≤ 4611686018427387904 := (times_lt hn0 hr0 hn1 (by unfold TM; omega)).2.1
          have ht0 := (two_lt hs0).1
          have ht1 : twoZ (timesZ n (rnd nd)) ≤ 4611686018427387904 := (two_lt hs0).2.1
          have Hbp := hideIt (HK.out.loop hkd n hn)
          have lbx := heap_lt hbxr
          clear hkd hn hl1
          have KP : Hid (∀ w2 : World, Below wr.heap.size wr w2 → w2.cell? ⟨g, 0, none⟩ = some (.int .i64 n) ∧ w2.cell? ⟨w1.heap.size, 0, none⟩ = some (.int .i64 nd.kind) ∧ w2.cell? ⟨w1.heap.size, 1, none⟩ = some (.slice sa nd.bits.length sc) ∧ w2.cell? ⟨w1.heap.size, 2, none⟩ = some (.slice ka nd.kids.length kc) ∧ w2.cell? ⟨w1.heap.size, 3, none⟩ = some (.int .i64 nd.lo) ∧ w2.cell? ⟨w1.heap.size, 4, none⟩ = some (.int .i64 nd.hi)) := fun w2 h => ⟨(h.cell (p := ⟨g, 0, none⟩) lg).trans cg, (h.cell (p := ⟨w1.heap.size, 0, none⟩) lbx).trans f0, (h.cell (p := ⟨w1.heap.size, 1, none⟩) lbx).trans f1, (h.cell (p := ⟨w1.heap.size, 2, none⟩) lbx).trans f2, (h.cell (p := ⟨w1.heap.size, 3, none⟩) lbx).trans f3, (h.cell (p := ⟨w1.heap.size, 4, none⟩) lbx).trans f4⟩
          go_upto_region 41 with fail
          go_region_held3 (fun w' => w'.cell? ⟨g, 0, none⟩ = some (.int .i64 n) ∧ w'.cell? ⟨w1.heap.size, 0, none⟩ = some (.int .i64 nd.kind) ∧ w'.cell? ⟨w1.heap.size, 1, none⟩ = some (.slice sa nd.bits.length sc) ∧ w'.cell? ⟨w1.heap.size, 2, none⟩ = some (.slice ka nd.kids.length kc) ∧ w'.cell? ⟨w1.heap.size, 3, none⟩ = some (.int .i64 nd.lo) ∧ w'.cell? ⟨w1.heap.size, 4, none⟩ = some (.int .i64 nd.hi)) (first | (exact KP.out _ hbR) | (exact KP.out _ (below_d _)) | (exact KP.out _ (Below.refl _ _)) | go_keep)
            (first
              | (go_at_call 129; have hbQ : Below wr.heap.size wr wr.drew := below_d _; refine (rounds_walk nd _ _ _).mono ?_; rintro e w6 ⟨rfl, hb6⟩; have hbR : Below wr.heap.size wr w6 := hbQ.trans (hb6.mono hbQ.size); have HX7 := hideIt (HX.out.andThen hbR HX.out.size); obtain ⟨w', hput, hw', hx'⟩ := (HW.out.below hbR).put Hx.out Hbp.out; have HP : Hid (PrPost x X w eb ab nb lim A db (.returned (.int .i64 (lessZ (twoZ (timesZ n (rnd nd)))))) w') := ⟨_, rfl, Hbp.out, hw', Hx2.out.trans (HX7.out.trans hx' HX7.out.size (fun _ _ e => e)) hs2 (fun _ _ e => e)⟩; clear hw' hx')
              | (go_at_call 126; refine (times_walk (n) (rnd nd) hn0 hn1 hr0 _).mono ?_; rintro e w5 ⟨rfl, hw5⟩; obtain rfl := hw5.symm)
              | (go_at_call 128; refine (two_walk (timesZ n (rnd nd)) hs0 hs1 _).mono ?_; rintro e w5 ⟨rfl, hw5⟩; obtain rfl := hw5.symm)
              | (go_at_call 127; refine (less_walk (twoZ (timesZ n (rnd nd))) ht0 ht1 _).mono ?_; rintro e w5 ⟨rfl, hw5⟩; obtain rfl := hw5.symm))
          all_goals go_wp2_with fail
          all_goals go_ret
          all_goals exact HP.out

/-- StateBound. -/
theorem StateBound_walk {X : Nat → Prop} {w : World} {eb mb ab nb : Nat} {lim : Int} {A : List Nd} (hE : Es X w eb mb ab nb lim A) {x : Int} (hx : Valid A x) :
    Calls Tryz.prog 45 #[.pointer (some ⟨eb, 0, none⟩), .int .i64 x] w fun e w' => ∃ n, e = .returned (.int .i64 (plusZ n 2)) ∧ Bp A x n ∧ Below w.heap.size w w' := by
  have hb0 : Below w.heap.size w (w.alloc (.map #[] 0)) := alloc_below _
  obtain ⟨b1, b2, b3, he2⟩ := (hE.below hb0).en.eng
  have e0 := box_cell he2 0
  simp only [List.getElem?_toArray, List.getElem?_cons_zero] at e0
  have HW : Hid (PrS X (w.alloc (.map #[] 0)) eb ab nb lim A w.heap.size) := ⟨(hE.below hb0).en.st, e0, fun _ => .int .i64 0, [], Mp.made _ _ _, fun k hk => absurd hk (by simp)⟩
  have Hx := hideIt hx
  have hmm := @run_makeMap Tryz.prog
  clear hE hx he2 e0 hb0
  go_enter Tryz.func45, Tryz.ntmps45
  go_wp2_with fail
  go_at_call 93
  refine (proper_walk _ x rfl _ HW.out Hx.out).mono ?_
  rintro e w1 ⟨n, rfl, hbd, _, hx1⟩
  have Hbd := hideIt hbd
  have hn0 := hbd.1
  have hn1 : n ≤ 4611686018427387904 := hbd.2.1
  have HB : Hid (Below w.heap.size w w1) := (alloc_below (w := w) (.map #[] 0)).trans (hx1.below' (by rw [Deep.nblk_alloc]; omega) (fun k hk e => by omega))
  clear hbd hx1
  go_wp2_with (go_at_call 92; refine (plus_walk n 2 hn0 hn1 (by omega) (by omega) _).mono ?_; rintro e w5 ⟨rfl, rfl⟩)
  go_ret
  exact ⟨n, rfl, Hbd.out, HB.out⟩
end Go.Proofs.Qxb6500848aGreatDoor
