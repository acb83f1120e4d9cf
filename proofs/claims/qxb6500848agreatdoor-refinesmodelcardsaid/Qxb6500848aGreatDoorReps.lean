/-
  Classes, representatives.
-/
import Derived.Test.Qxb6500848aGreatDoorClasses
import Derived.Test.Qxb6500848aGreatDoorMintC
namespace Go.Proofs.Qxb6500848aGreatDoor
open Go.RowKit Pl Go.Maps
set_option maxRecDepth 100000

def cw (w : World) (ab : Nat) : World := ((((w.alloc (.cells #[.pointer (some ⟨ab, 0, none⟩)] 35)).alloc (.cells #[.slice none 0 0] 42)).alloc (.map #[] 0)).alloc (.cells #[.map (some (w.heap.size + 1 + 1))] 82)).alloc (.cells #[fvV w.heap.size] 107)

theorem new_at (w : World) (o : Obj) {n : Nat} (h : w.heap.size = n) : (w.alloc o).heap[n]? = some o := by subst h; exact heap_new w o

theorem cv_start (X : Nat → Prop) (w : World) (ab : Nat) (A : List Nd) : CV X w ab A (cw w ab) (fun _ => .bool true) [] (.slice none 0 0) [] [] := by
  have s1 : ∀ (W : World) (o : Obj), (W.alloc o).heap.size = W.heap.size + 1 := Deep.nblk_alloc
  have lt : ∀ (W : World) (o : Obj) (b : Nat) (q : Obj), W.heap[b]? = some q → (W.alloc o).heap[b]? = some q := fun W o b q h => (Deep.blk_alloc_lt W o b (heap_lt h)).trans h
  unfold cw
  refine ⟨?_, ?_, ?_, ?_, ?_, ?_, fun k hk => absurd hk (by simp), ⟨by simp, Or.inl ⟨rfl, rfl⟩⟩, rfl, by simp, fun i h => absurd h (by simp), fun l h => absurd h (by simp)⟩
  · exact ((((alloc_below _).trans ((alloc_below _).mono (by rw [s1]; omega))).trans ((alloc_below _).mono (by rw [s1, s1]; omega))).trans ((alloc_below _).mono (by rw [s1, s1, s1]; omega))).trans ((alloc_below _).mono (by rw [s1, s1, s1, s1]; omega))
  · exact lt _ _ _ _ (lt _ _ _ _ (lt _ _ _ _ (lt _ _ _ _ (heap_new _ _))))
  · exact lt _ _ _ _ (lt _ _ _ _ (lt _ _ _ _ (new_at _ _ (by rw [s1]))))
  · exact lt _ _ _ _ (new_at _ _ (by rw [s1, s1, s1]))
  · exact new_at _ _ (by rw [s1, s1, s1, s1])
  · have m := Mp.made 28 ((w.alloc (.cells #[.pointer (some ⟨ab, 0, none⟩)] 35)).alloc (.cells #[.slice none 0 0] 42)) (fun _ => .bool true)
    rw [s1, s1] at m
    have m1 := m.ext (Ext.of_below (alloc_below (.cells #[.map (some (w.heap.size + 1 + 1))] 82)) (fun _ => False)) m.lt id
    exact m1.ext (Ext.of_below (alloc_below (.cells #[fvV w.heap.size] 107)) (fun _ => False)) m1.lt id

/-- What Classes hands back. -/
def KPost (A : List Nd) (x : Int) (X : Nat → Prop) (w : World) (e : Ending) (w' : World) : Prop := ∃ v F, e = .returned v ∧ Sets X w' v F ∧ (∀ s ∈ F, Cl s) ∧ F.length ≤ 65536 ∧ IsCls A x F ∧ Below w.heap.size w w'

theorem CV.sets {X : Nat → Prop} {w0 : World} {ab : Nat} {A : List Nd} {w : World} {get : Lit → Value} {ks : List Lit} {v : Value} {vs : List Value} {L : List (List Nat)} (h : CV X w0 ab A w get ks v vs L) (hX : ∀ z, X z → z < w0.heap.size) : Sets X w v L := by
  refine ⟨vs, h.len, ?_, fun i hi hi' => (h.wds i hi hi').below h.below (Nat.le_refl _)⟩
  obtain ⟨h1, h2⟩ := h.row
  rcases h2 with ⟨e, h0⟩ | ⟨g, cap, cur, e, hb, hh, r1, r2, r3, r4⟩
  · have : vs = [] := List.length_eq_zero_iff.1 h0
    subst this
    rw [e]
    exact Seq.nil X w
  · refine ⟨_, cap, e, r1, r2, fun _ => ⟨g, 0, rfl, fun x => by have := hX g x; omega, fun j hj => ?_⟩⟩
    have e2 : (cur.toList.take (vs.length * 1))[j]? = vs[j]? := by rw [r4]
    rw [List.getElem?_take_of_lt (by omega)] at e2
    simp only [World.cell?, hh]
    simp [hj] at e2
    simpa using e2

set_option maxHeartbeats 2000000 in
theorem classes_walk {X : Nat → Prop} {w : World} {ab nb : Nat} {lim : Int} {A : List Nd} (hS : St X w ab nb lim A) {x : Int} (hx : Valid A x) :
    Calls Tryz.prog 17 #[.pointer (some ⟨ab, 0, none⟩), .int .i64 x] w (KPost A x X w) := by
  have HS := hideIt hS
  have Hx := hideIt hx
  have HV0 := hideIt (cv_start X w ab A)
  have HCR0 : Hid (CR A (Rch A x) [] []) := ⟨fun _ h => absurd h (by simp), fun _ h => absurd h (by simp)⟩
  have HRS : Hid (∀ y k, Rch A x y → k ∈ (nodeAt A y).kids → Rch A x k) := fun y k a b => Rch.step a b
  clear hS hx
  have hmm := @run_makeMap Tryz.prog
  have hsf := fun (a : Addr) (c : Array Value) (w : World) => run_store Tryz.prog w a (.func (.func 74) #[] c) .plain rfl
  go_enter Tryz.func17, Tryz.ntmps17
  go_wp2_with (go_at_call 74; refine (visit_walk HS.out (Rch A x) HRS.out _ x rfl Hx.out Rch.refl (cw w ab) _ _ _ _ _ HV0.out HCR0.out).mono ?_; rintro e w1 ⟨get1, ks1, v1, vs1, L1, rfl, hV1, hC1, hG1, hI1⟩; have HIS := hideIt (isCls_of hC1 hG1 hI1); clear hC1 hG1 hI1; obtain ⟨_, t1, _, _⟩ := hV1.cells)
  go_ret
  have h1 := hV1.cnt
  have h2 := hV1.few
  have h3 := HS.out.ar.len
  exact ⟨v1, L1, rfl, hV1.sets HS.out.xlt, hV1.cls, by omega, HIS.out, hV1.below⟩

/-- The machine's own block: the arena, the engine. -/
def Mk (w : World) (kb ab eb : Nat) : Prop := w.cell? ⟨kb, 0, none⟩ = some (.pointer (some ⟨ab, 0, none⟩)) ∧ w.cell? ⟨kb, 1, none⟩ = some (.pointer (some ⟨eb, 0, none⟩))

/-- P is the row of the minterms of the classes of x. -/
def Mts (tab : Nat → Int) (A : List Nd) (x : Int) (P : List (List Nat)) : Prop := Good P ∧ ∃ F, (∀ s ∈ F, Cl s) ∧ IsCls A x F ∧ P.Perm (mtF F) ∧ P.Pairwise (fun p q => minF tab p ≤ minF tab q)

/-- What representatives hands back. -/
def RPost (tab : Nat → Int) (A : List Nd) (x : Int) (X : Nat → Prop) (w : World) (e : Ending) (w' : World) : Prop := ∃ v P, e = .returned v ∧ Ints X w' v (P.map (minF tab)) ∧ P.length ≤ 196608 ∧ Mts tab A x P ∧ Below w.heap.size w w'

set_option maxHeartbeats 2000000 in
theorem reps_walk {tab : Nat → Int} (ht : ∀ j, j < 64 → 0 ≤ tab j ∧ tab j ≤ 255) {X : Nat → Prop} {w : World} {ab nb kb eb : Nat} {lim : Int} {A : List Nd} (hS : St X w ab nb lim A) (hg : Gd tab w) (hw0 : 3 < w.heap.size) (hk : Mk w kb ab eb) {x : Int} (hx : Valid A x) :
    Calls Tryz.prog 29 #[.pointer (some ⟨kb, 0, none⟩), .int .i64 x] w (RPost tab A x X w) := by
  have HS := hideIt hS
  have Hx := hideIt hx
  have Hg := hideIt hg
  have Ht := hideIt ht
  have Hw0 := hideIt hw0
  obtain ⟨k0, k1⟩ := hk
  obtain ⟨i0, hi0, hz0, hz1, hz2⟩ := info_parts info_int
  clear hS hx hg ht hw0
  go_enter Tryz.func29, Tryz.ntmps29
  go_wp2_with (first
    | (go_at_call 17; refine (classes_walk HS.out Hx.out).mono ?_; rintro e w1 ⟨v1, F, rfl, hF, hcl, hfl, hIs, hb1⟩; have HF := hideIt hF; have HIs := hideIt hIs; clear hIs; have Hcl := hideIt hcl; have Hfl := hideIt hfl; have HB1 := hideIt hb1; clear hF hcl hfl hb1)
    | (go_at_call 16; refine (minterms_walk Ht.out (Hg.out.below HB1.out Hw0.out) (Nat.lt_of_lt_of_le Hw0.out HB1.out.size) HF.out Hcl.out Hfl.out).mono ?_; rintro e w2 ⟨v2, P, rfl, ⟨vs, hvl, ⟨pa, pc, rfl, p1, p2, p3⟩, hvw⟩, hG, hPl, hPm, hPs, hb2⟩; have HMts : Hid (Mts tab A x P) := ⟨hG, F, Hcl.out, HIs.out, hPm, hPs⟩; clear hPm hPs; have P3 := hideIt p3; have HVW := hideIt hvw; have HG := hideIt hG; have HB2 := hideIt hb2; have HVL := hideIt hvl; have hvs : vs.length ≤ 196608 := (by omega); clear p3 hvw hG hb2 hvl hPl))
  have hB2 : Below w.heap.size w w2 := HB1.out.trans (HB2.out.mono HB1.out.size)
  have HBB := hideIt hB2
  clear hB2
  go_loopw [5, 16] (fun v i wr => ∃ (k : Nat) (cs : List Int), k ≤ vs.length ∧ i = .int .i64 k ∧ cs.length = k ∧ cs = (P.take k).map (minF tab) ∧ wr.ownsRow w2.heap.size 3 1 v cs.length (cs.map encI) ∧ Below w2.heap.size w2 wr) (fun _ i _ => vs.length - (intOf i).toNat)
  case atStart => exact ⟨0, [], by omega, rfl, rfl, by simp, ⟨by simp, Or.inl ⟨rfl, rfl⟩⟩, Below.refl _ _⟩
  case round =>
    obtain ⟨k, cs, hk, rfl, hcl, hcs, hown, hb⟩ := hrel
    by_cases hlt : k < vs.length
    · have hlt' : (k : Int) < (vs.length : Int) := by omega
      obtain ⟨g, o, rfl, hxg, hc⟩ := P3.out (fun e => by rw [e] at hlt; cases hlt)
      have gl : g < w2.heap.size := cell_lt (hc k hlt)
      have c0 := (hb.cell (p := ⟨g, o + k, none⟩) gl).trans (hc k hlt)
      have hkP : k < P.length := by have := HVL.out; omega
      have hw := (HVW.out k hlt hkP).below hb (Nat.le_refl _)
      have hgp := HG.out _ (List.getElem_mem hkP)
      have Hmin := hideIt (min_walk Ht.out ((Hg.out.below HBB.out Hw0.out).below (hb.mono HBB.out.size) Hw0.out) hw hgp.1 (cnt_pos hgp.2))
      have Hown := hideIt hown
      have HB := hideIt hb
      have hwr := hb.size
      have Hcs : Hid (cs ++ [minF tab P[k]] = (P.take (k + 1)).map (minF tab)) := by
        show _ = _
        rw [List.take_succ_eq_append_getElem hkP, List.map_append, ← hcs]; rfl
      clear hcs
      generalize P[k] = p at *
      generalize vs[k] = pv at *
      generalize minF tab p = mn at *
      clear hc hw hgp hown hb
      go_wp2_with (first
        | (go_at_call 23; refine Hmin.out.mono ?_; rintro e w3 ⟨rfl, hw3⟩; obtain rfl := hw3.symm)
        | (at_builtin; refine wpList_append_own_at _ rfl (.tmp 20) (.tmp 23) 24 rfl w2.heap.size 3 i0 (.int .i64 0) 1 8 Tryz.underlying24 hi0 hz0 hz1 hz2 rfl (by decide) _ _ _ rfl (Hown.out.alloc _) ⟨wr.heap.size, 0, none⟩ 1 1 ([mn].map encI) rfl rfl (World.news_of_block (cs := #[.int .i64 mn]) (t := 3) (fr := (0, 0)) (heap_new _ _)) (one_ints _) (by unfold maxLen; omega) (by omega) (Nat.le_trans hwr (alloc_below _).size) ?_; intro v' w5 hown5 hgrow5 _ _))
      go_roundw
      case rel => exact ⟨k + 1, cs ++ [mn], by omega, by go_num, by simp [hcl], Hcs.out, by simpa using hown5, (HB.out.alloc hwr _).grown hgrow5 (Nat.le_trans hwr (alloc_below _).size) (fun q e => (ownsRow_block Hown.out e).1)⟩
      case measure => simp [intOf]; omega
    · obtain rfl : k = vs.length := by omega
      have Hown := hideIt hown
      have hPk : P.take vs.length = P := List.take_of_length_le (by have := HVL.out; omega)
      have HcsE : Hid (cs = P.map (minF tab)) := by rw [hPk] at hcs; exact hcs
      have hPl2 : P.length ≤ 196608 := by have := HVL.out; omega
      clear hcs hPk
      have HB := hideIt hb
      clear hown hb
      go_wp2_with fail
      go_ret
      have hI := own_intsT Hown.out
      rw [HcsE.out] at hI
      exact ⟨_, P, rfl, hI.1.more (fun b _ x => by show b < _; have := HS.out.xlt b x; have := HBB.out.size; omega), hPl2, HMts.out, HBB.out.trans (HB.out.mono HBB.out.size)⟩
end Go.Proofs.Qxb6500848aGreatDoor
