/-
  swapPairs: the script with its pairs exchanged.
-/
import Derived.Test.Qxb6500847aGreatDoorOxLz
import Derived.Test.Qxb6500847aGreatDoorDfB
import Derived.Deep.MidRow
import Derived.Laws.AppendOwnNone
namespace Go.Proofs.Qxb6500847aGreatDoor.Os
open Go.RowKit FloorA
set_option maxRecDepth 100000
/-- Which step stands at place j of the twin. -/
def swp (len j : Nat) : Nat := if j % 2 = 1 then j - 1 else if j + 1 < len then j + 1 else j
/-- The same, of the first i places. -/
def swI (len i j : Nat) : Nat := if j < i then swp len j else j
theorem swp_lt {len j : Nat} (h : j < len) : swp len j < len := by unfold swp; split <;> (try split) <;> omega
theorem inf37 : (Tryz.prog.info? 37).map (fun i => (i.zero, i.size, i.bytes)) = some (some (.agg #[.int .u8 0, .int .u16 0, .int .u32 0, .int .u16 0, .int .u32 0, .int .u8 0, .int .u8 0, .int .u16 0, .int .u16 0, .int .u64 0, .int .u64 0, .slice none 0 0]), 12, 72) := by kernel_rfl
theorem un37 : ∃ d, Tryz.prog.underlying 37 = some d ∧ d.isRow = true := ⟨_, Tryz.underlying37, rfl⟩
def opCs (f : Nat → OpV) (n : Nat) : List Value := (List.range n).flatMap (fun i => (f i).arr.toList)
theorem add_z (g k : Nat) : (⟨g, 0, none⟩ : Addr).add k = ⟨g, k, none⟩ := by unfold Addr.add; by_cases e : k = 0 <;> simp [e]
theorem arr_len (v : OpV) : v.arr.toList.length = 12 := rfl
theorem opCs_len (f : Nat → OpV) : ∀ n, (opCs f n).length = n * 12
  | 0 => rfl
  | n + 1 => by
    have hs : opCs f (n + 1) = opCs f n ++ (f n).arr.toList := by unfold opCs; rw [List.range_succ, List.flatMap_append]; simp
    rw [hs, List.length_append, opCs_len f n, arr_len]
    omega
theorem opCs_at (f : Nat → OpV) : ∀ (n i j : Nat), i < n → j < 12 → (opCs f n)[i * 12 + j]? = (f i).arr.toList[j]?
  | n + 1, i, j, hi, hj => by
    have hs : opCs f (n + 1) = opCs f n ++ (f n).arr.toList := by unfold opCs; rw [List.range_succ, List.flatMap_append]; simp
    rw [hs]
    by_cases q : i < n
    · rw [List.getElem?_append_left (by rw [opCs_len]; omega)]
      exact opCs_at f n i j q hj
    · obtain rfl : i = n := by omega
      rw [List.getElem?_append_right (by rw [opCs_len]; omega), opCs_len]
      congr 1
      omega
theorem OpAt.one {w : World} {b o : Nat} {v : OpV} (h : OpAt w b o v) : ∀ u ∈ v.arr.toList, u.oneCell' = true := by
  have hw : v.wv.oneCell' = true := by
    rcases h.ws with ⟨_, ad, c, e⟩ | ⟨b, o, c, e, _⟩ <;> rw [e] <;> rfl
  intro u hu
  simp only [OpV.arr, opA, List.mem_cons, List.not_mem_nil, or_false] at hu
  rcases hu with rfl | rfl | rfl | rfl | rfl | rfl | rfl | rfl | rfl | rfl | rfl | rfl <;> first | rfl | exact hw
/-- The new list in block g: place p bears step h p. -/
structure Opw (f : Nat → OpV) (len g : Nat) (h : Nat → Nat) (w : World) : Prop where
  at_ : ∀ p, p < len → w.rangeAt g (p * 12) (f (h p)).arr.toList
  fz : ∀ o, w.frozen? ⟨g, o, none⟩ = false
section
variable {f : Nat → OpV} {len g i : Nat} {h : Nat → Nat} {w w' : World}
theorem Opw.drew (k : Opw f len g h w) : Opw f len g h w.drew := ⟨fun p hp => (World.rangeAt_drew w g _ _).2 (k.at_ p hp), fun o => k.fz o⟩
theorem Opw.there (k : Opw f len g h w) {p : Nat} (hp : p < len) : w.there g (p * 12) 12 := fun j hj => ⟨(k.at_ p hp).isSome j hj, k.fz _⟩
theorem Opw.set (k : Opw f len g h w) {p q : Nat} (hp : p < len) : Opw f len g (fun z => if z = p then q else h z) (w.setCells g (p * 12) (f q).arr.toList) := by
  refine ⟨fun z hz => ?_, fun o => by rw [World.frozen?_setCells]; exact k.fz o⟩
  by_cases e : z = p
  · subst e
    rw [if_pos rfl]
    exact World.rangeAt_setCells_same w g _ _ (k.there hp)
  · rw [if_neg e]
    exact World.rangeAt_setCells_apart (k.at_ z hz) g _ _ (Or.inr (by
      rw [arr_len, arr_len]
      rcases Nat.lt_or_gt_of_ne e with q | q
      · exact Or.inl (by omega)
      · exact Or.inr (by omega)))
theorem Opw.swap (k : Opw f len g (swI len i) w) (hi : i % 2 = 0) (h1 : i + 1 < len) : Opw f len g (swI len (i + 2)) ((w.setCells g (i * 12) (f (i + 1)).arr.toList).setCells g ((i + 1) * 12) (f i).arr.toList) := by
  have key := (k.set (p := i) (q := i + 1) (by omega)).set (p := i + 1) (q := i) h1
  refine ⟨fun z hz => ?_, key.fz⟩
  have := key.at_ z hz
  have e : (if z = i + 1 then i else if z = i then i + 1 else swI len i z) = swI len (i + 2) z := by
    unfold swI swp
    by_cases a : z = i + 1
    · rw [if_pos a, if_pos (show z < i + 2 by omega), if_pos (show z % 2 = 1 by omega)]; omega
    · by_cases b : z = i
      · rw [if_neg a, if_pos b, if_pos (show z < i + 2 by omega), if_neg (show ¬ z % 2 = 1 by omega), if_pos (show z + 1 < len by omega)]; omega
      · rw [if_neg a, if_neg b]
        by_cases c : z < i
        · rw [if_pos c, if_pos (show z < i + 2 by omega)]
        · rw [if_neg c, if_neg (show ¬ z < i + 2 by omega)]
  rw [← e]
  exact this
theorem Opw.fin (k : Opw f len g (swI len i) w) (hi : i % 2 = 0) (hl : i ≤ len) (h1 : ¬ i + 1 < len) : Opw f len g (swp len) w := by
  refine ⟨fun z hz => ?_, k.fz⟩
  have := k.at_ z hz
  have e : swI len i z = swp len z := by
    unfold swI swp
    by_cases c : z < i
    · rw [if_pos c]
    · rw [if_neg c, if_neg (show ¬ z % 2 = 1 by omega), if_neg (show ¬ z + 1 < len by omega)]
  rw [← e]
  exact this
theorem Below.setCells {b : Nat} (k : Below b w w') (o : Nat) (vs : List Value) {q : Nat} (hq : b ≤ q) : Below b w (w'.setCells q o vs) := Below.cells k hq vs o
end
section
variable {P : Program} {ops : Array Oper} {o : Oper} {a : Act} {w : World} {K : Act → World → Prop} {Q : Exit → Act → World → Prop} {E : Prop}
theorem step_load_mid (hg : o.guard = none) (ty : TypeId) (x : Operand) (ho : o.op = .load ty x) (b off : Nat) (hx : a.eval x = .pointer (some ⟨b, off, none⟩)) (cs : List Value) (d : TypeDesc) (hc : w.rangeAt b off cs)
    (hu : P.underlying ty = some d) (hd : d.isRow = true) (hi : (P.info? ty).map (·.size) = some cs.length) (h : K (a.put o.dst (.agg cs.toArray)) w) : if Region.wanted o (yielded ops a.tmps) = true then Oper.wp P o a w K Q else E := by
  have hw : Region.wanted o (yielded ops a.tmps) = true := by simp [Region.wanted, hg]
  rw [if_pos hw]
  exact wp_load_mid ty x ho b off hx cs d hc hu hd hi h
theorem step_store_mid (hg : o.guard = none) (ty : TypeId) (x y : Operand) (ho : o.op = .store ty x y) (b off : Nat) (cells : Array Value) (hx : a.eval x = .pointer (some ⟨b, off, none⟩)) (hy : a.eval y = .agg cells)
    (ht : w.there b off cells.size) (hi : (P.info? ty).map (·.size) = some cells.size) (h1 : cells.all (·.oneCell') = true) (h : K (a.put o.dst undef) (w.setCells b off cells.toList)) : if Region.wanted o (yielded ops a.tmps) = true then Oper.wp P o a w K Q else E := by
  have hw : Region.wanted o (yielded ops a.tmps) = true := by simp [Region.wanted, hg]
  rw [if_pos hw]
  exact wp_store_mid ty x y ho b off cells hx hy ht hi h1 h
end
/-- What swapPairs leaves. -/
def SwP (f : Nat → OpV) (len : Nat) (w : World) (e : Ending) (w' : World) : Prop := Below w.heap.size w w' ∧ ∃ ad c, e = .returned (.slice ad len c) ∧ (0 < len → ∃ g, ad = some ⟨g, 0, none⟩ ∧ w.heap.size ≤ g ∧ g < w'.heap.size ∧ ∀ p, p < len → OpAt w' g (p * 12) (f (swp len p)))
set_option linter.unusedSimpArgs false in
set_option maxHeartbeats 8000000 in
theorem swap_walk (w : World) (a0 : Option Addr) (b off len cap : Nat) (f : Nat → OpV) (hln : len ≤ 65536) (ha : 0 < len → a0 = some ⟨b, off, none⟩) (hn : a0 = none → len = 0 ∧ cap = 0) (hops : ∀ i, i < len → OpAt w b (off + i * 12) (f i)) :
    Calls Tryz.prog 27 #[.slice a0 len cap] w (SwP f len w) := by
  obtain ⟨i8, hi8, hz8, hs8, hb8⟩ := info_parts inf37
  obtain ⟨d37, hu37, hd37⟩ := un37
  have HOP := hideIt hops
  have HO0 : Hid (∀ W : World, W.ownsRow w.heap.size 37 12 (.slice none 0 0) 0 []) := fun W => ⟨rfl, Or.inl ⟨rfl, rfl⟩⟩
  rcases a0 with _ | ad
  · obtain ⟨rfl, rfl⟩ := hn rfl
    clear ha hn hops
    go_enter Tryz.func27, Tryz.ntmps27
    go_wp2_with (at_builtin; refine wpList_append_own_none rfl (.const (.slice none 0 0)) (.tmp 5) 22 rfl w.heap.size 37 i8 12 Tryz.underlying22 hi8 _ _ _ rfl (HO0.out w) rfl ?_)
    go_loopw [4] (fun v4 wr => v4 = .int .i64 0 ∧ wr = w) (fun _ _ => 0)
    case atStart => exact ⟨rfl, rfl⟩
    case round =>
      obtain ⟨rfl, hwr⟩ := hrel
      subst hwr
      go_wp2_with fail
      go_ret
      exact ⟨Below.refl _ _, _, _, rfl, fun q => absurd q (by omega)⟩
  · have HNW : Hid (∀ j u, (opCs f len)[j]? = some u → w.cell? (ad.add j) = some u) := fun j u hu => by
      by_cases q : 0 < len
      · obtain rfl : ad = ⟨b, off, none⟩ := Option.some.inj (ha q)
        have hj : j < len * 12 := by
          rw [← opCs_len f len]
          exact (List.getElem?_eq_some_iff.1 hu).1
        have ej : j = j / 12 * 12 + j % 12 := by omega
        rw [ej, opCs_at f len _ _ (by omega) (by omega)] at hu
        have := (hops (j / 12) (by omega)).rng (j % 12) u hu
        have ead : (⟨b, off, none⟩ : Addr).add j = ⟨b, off + j, none⟩ := by unfold Addr.add; by_cases e : j = 0 <;> simp [e]
        rw [ead]
        rw [Nat.add_assoc, ← ej] at this
        exact this
      · obtain rfl : len = 0 := by omega
        simp [opCs] at hu
    have HON : Hid (∀ u ∈ opCs f len, u.oneCell' = true) := fun u hu => by
      unfold opCs at hu
      obtain ⟨i, hi, hu⟩ := List.mem_flatMap.1 hu
      exact (hops i (List.mem_range.1 hi)).one u hu
    have HCL := hideIt (opCs_len f len)
    clear ha hn hops
    go_enter Tryz.func27, Tryz.ntmps27
    go_wp2_with (at_builtin; refine wpList_append_own_at _ rfl (.const (.slice none 0 0)) (.tmp 5) 22 rfl w.heap.size 37 i8 (.agg #[.int .u8 0, .int .u16 0, .int .u32 0, .int .u16 0, .int .u32 0, .int .u8 0, .int .u8 0, .int .u16 0, .int .u16 0, .int .u64 0, .int .u64 0, .slice none 0 0]) 12 72 Tryz.underlying22 hi8 hz8 hs8 hb8 rfl (by decide) _ _ _ rfl (HO0.out w) ad len cap (opCs f len) rfl HCL.out HNW.out HON.out (by unfold maxLen; omega) (by omega) (Nat.le_refl _) ?_; intro v1 w1 hown1 hgrow1 hnl1 _)
    rw [Nat.zero_add, List.nil_append] at hown1
    have hgr : w.grownBy w1 none := hgrow1
    have hb1 : Below w.heap.size w w1 := ⟨hgr.os, hgr.tape, hgr.output, hgr.size, fun k hk => hgr.block k hk (by simp)⟩
    have hst : ∃ ad1 c1, v1 = .slice ad1 len c1 ∧ (0 < len → ∃ g, ad1 = some ⟨g, 0, none⟩ ∧ w.heap.size ≤ g ∧ g < w1.heap.size ∧ Opw f len g (swI len 0) w1) := by
      obtain ⟨a1, c1, e1⟩ := own_formD hown1
      refine ⟨a1, c1, e1, fun q => ?_⟩
      rcases hown1.2 with ⟨_, e2⟩ | ⟨g, cc, cur, e2, e3, e4, _⟩
      · omega
      · rw [e1] at e2
        injection e2 with e2 _ _
        refine ⟨g, e2, e3, heap_lt e4, fun p hp j u hu => ?_, fun o => fz_d e4 o⟩
        have hj : j < 12 := by
          have := (List.getElem?_eq_some_iff.1 hu).1
          rwa [arr_len] at this
        have := World.ownsRow.cells hown1 (g := g) (by rw [e1, e2]; rfl) (p * 12 + j) u (by rw [opCs_at f len p j hp hj]; exact hu)
        rwa [add_z] at this
    obtain ⟨ad1, c1, rfl, hst⟩ := hst
    have HB1 := hideIt hb1
    have HST := hideIt hst
    clear hown1 hgrow1 hgr hnl1 hb1 hst HNW HON HCL HO0
    go_wp2_with fail
    go_loopw [4] (fun v4 wr => ∃ i : Nat, i % 2 = 0 ∧ i ≤ len + 1 ∧ v4 = .int .i64 (i : Int) ∧ Below w.heap.size w wr ∧ (0 < len → ∃ g, ad1 = some ⟨g, 0, none⟩ ∧ w.heap.size ≤ g ∧ g < wr.heap.size ∧ i ≤ len ∧ Opw f len g (swI len i) wr)) (fun i _ => len + 1 - (intOf i).toNat)
    case atStart => exact ⟨0, rfl, by omega, rfl, HB1.out, fun q => by obtain ⟨g, x1, x2, x3, x4⟩ := HST.out q; exact ⟨g, x1, x2, x3, by omega, x4⟩⟩
    case round =>
      clear HB1 HST
      obtain ⟨i, hi2, hil, rfl, hbr, hr⟩ := hrel
      have HBR := hideIt hbr
      have w1i : IntKind.i64.wrap ((i : Int) + 1) = ((i + 1 : Nat) : Int) := by unfold IntKind.wrap; simp [IntKind.bits, IntKind.signed]; omega
      have w2i : IntKind.i64.wrap ((i : Int) + 2) = ((i + 2 : Nat) : Int) := by unfold IntKind.wrap; simp [IntKind.bits, IntKind.signed]; omega
      clear hbr
      by_cases hlt : i + 1 < len
      · have hlt' : ((i + 1 : Nat) : Int) < (len : Int) := by omega
        have hlt0 : (i : Int) < (len : Int) := by omega
        have hlt1 : (i : Int) + 1 < (len : Int) := by omega
        have hge1 : (0 : Int) ≤ (i : Int) + 1 := by omega
        obtain ⟨g, rfl, hg, hgl, hil2, hw⟩ := hr (by omega)
        have HG := hideIt hg
        have HGL := hideIt hgl
        have HW := hideIt hw.drew
        have HR1 : Hid (wr.drew.rangeAt g (i * 12) (f i).arr.toList) := by have := hw.drew.at_ i (by omega); rw [show swI len i i = i from if_neg (by omega)] at this; exact this
        have HR2 : Hid (wr.drew.rangeAt g ((i + 1) * 12) (f (i + 1)).arr.toList) := by have := hw.drew.at_ (i + 1) hlt; rw [show swI len i (i + 1) = i + 1 from if_neg (by omega)] at this; exact this
        have HT1 := hideIt (hw.drew.there (p := i) (by omega))
        have HT2 := hideIt (World.there_setCells (hw.drew.there (p := i + 1) hlt) g (i * 12) (f (i + 1)).arr.toList)
        have HSW := hideIt (hw.drew.swap hi2 hlt)
        have HO1 := hideIt (HOP.out i (by omega)).one
        have HO2 := hideIt (HOP.out (i + 1) hlt).one
        have HS12 : Hid (∀ v : OpV, (Tryz.prog.info? 37).map (·.size) = some v.arr.toList.length) := fun v => by rw [hi8, arr_len]; show some i8.size = _; rw [hs8]
        have HN2 := hideIt hi2
        clear hr hw hg hgl hil2 hi2
        have HL1 : Hid ((f i).arr.toList.length = 12) := rfl
        have HL2 : Hid ((f (i + 1)).arr.toList.length = 12) := rfl
        have HI1 := hideIt (HS12.out (f i))
        have HI2 := hideIt (HS12.out (f (i + 1)))
        clear HS12
        generalize (f i).arr.toList = r1 at *
        generalize (f (i + 1)).arr.toList = r2 at *
        go_wp2_with fail
        refine wp_region_any (by kernel_rfl) ?_
        change wpAny _ _ _ _ _ _ _ (World.drew _)
        generalize hWd : wr.drew = wd at *
        have HWD := hideIt hWd
        clear hWd
        refine wpAny_take (i := 0) (v := ?_) rfl (by kernel_rfl) (by kernel_rfl) (by kernel_rfl) (fun _ _ _ h => h) (Or.inl ⟨by rfl, ?_⟩) ?_
        rotate_left
        · (intro w; go_simp; with_reducible rfl)
        simp only [Act.put, List.getElem_toArray, List.getElem_cons_zero, List.getElem_cons_succ, List.setIfInBounds_toArray, List.set_cons_zero, List.set_cons_succ]
        refine wpAny_take (i := 1) (v := ?_) rfl (by kernel_rfl) (by kernel_rfl) (by kernel_rfl) (fun _ _ _ h => h) (Or.inl ⟨by rfl, ?_⟩) ?_
        rotate_left
        · (intro w; go_simp; with_reducible rfl)
        simp only [Act.put, List.getElem_toArray, List.getElem_cons_zero, List.getElem_cons_succ, List.setIfInBounds_toArray, List.set_cons_zero, List.set_cons_succ]
        refine wpAny_take (i := 2) (v := ?_) rfl (by kernel_rfl) (by kernel_rfl) (by kernel_rfl) (fun _ _ _ h => h) (Or.inl ⟨by rfl, ?_⟩) ?_
        rotate_left
        · (intro w; go_simp; with_reducible rfl)
        simp only [Act.put, List.getElem_toArray, List.getElem_cons_zero, List.getElem_cons_succ, List.setIfInBounds_toArray, List.set_cons_zero, List.set_cons_succ]
        refine wpAny_take (i := 3) (v := ?_) rfl (by kernel_rfl) (by kernel_rfl) (by kernel_rfl) (fun _ _ _ h => h) (Or.inl ⟨by rfl, ?_⟩) ?_
        rotate_left
        · (intro w; go_simp; with_reducible rfl)
        simp only [Act.put, List.getElem_toArray, List.getElem_cons_zero, List.getElem_cons_succ, List.setIfInBounds_toArray, List.set_cons_zero, List.set_cons_succ]
        refine wpAny_take (i := 4) (v := ?_) rfl (by kernel_rfl) (by kernel_rfl) (by kernel_rfl) (fun _ _ _ h => h) (Or.inl ⟨by rfl, ?_⟩) ?_
        rotate_left
        · (intro w; go_simp; with_reducible rfl)
        simp only [Act.put, List.getElem_toArray, List.getElem_cons_zero, List.getElem_cons_succ, List.setIfInBounds_toArray, List.set_cons_zero, List.set_cons_succ]
        refine wpAny_take (i := 5) (v := ?_) rfl (by kernel_rfl) (by kernel_rfl) (by kernel_rfl) (fun _ _ _ h => h) (Or.inl ⟨by rfl, ?_⟩) ?_
        rotate_left
        · (intro w; go_simp; with_reducible rfl)
        simp only [Act.put, List.getElem_toArray, List.getElem_cons_zero, List.getElem_cons_succ, List.setIfInBounds_toArray, List.set_cons_zero, List.set_cons_succ]
        refine wpAny_take (i := 6) (v := ?_) rfl (by kernel_rfl) (by kernel_rfl) (by kernel_rfl) (fun _ _ _ h => h) (Or.inl ⟨by rfl, ?_⟩) ?_
        rotate_left
        · (intro w; go_simp; with_reducible rfl)
        simp only [Act.put, List.getElem_toArray, List.getElem_cons_zero, List.getElem_cons_succ, List.setIfInBounds_toArray, List.set_cons_zero, List.set_cons_succ]
        refine wpAny_take (i := 7) (v := ?_) rfl (by kernel_rfl) (by kernel_rfl) (by kernel_rfl) (fun _ _ _ h => h) (Or.inl ⟨by rfl, ?_⟩) ?_
        rotate_left
        · (intro w; go_simp; with_reducible rfl)
        simp only [Act.put, List.getElem_toArray, List.getElem_cons_zero, List.getElem_cons_succ, List.setIfInBounds_toArray, List.set_cons_zero, List.set_cons_succ]
        refine wpAny_take (i := 10) (v := ?_) rfl (by kernel_rfl) (by kernel_rfl) (by kernel_rfl) (fun _ _ _ h => h) (Or.inl ⟨by rfl, ?_⟩) ?_
        rotate_left
        · (intro w; go_simp; with_reducible rfl)
        simp only [Act.put, List.getElem_toArray, List.getElem_cons_zero, List.getElem_cons_succ, List.setIfInBounds_toArray, List.set_cons_zero, List.set_cons_succ]
        refine wpAny_take (i := 11) (v := ?_) rfl (by kernel_rfl) (by kernel_rfl) (by kernel_rfl) (fun _ _ _ h => h) (Or.inl ⟨by rfl, ?_⟩) ?_
        rotate_left
        · (intro w; go_simp; with_reducible rfl)
        simp only [Act.put, List.getElem_toArray, List.getElem_cons_zero, List.getElem_cons_succ, List.setIfInBounds_toArray, List.set_cons_zero, List.set_cons_succ]
        refine wpAny_take (i := 12) (v := ?_) rfl (by kernel_rfl) (by kernel_rfl) (by kernel_rfl) (fun _ _ _ h => h) (Or.inl ⟨by rfl, ?_⟩) ?_
        rotate_left
        · (intro w; go_simp; with_reducible rfl)
        simp only [Act.put, List.getElem_toArray, List.getElem_cons_zero, List.getElem_cons_succ, List.setIfInBounds_toArray, List.set_cons_zero, List.set_cons_succ]
        refine wpAny_take (i := 8) (v := ?_) rfl (by kernel_rfl) (by kernel_rfl) (by kernel_rfl) (fun _ _ _ h => h) (Or.inl ⟨by rfl, ?_⟩) ?_
        rotate_left
        · (intro w; go_simp; with_reducible rfl)
        simp only [Act.put, List.getElem_toArray, List.getElem_cons_zero, List.getElem_cons_succ, List.setIfInBounds_toArray, List.set_cons_zero, List.set_cons_succ]
        refine wpAny_ready (rs := [9, 13]) (by kernel_rfl) (by simp) ?_
        apply AllReady.cons
        case ho => exact rfl
        case h =>
          intro K hK
          refine step_load_mid rfl 37 (.tmp 22) rfl g ((i + 1) * 12) rfl r2 d37 HR2.out hu37 hd37 HI2.out ?_
          refine hK _ _ ?_
          clear hK K
          simp only [Act.put, List.getElem_toArray, List.getElem_cons_zero, List.getElem_cons_succ, List.setIfInBounds_toArray, List.set_cons_zero, List.set_cons_succ]
          refine wpAny_ready (rs := [13]) (by kernel_rfl) (by simp) ?_
          apply AllReady.cons
          case hs => exact AllReady.nil
          case ho => exact rfl
          intro K hK
          refine step_load_mid rfl 37 (.tmp 26) rfl g (i * 12) rfl r1 d37 HR1.out hu37 hd37 HI1.out ?_
          refine hK _ _ ?_
          clear hK K
          simp only [Act.put, List.getElem_toArray, List.getElem_cons_zero, List.getElem_cons_succ, List.setIfInBounds_toArray, List.set_cons_zero, List.set_cons_succ]
          refine wpAny_take (i := 14) (v := ?_) rfl (by kernel_rfl) (by kernel_rfl) (by kernel_rfl) (fun _ _ _ h => h) (Or.inl ⟨by rfl, ?_⟩) ?_
          rotate_left
          · (intro w; go_simp; with_reducible rfl)
          simp only [Act.put, List.getElem_toArray, List.getElem_cons_zero, List.getElem_cons_succ, List.setIfInBounds_toArray, List.set_cons_zero, List.set_cons_succ]
          refine wpAny_ready (rs := [15]) (by kernel_rfl) (by simp) ?_
          apply AllReady.cons
          case hs => exact AllReady.nil
          case ho => exact rfl
          intro K hK
          refine step_store_mid rfl 37 (.tmp 28) (.tmp 23) rfl g (i * 12) r2.toArray rfl rfl (by rw [List.size_toArray, HL2.out]; exact HT1.out) (by rw [List.size_toArray]; exact HI2.out) (all_oneCell_toArray HO2.out) ?_
          refine hK _ _ ?_
          clear hK K
          simp only [Act.put, List.getElem_toArray, List.getElem_cons_zero, List.getElem_cons_succ, List.setIfInBounds_toArray, List.set_cons_zero, List.set_cons_succ, List.toList_toArray]
          refine wpAny_take (i := 16) (v := ?_) rfl (by kernel_rfl) (by kernel_rfl) (by kernel_rfl) (fun _ _ _ h => h) (Or.inl ⟨by rfl, ?_⟩) ?_
          rotate_left
          · (intro w; go_simp; with_reducible rfl)
          simp only [Act.put, List.getElem_toArray, List.getElem_cons_zero, List.getElem_cons_succ, List.setIfInBounds_toArray, List.set_cons_zero, List.set_cons_succ]
          refine wpAny_ready (rs := [17]) (by kernel_rfl) (by simp) ?_
          apply AllReady.cons
          case hs => exact AllReady.nil
          case ho => exact rfl
          intro K hK
          refine step_store_mid rfl 37 (.tmp 29) (.tmp 27) rfl g ((i + 1) * 12) r1.toArray rfl rfl (by rw [List.size_toArray, HL1.out]; exact HT2.out) (by rw [List.size_toArray]; exact HI1.out) (all_oneCell_toArray HO1.out) ?_
          refine hK _ _ ?_
          clear hK K
          simp only [Act.put, List.getElem_toArray, List.getElem_cons_zero, List.getElem_cons_succ, List.setIfInBounds_toArray, List.set_cons_zero, List.set_cons_succ, List.toList_toArray]
          refine wpAny_done (by kernel_rfl) ?_ _
          have HBX : Hid (Below w.heap.size w ((wd.setCells g (i * 12) r2).setCells g ((i + 1) * 12) r1)) := by
            show Below _ _ _
            rw [← HWD.out]
            exact Below.setCells (Below.setCells (Below.thr HBR.out (below_d _)) _ _ HG.out) _ _ HG.out
          have HGX : Hid (g < ((wd.setCells g (i * 12) r2).setCells g ((i + 1) * 12) r1).heap.size) := by
            show g < _
            rw [← HWD.out]
            exact Nat.lt_of_lt_of_le HGL.out (Below.setCells (Below.setCells ((below_d wr).mono (Nat.zero_le _)) _ _ (Nat.zero_le g)) _ _ (Nat.zero_le g)).size
          generalize (wd.setCells g (i * 12) r2).setCells g ((i + 1) * 12) r1 = wx at *
          clear HR1 HR2 HT1 HT2 HI1 HI2 HO1 HO2 HL1 HL2
          go_wp2_with fail
          go_roundw
          case rel => exact ⟨i + 2, by have := HN2.out; omega, by omega, by go_num, HBX.out, fun _ => ⟨g, rfl, HG.out, HGX.out, by omega, HSW.out⟩⟩
          case measure => simp [intOf]; omega
        case hs =>
          apply AllReady.cons
          case hs => exact AllReady.nil
          case ho => exact rfl
          intro K hK
          refine step_load_mid rfl 37 (.tmp 26) rfl g (i * 12) rfl r1 d37 HR1.out hu37 hd37 HI1.out ?_
          refine hK _ _ ?_
          clear hK K
          simp only [Act.put, List.getElem_toArray, List.getElem_cons_zero, List.getElem_cons_succ, List.setIfInBounds_toArray, List.set_cons_zero, List.set_cons_succ]
          refine wpAny_ready (rs := [9]) (by kernel_rfl) (by simp) ?_
          apply AllReady.cons
          case hs => exact AllReady.nil
          case ho => exact rfl
          intro K hK
          refine step_load_mid rfl 37 (.tmp 22) rfl g ((i + 1) * 12) rfl r2 d37 HR2.out hu37 hd37 HI2.out ?_
          refine hK _ _ ?_
          clear hK K
          simp only [Act.put, List.getElem_toArray, List.getElem_cons_zero, List.getElem_cons_succ, List.setIfInBounds_toArray, List.set_cons_zero, List.set_cons_succ]
          refine wpAny_take (i := 14) (v := ?_) rfl (by kernel_rfl) (by kernel_rfl) (by kernel_rfl) (fun _ _ _ h => h) (Or.inl ⟨by rfl, ?_⟩) ?_
          rotate_left
          · (intro w; go_simp; with_reducible rfl)
          simp only [Act.put, List.getElem_toArray, List.getElem_cons_zero, List.getElem_cons_succ, List.setIfInBounds_toArray, List.set_cons_zero, List.set_cons_succ]
          refine wpAny_ready (rs := [15]) (by kernel_rfl) (by simp) ?_
          apply AllReady.cons
          case hs => exact AllReady.nil
          case ho => exact rfl
          intro K hK
          refine step_store_mid rfl 37 (.tmp 28) (.tmp 23) rfl g (i * 12) r2.toArray rfl rfl (by rw [List.size_toArray, HL2.out]; exact HT1.out) (by rw [List.size_toArray]; exact HI2.out) (all_oneCell_toArray HO2.out) ?_
          refine hK _ _ ?_
          clear hK K
          simp only [Act.put, List.getElem_toArray, List.getElem_cons_zero, List.getElem_cons_succ, List.setIfInBounds_toArray, List.set_cons_zero, List.set_cons_succ, List.toList_toArray]
          refine wpAny_take (i := 16) (v := ?_) rfl (by kernel_rfl) (by kernel_rfl) (by kernel_rfl) (fun _ _ _ h => h) (Or.inl ⟨by rfl, ?_⟩) ?_
          rotate_left
          · (intro w; go_simp; with_reducible rfl)
          simp only [Act.put, List.getElem_toArray, List.getElem_cons_zero, List.getElem_cons_succ, List.setIfInBounds_toArray, List.set_cons_zero, List.set_cons_succ]
          refine wpAny_ready (rs := [17]) (by kernel_rfl) (by simp) ?_
          apply AllReady.cons
          case hs => exact AllReady.nil
          case ho => exact rfl
          intro K hK
          refine step_store_mid rfl 37 (.tmp 29) (.tmp 27) rfl g ((i + 1) * 12) r1.toArray rfl rfl (by rw [List.size_toArray, HL1.out]; exact HT2.out) (by rw [List.size_toArray]; exact HI1.out) (all_oneCell_toArray HO1.out) ?_
          refine hK _ _ ?_
          clear hK K
          simp only [Act.put, List.getElem_toArray, List.getElem_cons_zero, List.getElem_cons_succ, List.setIfInBounds_toArray, List.set_cons_zero, List.set_cons_succ, List.toList_toArray]
          refine wpAny_done (by kernel_rfl) ?_ _
          have HBX : Hid (Below w.heap.size w ((wd.setCells g (i * 12) r2).setCells g ((i + 1) * 12) r1)) := by
            show Below _ _ _
            rw [← HWD.out]
            exact Below.setCells (Below.setCells (Below.thr HBR.out (below_d _)) _ _ HG.out) _ _ HG.out
          have HGX : Hid (g < ((wd.setCells g (i * 12) r2).setCells g ((i + 1) * 12) r1).heap.size) := by
            show g < _
            rw [← HWD.out]
            exact Nat.lt_of_lt_of_le HGL.out (Below.setCells (Below.setCells ((below_d wr).mono (Nat.zero_le _)) _ _ (Nat.zero_le g)) _ _ (Nat.zero_le g)).size
          generalize (wd.setCells g (i * 12) r2).setCells g ((i + 1) * 12) r1 = wx at *
          clear HR1 HR2 HT1 HT2 HI1 HI2 HO1 HO2 HL1 HL2
          go_wp2_with fail
          go_roundw
          case rel => exact ⟨i + 2, by have := HN2.out; omega, by omega, by go_num, HBX.out, fun _ => ⟨g, rfl, HG.out, HGX.out, by omega, HSW.out⟩⟩
          case measure => simp [intOf]; omega
      · have hlt' : ¬ ((i + 1 : Nat) : Int) < (len : Int) := by omega
        have hlt1 : ¬ (i : Int) + 1 < (len : Int) := by omega
        have HF : Hid (0 < len → ∃ g, ad1 = some ⟨g, 0, none⟩ ∧ w.heap.size ≤ g ∧ g < wr.heap.size ∧ ∀ p, p < len → OpAt wr g (p * 12) (f (swp len p))) := fun q => by
          obtain ⟨g, x1, x2, x3, x4, x5⟩ := hr q
          have k := x5.fin hi2 x4 hlt
          refine ⟨g, x1, x2, x3, fun p hp => ?_⟩
          obtain ⟨_, y2, y3, y4, y5, y6, y7, y8, y9, y10, y11, y12⟩ := (HOP.out (swp len p) (swp_lt hp)).below HBR.out
          exact ⟨k.at_ p hp, y2, y3, y4, y5, y6, y7, y8, y9, y10, y11, y12⟩
        clear hr
        go_wp2_with fail
        go_ret
        exact ⟨HBR.out, _, _, rfl, HF.out⟩
end Go.Proofs.Qxb6500847aGreatDoor.Os
