/-
  The walks of flat, Union and Inter.
-/
import Derived.Test.Qxb6500848aGreatDoorMakers
import Derived.Test.Qxb6500848aGreatDoorShelf
import Derived.Sort.OwnSortedInts
import Derived.Deep.AppendLies
namespace Go.Proofs.Qxb6500848aGreatDoor
open Go.RowKit Pl Go.Sort Go.Shelf
set_option maxRecDepth 100000

/-- A row of the walk's own, as a list of ints. -/
theorem own_ints {X : Nat → Prop} {w : World} {base : Nat} {v : Value} {l : List Int} (h : w.ownsRow base 28 1 v l.length (l.map encI)) (hX : ∀ b, base ≤ b → ¬ X b) : Ints X w v l := by
  obtain ⟨h1, h2⟩ := h
  rcases h2 with ⟨rfl, h0⟩ | ⟨g, cap, cur, rfl, hb, hh, r1, r2, r3, r4⟩
  · have : l = [] := List.length_eq_zero_iff.1 h0
    subst this
    exact Seq.nil X w
  · refine ⟨_, cap, rfl, r1, r2, fun _ => ⟨g, 0, rfl, hX g hb, fun j hj => ?_⟩⟩
    have e : (cur.toList.take (l.length * 1))[j]? = (l.map encI)[j]? := by rw [r4]
    rw [List.getElem?_take_of_lt (by omega)] at e
    simp only [World.cell?, hh]
    simp [hj] at e
    simpa using e

theorem parts_take (A : List Nd) (kind unit : Int) (xs : List Int) (k : Nat) (h : k < xs.length) :
    parts A kind unit (xs.take (k + 1)) = parts A kind unit (xs.take k) ++ (if (nodeAt A xs[k]).kind = kind then (nodeAt A xs[k]).kids else if xs[k] ≠ unit then [xs[k]] else []) := by
  unfold parts
  rw [List.take_succ_eq_append_getElem h, List.flatMap_append]
  simp

theorem parts_len (A : List Nd) (kind unit : Int) (hA : Wf A) (hl : A.length ≤ 65536) : ∀ (xs : List Int), (∀ x ∈ xs, Valid A x) → (parts A kind unit xs).length ≤ xs.length * 65536
  | [], _ => by simp [parts]
  | x :: xs, h => by
    have ih := parts_len A kind unit hA hl xs (fun y hy => h y (List.mem_cons_of_mem _ hy))
    have hx := few64 hA hl (h x (by simp))
    unfold parts at *
    rw [List.flatMap_cons, List.length_append, List.length_cons]
    split
    · omega
    · split
      · simp only [List.length_singleton]; omega
      · simp only [List.length_nil]; omega

/-- What flat's loop keeps. -/
structure FL (w : World) (A : List Nd) (kind unit : Int) (xs : List Int) (k : Nat) (v : Value) (wr : World) : Prop where
  below : Below w.heap.size w wr
  own : wr.ownsRow w.heap.size 28 1 v (parts A kind unit (xs.take k)).length ((parts A kind unit (xs.take k)).map encI)

theorem info_id : (Tryz.prog.info? 28).map (fun i => (i.zero, i.size, i.bytes)) = some (some (.int .i64 0), 1, 8) := by kernel_rfl

theorem one_ints (l : List Int) : ∀ u ∈ l.map encI, u.oneCell' = true := by
  intro u hu
  obtain ⟨x, _, rfl⟩ := List.mem_map.1 hu
  rfl

theorem FL.grown {w : World} {A : List Nd} {kind unit : Int} {xs : List Int} {k : Nat} {v v' : Value} {wr w1 w2 : World} {l : List Int} (h : FL w A kind unit xs k v wr) (hk : k < xs.length)
    (hl : (if (nodeAt A xs[k]).kind = kind then (nodeAt A xs[k]).kids else if xs[k] ≠ unit then [xs[k]] else []) = l) (h1 : Below w.heap.size wr w1) (hle : wr.heap.size ≤ w1.heap.size)
    (hown : w2.ownsRow w.heap.size 28 1 v' ((parts A kind unit (xs.take k)).length + l.length) ((parts A kind unit (xs.take k)).map encI ++ l.map encI)) (hg : w1.grownBy w2 v.ownBlock) : FL w A kind unit xs (k + 1) v' w2 := by
  refine ⟨(h.below.trans h1).grown hg (Nat.le_trans h.below.size hle) (fun g hv => (ownsRow_block h.own hv).1), ?_⟩
  · rw [parts_take A kind unit xs k hk, hl, List.map_append, List.length_append]
    exact hown

theorem compactUpTo_len (d : Array Int) : ∀ m, (Lib.compactUpTo d m).length ≤ m
  | 0 => by simp [Lib.compactUpTo]
  | m + 1 => by
    rw [Lib.compactUpTo_succ, List.length_append]
    have := compactUpTo_len d m
    split <;> simp <;> omega
theorem compact_len (l : List Int) : (Lib.compact l).length ≤ l.length := by
  have := compactUpTo_len l.toArray l.length
  simpa [Lib.compact] using this
theorem srt_len (l : List Int) : (srt l).length = l.length := by simp [srt]

theorem sorted_row {wr w1 : World} {g : Nat} {cur : Array Value} {P : List Int} (hh : wr.heap[g]? = some (.cells cur 28 (0, 0))) (hc : P.length ≤ cur.size) (h : ∃ n os, w1 = grow (putRow (Value.int .i64) (Sort.ahead wr n) g 0 (srt P).toArray) os) :
    Holds (Value.int .i64) w1 g 0 (srt P).toArray ∧ wr.grownBy w1 (some g) := by
  obtain ⟨n, os, rfl⟩ := h
  exact ⟨holds_of_blockI (heap_sortedI _ hh) (take_putCellsI cur (srt P) (by rw [srt_len]; exact hc)), grownBy_sortedI _⟩

theorem compact_row {w1 w2 : World} {g : Nat} {l : List Int} (H : Holds (Value.int .i64) w1 g 0 l.toArray) (h : ∃ q, w2 = putRow (Value.int .i64) (Sort.ahead w1 q) g 0 (Lib.compact l ++ List.replicate (l.length - (Lib.compact l).length) 0).toArray) :
    (∀ j (hj : j < (Lib.compact l).length), w2.cell? ⟨g, 0 + j, none⟩ = some (encI (Lib.compact l)[j])) ∧ w1.grownBy w2 (some g) := by
  obtain ⟨q, rfl⟩ := h
  have hl := compact_len l
  constructor
  · intro j hj
    have := (holds_putRow (Value.int .i64) (Sort.ahead w1 q) g 0 l.toArray (Lib.compact l ++ List.replicate (l.length - (Lib.compact l).length) 0).toArray H (by simp; omega) j (by simp; omega)).1
    rw [this]
    simp only [List.getElem!_toArray]
    rw [List.getElem!_eq_getElem?_getD, List.getElem?_append_left hj]
    simp [hj]
  · have := grownBy_sortedI (w := w1) (g := g) (n := q) (os := #[]) (Lib.compact l ++ List.replicate (l.length - (Lib.compact l).length) 0).toArray
    rwa [grow_empty] at this

set_option maxHeartbeats 2000000 in
theorem flat_walk {X : Nat → Prop} {w : World} {ab nb : Nat} {lim : Int} {A : List Nd} (hS : St X w ab nb lim A) {xv : Value} {xs : List Int} (hxs : Ints X w xv xs) (hv : ∀ x ∈ xs, Valid A x) (hn : xs.length ≤ 65536) (kind unit : Int) (hkind : kind = 5 ∨ kind = 6) :
    Calls Tryz.prog 133 #[.pointer (some ⟨ab, 0, none⟩), .int .i64 kind, .int .i64 unit, xv] w fun e w' => ∃ v, e = .returned v ∧ Ints X w' v (flat A kind unit xs) ∧ Below w.heap.size w w' := by
  obtain ⟨cap, n0, _, n1⟩ := hS.ar.node
  have HN1 := hideIt n1
  have HS := hideIt hS
  have HV := hideIt hv
  have hlen := hS.ar.len
  have hab := hS.ar.la
  have hnb := hS.xlt nb hS.ar.xn
  obtain ⟨xa, xc, rfl, x1, x2, x3⟩ := hxs
  have X3 := hideIt x3
  clear n1 hS hv x3
  obtain ⟨i0, hi0, hz0, hz1, hz2⟩ := info_parts info_id
  go_enter Tryz.func133, Tryz.ntmps133
  go_wp2
  go_loopw [9, 14] (fun v i wr => ∃ k : Nat, k ≤ xs.length ∧ i = .int .i64 k ∧ FL w A kind unit xs k v wr) (fun _ i _ => xs.length - (intOf i).toNat)
  case atStart => exact ⟨0, by omega, rfl, Below.refl _ _, by simp [parts], Or.inl ⟨rfl, by simp [parts]⟩⟩
  case round =>
    obtain ⟨k, hk, rfl, hF⟩ := hrel
    by_cases hlt : k < xs.length
    · have hlt' : (k : Int) < (xs.length : Int) := by omega
      obtain ⟨g, o, rfl, _, hc⟩ := X3.out (fun e => by rw [e] at hlt; cases hlt)
      have gl : g < w.heap.size := cell_lt (hc k hlt)
      have c0 := (hF.below.cell (p := ⟨g, o + k, none⟩) gl).trans (hc k hlt)
      have hvx := HV.out _ (List.getElem_mem hlt)
      obtain ⟨sv, kv, hN⟩ := HN1.out _ hvx
      obtain ⟨d0, _, d2, _, _, hki, _⟩ := hN
      have e0 := (hF.below.cell (p := ⟨nb, xs[k].toNat * 5, none⟩) hnb).trans d0
      have e2 := (hF.below.cell (p := ⟨nb, xs[k].toNat * 5 + 2, none⟩) hnb).trans d2
      have m0 := (hF.below.cell (p := ⟨ab, 0, none⟩) hab).trans n0
      have hb := parts_len A kind unit HS.out.ar.wf HS.out.ar.len (xs.take k) (fun x hx => HV.out x (List.mem_of_mem_take hx))
      have hb2 : (xs.take k).length ≤ 65536 := by simp; omega
      have hx0 := hvx.1
      have hx1 : xs[k] < (A.length : Int) := by have := hvx.2; omega
      have hok := HS.out.ar.wf.at hvx
      have hfew := few64 HS.out.ar.wf HS.out.ar.len hvx
      have HM := hideIt hok.many
      have HF := hideIt hF
      have hpl : (parts A kind unit (xs.take k)).length ≤ 4294967296 := by omega
      clear hok hc d0 d2 hF hb hb2
      by_cases hkd : (nodeAt A xs[k]).kind = kind
      · obtain ⟨ka, kc, rfl, k1, k2, k3⟩ := hki
        obtain ⟨gk, ok, rfl, hxg, hck⟩ := k3 (HM.out (by rw [hkd]; exact hkind))
        have Hnews : Hid (∀ j u, ((nodeAt A xs[k]).kids.map encI)[j]? = some u → wr.cell? ((⟨gk, ok, none⟩ : Addr).add j) = some u) := fun j u hu => by
          have hj : j < (nodeAt A xs[k]).kids.length := by
            by_cases h : j < (nodeAt A xs[k]).kids.length
            · exact h
            · rw [List.getElem?_eq_none (by simp; omega)] at hu; cases hu
          have hadd : (⟨gk, ok, none⟩ : Addr).add j = ⟨gk, ok + j, none⟩ := by unfold Addr.add; split <;> simp_all
          rw [hadd, HF.out.below.cell (p := ⟨gk, ok + j, none⟩) (cell_lt (hck j hj)), hck j hj, ← hu]
          simp [hj]
        have HL : Hid ((if (nodeAt A xs[k]).kind = kind then (nodeAt A xs[k]).kids else if xs[k] ≠ unit then [xs[k]] else []) = (nodeAt A xs[k]).kids) := if_pos hkd
        have hkd' : ((nodeAt A xs[k]).kind == kind) = true := by simp [hkd]
        clear hkd k3 hck
        generalize hx : xs[k] = x at *
        go_wp2_with (at_builtin; refine wpList_append_own_at _ rfl (.tmp 28) (.tmp 36) 37 rfl w.heap.size 28 i0 (.int .i64 0) 1 8 Tryz.underlying37 hi0 hz0 hz1 hz2 rfl (by decide) _ _ _ rfl HF.out.own ⟨gk, ok, none⟩ (nodeAt A x).kids.length kc ((nodeAt A x).kids.map encI) rfl (by simp) Hnews.out (one_ints _) (by unfold maxLen; omega) (by omega) HF.out.below.size ?_; intro v' w2 hown hgrow _ _)
        go_roundw
        case rel => exact ⟨k + 1, by omega, by go_num, HF.out.grown hlt (by rw [hx]; exact HL.out) (Below.refl _ _) (Nat.le_refl _) hown hgrow⟩
        case measure => simp [intOf]; omega
      · have hkd' : ((nodeAt A xs[k]).kind == kind) = false := by simp [hkd]
        by_cases hu : xs[k] = unit
        · have HL : Hid ((if (nodeAt A xs[k]).kind = kind then (nodeAt A xs[k]).kids else if xs[k] ≠ unit then [xs[k]] else []) = []) := by
            show (if (nodeAt A xs[k]).kind = kind then (nodeAt A xs[k]).kids else if xs[k] ≠ unit then [xs[k]] else []) = []
            rw [if_neg hkd, if_neg (by simp [hu])]
          have Hown : Hid (FL w A kind unit xs (k + 1) u9 wr) := by
            refine ⟨HF.out.below, ?_⟩
            rw [parts_take A kind unit xs k hlt, HL.out, List.append_nil]
            exact HF.out.own
          have hu' : (xs[k] == unit) = true := by simp [hu]
          clear hkd hu
          generalize hx : xs[k] = x at *
          go_wp2
          go_roundw
          case rel => exact ⟨k + 1, by omega, by go_num, Hown.out⟩
          case measure => simp [intOf]; omega
        · have HL : Hid ((if (nodeAt A xs[k]).kind = kind then (nodeAt A xs[k]).kids else if xs[k] ≠ unit then [xs[k]] else []) = [xs[k]]) := by
            show (if (nodeAt A xs[k]).kind = kind then (nodeAt A xs[k]).kids else if xs[k] ≠ unit then [xs[k]] else []) = [xs[k]]
            rw [if_neg hkd, if_pos hu]
          have hu' : (xs[k] == unit) = false := by simp [hu]
          clear hkd
          generalize hx : xs[k] = x at *
          go_wp2_with (at_builtin; refine wpList_append_own_at _ rfl (.tmp 41) (.tmp 43) 37 rfl w.heap.size 28 i0 (.int .i64 0) 1 8 Tryz.underlying37 hi0 hz0 hz1 hz2 rfl (by decide) _ _ _ rfl (HF.out.own.alloc _) ⟨wr.heap.size, 0, none⟩ 1 1 ([x].map encI) rfl rfl (World.news_of_block (cs := #[.int .i64 x]) (t := 28) (fr := (0, 0)) (heap_new _ _)) (one_ints _) (by unfold maxLen; omega) (by omega) (by have := HF.out.below.size; simp; omega) ?_; intro v' w2 hown hgrow _ _)
          go_roundw
          case rel => exact ⟨k + 1, by omega, by go_num, HF.out.grown hlt (by rw [hx]; exact HL.out) ((Below.refl _ _).alloc HF.out.below.size _) (by rw [Deep.nblk_alloc]; omega) hown hgrow⟩
          case measure => simp [intOf]; omega
    · obtain rfl : k = xs.length := by omega
      obtain ⟨hb, hown⟩ := hF
      have hpl : (parts A kind unit xs).length ≤ 4294967296 := by
        have := parts_len A kind unit HS.out.ar.wf HS.out.ar.len xs HV.out
        omega
      rw [List.take_length] at hown
      have HX : Hid (∀ b, w.heap.size ≤ b → ¬ X b) := fun b hb hx => by have := HS.out.xlt b hx; omega
      have HB := hideIt hb
      have HFl : Hid (flat A kind unit xs = Lib.compact (srt (parts A kind unit xs))) := rfl
      clear hb
      obtain ⟨o1, o2⟩ := hown
      rcases o2 with ⟨rfl, h0⟩ | ⟨g, cp, cur, rfl, hbg, hh, r1, r2, r3, r4⟩
      · have hp : parts A kind unit xs = [] := List.length_eq_zero_iff.1 h0
        have Hres : Hid (flat A kind unit xs = []) := by
          show flat A kind unit xs = []
          rw [HFl.out, hp]
          simp [srt, Lib.compact, Lib.compactUpTo]
        clear hp h0 o1
        go_wp2_with (first
          | (go_at_call 118; refine (AnyM.slices_Sort_int_none Tryz.lSort none 0 _).mono ?_; rintro e w1 ⟨rfl, rfl⟩)
          | (go_at_call 89; refine (AnyG.slices_Compact_int_empty Tryz.lCompact none 0 _).mono ?_; rintro e w2 ⟨rfl, rfl⟩))
        go_ret
        exact ⟨_, rfl, by rw [Hres.out]; exact Seq.nil X _, HB.out⟩
      · have hgl : g < wr.heap.size := heap_lt hh
        have Hh := hideIt hh
        have hcs : (parts A kind unit xs).length ≤ cur.size := by omega
        have H0 := hideIt (holds_of_blockI (ss := parts A kind unit xs) hh (by simpa using r4))
        clear hh r4 o1
        generalize hP : parts A kind unit xs = P at *
        have hsl := srt_len P
        have Hsort := hideIt (AnyM.slices_Sort_int Tryz.lSort g 0 cp P wr H0.out hgl (by omega))
        go_wp2_with (first
          | (go_at_call 118; refine Hsort.out.mono ?_; rintro e w1 ⟨rfl, hw1⟩; have s1 := sorted_row Hh.out hcs hw1; clear hw1; have Hcomp := AnyG.slices_Compact_int Tryz.lCompact g 0 cp (srt P) w1 s1.1 (by omega) (by omega); rw [hsl] at Hcomp; have HC := hideIt Hcomp; have S1 := hideIt s1; clear Hcomp s1)
          | (go_at_call 89; refine HC.out.mono ?_; rintro e w2 ⟨rfl, hw2⟩))
        go_ret
        rw [← hsl] at hw2
        have s2 := compact_row S1.out.1 hw2
        have hcl := compact_len (srt P)
        refine ⟨_, rfl, ?_, (HB.out.grown S1.out.2 HB.out.size (fun k e => by cases e; exact hbg)).grown s2.2 (Nat.le_trans HB.out.size S1.out.2.size) (fun k e => by cases e; exact hbg)⟩
        rw [HFl.out]
        exact ⟨_, cp, rfl, by omega, r2, fun _ => ⟨g, 0, rfl, HX.out g hbg, s2.1⟩⟩
end Go.Proofs.Qxb6500848aGreatDoor
