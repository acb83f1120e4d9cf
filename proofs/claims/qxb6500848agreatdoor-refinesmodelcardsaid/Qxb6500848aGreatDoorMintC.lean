/-
  Minterms: the sort.
-/
import Derived.Test.Qxb6500848aGreatDoorMintB
import Derived.Shelf.SlSortCmp.Whole1
import Derived.Shelf.SlGeneric
import Derived.Ground.SlsfProg
namespace Go.Proofs
open Go.Shelf
shelf_lay_g SlLaysF.n6 Slsf 6 at Tryz 72 as Tryz.lSortF
end Go.Proofs
namespace Go.Proofs.Qxb6500848aGreatDoor
open Go.RowKit Pl Go.Sort Go.Shelf Go.Lib
set_option maxRecDepth 100000

theorem sort_grown {α : Type} [Inhabited α] (enc : α → Value) {w : World} {g n : Nat} {os : Array Obj} (d : Array α) : w.grownBy (sortWorld enc w g 0 n d os) (some g) := by
  unfold sortWorld
  refine ⟨rfl, rfl, rfl, by simp, fun k hk hne => ?_⟩
  rw [heap_grow_old _ _ (by simpa using hk)]
  have : g ≠ k := fun e => hne (by rw [e])
  simp [putRow, mapBlock, Sort.ahead, Array.getElem?_modify, this]

theorem sort_cell {α : Type} [Inhabited α] (enc : α → Value) {w : World} {g n : Nat} {os : Array Obj} {d0 d : Array α} (h0 : Holds enc w g 0 d0) (hs : d.size = d0.size) (hg : g < w.heap.size) {j : Nat} (hj : j < d.size) : (sortWorld enc w g 0 n d os).cell? ⟨g, 0 + j, none⟩ = some (enc d[j]!) := by
  have h1 := (holds_putRow enc (Sort.ahead w n) g 0 d0 d h0 hs j hj).1
  rw [← h1]
  unfold sortWorld
  exact World.cell?_of_block (heap_grow_old _ _ (by simpa using hg))

/-- The order of the sort. -/
def cfM (tab : Nat → Int) (P : List (List Nat)) {n : Nat} (x y : Fin n) : Int := minF tab (P.getD x.1 []) - minF tab (P.getD y.1 [])
theorem swoM (tab : Nat → Int) (P : List (List Nat)) {n : Nat} : SWO (ltOf (cfM tab P (n := n))) where
  irrefl x := by simp [ltOf, cfM]
  trans x y z h1 h2 := by simp [ltOf, cfM] at *; omega
  ntrans x y z h1 h2 := by simp [ltOf, cfM] at *; omega

theorem minF_bd {tab : Nat → Int} (ht : ∀ j, j < 64 → 0 ≤ tab j ∧ tab j ≤ 255) (l : List Nat) (hl : Cl l) (hn : ∃ b ∈ l, b ≠ 0) : 0 ≤ minF tab l ∧ minF tab l ≤ 1000000 := by
  have h1 := fz_lt hn
  have h2 := hl.1
  have h3 := tzF_bd ht (l.getD (fz l) 0)
  unfold minF
  omega

set_option maxHeartbeats 1000000 in
theorem cmp_walk {tab : Nat → Int} (ht : ∀ j, j < 64 → 0 ≤ tab j ∧ tab j ≤ 255) {X : Nat → Prop} {w : World} (hg : Gd tab w) {v1 v2 : Value} {s t : List Nat} (h1 : Words X w v1 s) (h2 : Words X w v2 t) (hs : Cl s) (ht2 : Cl t) (ns : ∃ b ∈ s, b ≠ 0) (nt : ∃ b ∈ t, b ≠ 0) :
    Calls Tryz.prog 73 #[v1, v2] w fun e w' => e = .returned (.int .i64 (minF tab s - minF tab t)) ∧ w' = w := by
  have b1 := minF_bd ht s hs ns
  have b2 := minF_bd ht t ht2 nt
  have M1 := hideIt (min_walk ht hg h1 hs ns)
  have M2 := hideIt (min_walk ht hg h2 ht2 nt)
  clear h1 h2 hs ht2 ns nt hg ht
  generalize minF tab s = m1 at *
  generalize minF tab t = m2 at *
  obtain ⟨p1, p2⟩ := b1
  obtain ⟨p3, p4⟩ := b2
  go_enter Tryz.func73, Tryz.ntmps73
  go_wp2_with fail
  go_at_call 23
  refine M1.out.mono ?_
  rintro e w1 ⟨rfl, hw1⟩
  obtain rfl := hw1.symm
  go_wp2_with fail
  go_at_call 23
  refine M2.out.mono ?_
  rintro e w1 ⟨rfl, hw1⟩
  obtain rfl := hw1.symm
  go_wp2_with fail
  go_ret
  exact ⟨rfl, rfl⟩

/-- What Minterms hands back. -/
def MPost (tab : Nat → Int) (F : List (List Nat)) (w : World) (e : Ending) (w' : World) : Prop :=
  ∃ v P, e = .returned v ∧ Sets (fun b => b < w.heap.size) w' v P ∧ Good P ∧ P.length ≤ 196608 ∧ P.Perm (mtF F) ∧ P.Pairwise (fun p q => minF tab p ≤ minF tab q) ∧ Below w.heap.size w w'

theorem minterms_walk {tab : Nat → Int} (ht : ∀ j, j < 64 → 0 ≤ tab j ∧ tab j ≤ 255) {X : Nat → Prop} {w : World} (hg : Gd tab w) (hw0 : 3 < w.heap.size) {fv : Value} {F : List (List Nat)} (hF : Sets X w fv F) (hcl : ∀ s ∈ F, Cl s) (hfl : F.length ≤ 65536) :
    Calls Tryz.prog 16 #[fv] w (MPost tab F w) := by
  refine minterms_loops hF hcl hfl _ ?_
  intro vp vs P wr hR hG hT hE hb
  obtain ⟨h1, ⟨h2, h2'⟩, _, h4⟩ := hR
  have hPl := hG.len
  rcases h2' with ⟨_, h0⟩ | ⟨g, cap, cur, rfl, hbg, hh, r1, r2, r3, r4⟩
  · have : P = [] := List.length_eq_zero_iff.1 (by omega)
    subst this
    simp [tot] at hT
  obtain ⟨m, hm⟩ : ∃ m, vs.length = m + 1 := by
    by_cases e : vs.length = 0
    · have : P = [] := List.length_eq_zero_iff.1 (by omega)
      subst this
      simp [tot] at hT
    · exact ⟨vs.length - 1, by omega⟩
  have hgl := heap_lt hh
  let enc : Fin (m + 1) → Value := fun i => vs[i.1]'(by omega)
  let d : Array (Fin (m + 1)) := Array.ofFn id
  have hds : d.size = vs.length := by simp [d, hm]
  have hH : Holds enc wr g 0 d := by
    intro j hj
    have hj' : j < vs.length := by omega
    refine ⟨?_, by simp [World.frozen?, hh]⟩
    have e : (cur.toList.take (vs.length * 1))[j]? = vs[j]? := by rw [r4]
    rw [List.getElem?_take_of_lt (by omega)] at e
    simp only [World.cell?, hh, Nat.zero_add]
    have hdj : d[j]! = (⟨j, by omega⟩ : Fin (m + 1)) := by
      rw [getElem!_pos d j hj]
      simp [d]
    rw [hdj]
    simp [hj'] at e
    simpa [enc] using e
  have hgW : ∀ (n : Nat) (os : Array Obj) (dk : Array (Fin (m + 1))), wr.grownBy (sortWorld enc wr g 0 n dk os) (some g) := fun n os dk => sort_grown enc dk
  have hwd : ∀ (W : World), wr.grownBy W (some g) → ∀ i : Fin (m + 1), Words (fun b => b < w.heap.size) W (enc i) (P.getD i.1 []) := fun W hW i => by
    have hi : i.1 < P.length := by have := i.2; omega
    rw [getD_lt hi]
    exact words_move (h4 i.1 (by omega) hi) hW (fun b e => Or.inr (Or.inr e)) (fun b hb e => Or.inl e)
  have hgd : ∀ (W : World), wr.grownBy W (some g) → Gd tab W := fun W hW j hj => by
    have h0 : 3 < wr.heap.size := Nat.lt_of_lt_of_le hw0 hb.size
    have : W.heap[3]? = wr.heap[3]? := hW.block _ h0 (fun e => by have := Option.some.inj e; omega)
    exact (World.cell?_of_block (w := wr) (a := ⟨3, j, none⟩) this).trans (hg.below hb hw0 j hj)
  have hgood : ∀ i : Fin (m + 1), Cl (P.getD i.1 []) ∧ ∃ b ∈ P.getD i.1 [], b ≠ 0 := fun i => by
    have hi : i.1 < P.length := by have := i.2; omega
    rw [getD_lt hi]
    have := hG _ (List.getElem_mem hi)
    exact ⟨this.1, cnt_pos this.2⟩
  have eg : ∀ args w, (callFunc 73 args).run Tryz.prog w = .ok (.enter 73 args) w := enters_of Tryz.func73 (by kernel_rfl) rfl
  have hone : OneCell enc := fun i => by
    obtain ⟨ad, c, e, _⟩ := h4 i.1 (by have := i.2; omega) (by have := i.2; omega)
    show (vs[i.1]'_).oneCell' = true
    rw [e]; rfl
  have hcmp : CmpLays1 Tryz.prog 73 #[] enc (cfM tab P) g 0 d.size wr := fun n os dk hs x y => by
    have hW := hgW n os dk
    refine (cmp_walk ht (hgd _ hW) (hwd _ hW x) (hwd _ hW y) (hgood x).1 (hgood y).1 (hgood x).2 (hgood y).2).mono ?_
    rintro e w' ⟨rfl, rfl⟩
    exact ⟨rfl, 0, #[], by rw [grow_empty]; rfl⟩
  have hS := Any.slices_SortFunc Tryz.lSortF enc hone (cfM tab P) (swoM tab P) 73 #[] g 0 cap d wr eg hcmp hH hgl (by omega)
  rw [hds] at hS
  refine hS.mono ?_
  rintro e w' ⟨rfl, d', n, os, hp, hso, rfl⟩
  have hsz : d'.size = vs.length := hp.1.trans hds
  refine ⟨rfl, _, d'.toList.map (fun i => P.getD i.1 []), rfl, ⟨d'.toList.map enc, by simp, ⟨_, cap, by simp [hsz], by simp [hsz]; omega, r2, fun _ => ⟨g, 0, rfl, by omega, fun j hj => ?_⟩⟩, fun i hi hi' => ?_⟩, fun p hp' => ?_, by simp [hsz]; omega, ?_, ?_, hb.grown (hgW n os d') hb.size (fun k e => by cases e; exact hbg)⟩
  · have hj' : j < d'.size := by simpa using hj
    rw [sort_cell enc hH (by rw [hsz, hds]) hgl hj', getElem!_pos d' j hj']
    simp
  · have hi2 : i < d'.size := by simpa using hi
    simp only [List.getElem_map]
    exact hwd _ (hgW n os d') _
  · obtain ⟨i, _, rfl⟩ := List.mem_map.1 hp'
    have hi : i.1 < P.length := by have := i.2; omega
    rw [getD_lt hi]
    exact hG _ (List.getElem_mem hi)
  · rw [← hE]
    have hpm := hp.2.2
    rw [Array.extract_eq_self_of_le (by omega), Array.extract_eq_self_of_le (by omega)] at hpm
    refine (hpm.map (fun i : Fin (m + 1) => P.getD i.1 [])).trans (List.Perm.of_eq ?_)
    apply List.ext_getElem
    · simp [d]; omega
    · intro i h1 h2
      simp only [d, List.getElem_map, Array.getElem_toList, Array.getElem_ofFn, id]
      rw [getD_lt h2]
  · rw [List.pairwise_map, List.pairwise_iff_getElem]
    intro i j hi hj hij
    have hi2 : i < d'.size := by simpa using hi
    have hj2 : j < d'.size := by simpa using hj
    have := hso i j (Nat.zero_le _) hij (by omega)
    rw [getElem!_pos d' i hi2, getElem!_pos d' j hj2] at this
    have h2 : ¬ (cfM tab P d'[j] d'[i] < 0) := of_decide_eq_false this
    unfold cfM at h2
    simp only [Array.getElem_toList]
    omega
end Go.Proofs.Qxb6500848aGreatDoor
