/-
  The script as the row reads it.
-/
import Derived.Test.Qxb6500848aGreatDoorRunA
import Derived.WalkKit
import Derived.ProofKit
import Derived.ChangeOld
import Derived.SizedLaws
import Derived.OpenShut
import Derived.LaidLaws
import Derived.FnData
namespace Go.Proofs.Qxb6500848aGreatDoor
open Go.RowKit Pl Go.Maps Go.ChangeShapes Go.WideShapes
set_option maxRecDepth 100000

theorem cellsInt : Tryz.prog.cellsOf 3 = 1 := by kernel_rfl
theorem cellsKind : Tryz.prog.cellsOf 29 = 1 := by kernel_rfl
theorem cellsInts : Tryz.prog.cellsOf 24 = 1 := by kernel_rfl
theorem cellsOp : Tryz.prog.cellsOf 31 = 7 := by kernel_rfl
theorem bytesInt : Tryz.prog.bytesOf 3 = 8 := by kernel_rfl
theorem bytesOp : Tryz.prog.bytesOf 31 = 88 := by kernel_rfl

theorem wAll_mem {H : Type} {P : Program} {e : TypeId} : ∀ {l : List (DataW H)} {d : DataW H}, d ∈ l → ∀ n ∈ d.weights P e, n ∈ DataW.weightsAll P e l
  | d' :: r, d, hd, n, hn => by
    simp only [DataW.weightsAll, List.mem_append]
    rcases List.mem_cons.1 hd with rfl | h
    · exact Or.inl hn
    · exact Or.inr (wAll_mem h n hn)

theorem skolem {α : Type} [Inhabited α] {n : Nat} {p : Nat → α → Prop} (h : ∀ i, i < n → ∃ x, p i x) : ∃ f : Nat → α, ∀ i, i < n → p i (f i) :=
  ⟨fun i => if hi : i < n then Classical.choose (h i hi) else default, fun i hi => by
    simp only [dif_pos hi]
    exact Classical.choose_spec (h i hi)⟩

theorem open_ints {H : Type} {enc : TypeId × Value → H} {w : World} {sp : Nat → Bool} {held : Bool} {fuel : Nat} {v : Value} {x : DataW H × List MemPlace}
    (hf : DataW.trod enc Tryz.prog w 0 sp held fuel 24 [v] = some x) (hw : ∀ n ∈ x.1.weights Tryz.prog 24, n ≤ reachBytes) :
    ∃ (a : Option Addr) (c : Nat) (wd : Word), v = .slice a wd.length c ∧ Ints (fun _ => False) w v wd ∧ Nz v ∧ wd.length ≤ 1152921504606846976 ∧ ∀ x ∈ wd, (Lit.int .i64 x).wf = true := by
  rcases DataW.trod_slice Tryz.underlying24 hf with ⟨h0, _⟩ | ⟨a, l, c, elems, rest, n, _, hcs, hx, _, hl, hm, hlen, hel, _, _⟩
  · simp at h0
    subst h0
    exact ⟨none, 0, [], rfl, Seq.nil _ _, fun n c e => by cases e; exact ⟨rfl, rfl⟩, by simp, by simp⟩
  · simp at hcs
    subst hcs
    have hb : l ≤ 1152921504606846976 := by
      have := hw ((elems.length + rest.length) * 8) (by rw [hx]; simp [DataW.weights, Tryz.underlying24, bytesInt])
      have h2 : reachBytes = 140737488351232 := rfl
      omega
    have hnz : Nz (.slice (some a) l c) := fun n c e => by cases e
    by_cases hpos : 0 < l
    · have hspot : a.spot = none := by
        have key := hel 0 hpos
        rw [List.getElem?_eq_getElem (by omega)] at key
        obtain ⟨cs', g1, _⟩ := Option.bind_eq_some_iff.1 key
        obtain ⟨_, hl3, hcell⟩ := World.cells?_some g1
        rw [cellsInt] at hcell hl3
        have h0 := hcell 0 (by omega)
        rw [List.getElem?_eq_getElem (by omega)] at h0
        simpa [Addr.add] using World.cell?_spot h0
      obtain ⟨b, off, spot⟩ := a
      simp only at hspot
      subst hspot
      obtain ⟨f, hfn⟩ : ∃ f : Nat → Int, ∀ i, i < l → w.cell? ⟨b, off + i, none⟩ = some (.int .i64 (f i)) ∧ (Lit.int .i64 (f i)).wf = true := skolem (p := fun i n => w.cell? ⟨b, off + i, none⟩ = some (.int .i64 n) ∧ (Lit.int .i64 n).wf = true) fun i hi => by
        have key := hel i hi
        rw [List.getElem?_eq_getElem (by omega)] at key
        obtain ⟨cs', g1, g2⟩ := Option.bind_eq_some_iff.1 key
        obtain ⟨_, hl3, hcell⟩ := World.cells?_some g1
        rw [cellsInt] at hcell hl3
        obtain ⟨n0, e0, _, hwf⟩ := DataW.trod_int Tryz.underlying3 g2
        subst e0
        exact ⟨n0, by simpa [add_plain] using hcell 0 (by omega), hwf⟩
      have hln : ((List.range l).map f).length = l := by simp
      refine ⟨some ⟨b, off, none⟩, c, (List.range l).map f, by rw [hln], ⟨_, c, by rw [hln], by rw [hln]; exact hl, hm, fun _ => ⟨b, off, rfl, id, fun j hj => ?_⟩⟩, hnz, by rw [hln]; exact hb, fun x hx' => ?_⟩
      · rw [(hfn j (by rw [hln] at hj; exact hj)).1]
        simp [encI]
      · obtain ⟨i, hi, rfl⟩ := List.mem_map.1 hx'
        exact (hfn i (List.mem_range.1 hi)).2
    · obtain rfl : l = 0 := by omega
      exact ⟨some a, c, [], rfl, ⟨_, c, rfl, by simp, hm, fun e => absurd rfl e⟩, hnz, by simp, by simp⟩

instance : Inhabited OpV := ⟨⟨0, 0, 0, 0, 0, none, 0, [], none, 0, []⟩⟩

theorem list7 {α : Type} {l : List α} (h : l.length = 7) : ∃ a b c d e f g, l = [a, b, c, d, e, f, g] := by
  match l, h with
  | [a, b, c, d, e, f, g], _ => exact ⟨a, b, c, d, e, f, g, rfl⟩

/-- The script opened. -/
theorem open_ops {H : Type} {enc : TypeId × Value → H} {w : World} {sp : Nat → Bool} {held : Bool} {fuel len cap : Nat} {a0 : Option Addr} {x : DataW H × List MemPlace}
    (hf : DataW.trod enc Tryz.prog w 0 sp held fuel 22 [.slice a0 len cap] = some x) (hw : ∀ n ∈ x.1.weights Tryz.prog 22, n ≤ reachBytes) :
    len ≤ 1152921504606846976 ∧ ∃ (b off : Nat) (f : Nat → OpV), (0 < len → a0 = some ⟨b, off, none⟩) ∧ ∀ i, i < len → OpAt w b (off + i * 7) (f i) := by
  rcases DataW.trod_slice Tryz.underlying22 hf with ⟨h0, _⟩ | ⟨a, l, c, elems, rest, n, _, hcs, hx, _, hl, hm, hlen, hel, _, _⟩
  · simp at h0
    obtain ⟨rfl, rfl, rfl⟩ := h0
    exact ⟨by omega, 0, 0, fun _ => default, fun h => by omega, fun i hi => by omega⟩
  · simp at hcs
    obtain ⟨rfl, rfl, rfl⟩ := hcs
    have hb : len ≤ 1152921504606846976 := by
      have := hw ((elems.length + rest.length) * 88) (by rw [hx]; simp [DataW.weights, Tryz.underlying22, bytesOp])
      have h2 : reachBytes = 140737488351232 := rfl
      omega
    refine ⟨hb, ?_⟩
    by_cases hpos : 0 < len
    · have hspot : a.spot = none := by
        have key := hel 0 hpos
        rw [List.getElem?_eq_getElem (by omega)] at key
        obtain ⟨cs', g1, _⟩ := Option.bind_eq_some_iff.1 key
        obtain ⟨_, hl3, hcell⟩ := World.cells?_some g1
        rw [cellsOp] at hcell hl3
        have h0 := hcell 0 (by omega)
        rw [List.getElem?_eq_getElem (by omega)] at h0
        simpa [Addr.add] using World.cell?_spot h0
      obtain ⟨b, off, spot⟩ := a
      simp only at hspot
      subst hspot
      obtain ⟨f, hfn⟩ : ∃ f : Nat → OpV, ∀ i, i < len → OpAt w b (off + i * 7) (f i) := skolem (p := fun i o => OpAt w b (off + i * 7) o) fun i hi => by
        have key := hel i hi
        rw [List.getElem?_eq_getElem (by omega)] at key
        obtain ⟨cs', g1, g2⟩ := Option.bind_eq_some_iff.1 key
        obtain ⟨_, hl3, hcell⟩ := World.cells?_some g1
        rw [cellsOp] at hcell hl3
        have hmem : (elems[i]'(by omega)).1 ∈ elems.map (·.1) := List.mem_map.2 ⟨_, List.getElem_mem _, rfl⟩
        have hwi : ∀ n ∈ (elems[i]'(by omega)).1.weights Tryz.prog 31, n ≤ reachBytes := fun n hn => hw n (by
          rw [hx]
          simp only [DataW.weights, Tryz.underlying22, List.mem_cons, List.mem_append]
          exact Or.inr (Or.inl (wAll_mem hmem n hn)))
        generalize elems[i]'(by omega) = y at g2 hwi
        obtain ⟨xs, m, _, rfl, _, hxl, hfld⟩ := DataW.trod_struct Tryz.underlying31 g2
        have f0 : DataW.trod enc Tryz.prog w 0 sp held m 29 ((cs'.drop 0).take (Tryz.prog.cellsOf 29)) = xs[0]? := hfld 0 _ rfl
        have f1 : DataW.trod enc Tryz.prog w 0 sp held m 3 ((cs'.drop 1).take (Tryz.prog.cellsOf 3)) = xs[1]? := hfld 1 _ rfl
        have f2 : DataW.trod enc Tryz.prog w 0 sp held m 3 ((cs'.drop 2).take (Tryz.prog.cellsOf 3)) = xs[2]? := hfld 2 _ rfl
        have f3 : DataW.trod enc Tryz.prog w 0 sp held m 3 ((cs'.drop 3).take (Tryz.prog.cellsOf 3)) = xs[3]? := hfld 3 _ rfl
        have f4 : DataW.trod enc Tryz.prog w 0 sp held m 24 ((cs'.drop 4).take (Tryz.prog.cellsOf 24)) = xs[4]? := hfld 4 _ rfl
        have f5 : DataW.trod enc Tryz.prog w 0 sp held m 24 ((cs'.drop 5).take (Tryz.prog.cellsOf 24)) = xs[5]? := hfld 5 _ rfl
        have f6 : DataW.trod enc Tryz.prog w 0 sp held m 3 ((cs'.drop 6).take (Tryz.prog.cellsOf 3)) = xs[6]? := hfld 6 _ rfl
        rw [cellsKind] at f0
        rw [cellsInt] at f1 f2 f3 f6
        rw [cellsInts] at f4 f5
        obtain ⟨c0, c1, c2, c3, c4, c5, c6, rfl⟩ := list7 hl3
        obtain ⟨x0, x1, x2, x3, x4, x5, x6, rfl⟩ := list7 (l := xs) hxl
        have w4 : ∀ n ∈ x4.1.weights Tryz.prog 24, n ≤ reachBytes := fun n hn => hwi n (by
          simp only [DataW.weights, Tryz.underlying31]
          exact DataW.weights_mem_each (j := 4) (t := 24) (d := x4.1) rfl rfl n hn)
        have w5 : ∀ n ∈ x5.1.weights Tryz.prog 24, n ≤ reachBytes := fun n hn => hwi n (by
          simp only [DataW.weights, Tryz.underlying31]
          exact DataW.weights_mem_each (j := 5) (t := 24) (d := x5.1) rfl rfl n hn)
        obtain ⟨n0, e0, _, _⟩ := DataW.trod_int Tryz.underlying29 f0
        obtain ⟨n1, e1, _, wf1⟩ := DataW.trod_int Tryz.underlying3 f1
        obtain ⟨n2, e2, _, wf2⟩ := DataW.trod_int Tryz.underlying3 f2
        obtain ⟨n3, e3, _, wf3⟩ := DataW.trod_int Tryz.underlying3 f3
        obtain ⟨n6, e6, _, _⟩ := DataW.trod_int Tryz.underlying3 f6
        obtain ⟨wa, wc, wd, e4, i4, z4, b4, wf4⟩ := open_ints (v := c4) f4 w4
        obtain ⟨pa, pc, pd, e5, i5, z5, b5, wf5⟩ := open_ints (v := c5) f5 w5
        simp at e0 e1 e2 e3 e6
        subst e0 e1 e2 e3 e6 e4 e5
        refine ⟨⟨n0, n1, n2, n3, n6, wa, wc, wd, pa, pc, pd⟩, ⟨?_, ?_, ?_, ?_, ?_, ?_, ?_, i4, z4, b4, i5, z5, b5, ?_⟩⟩
        rotate_left 7
        · intro x hx'
          simp only [List.mem_append, List.mem_cons, List.not_mem_nil, or_false] at hx'
          rcases hx' with ((rfl | rfl | rfl) | hx') | hx'
          · exact wf1
          · exact wf2
          · exact wf3
          · exact wf4 x hx'
          · exact wf5 x hx'
        · simpa [add_plain] using hcell 0 (by omega)
        · simpa [add_plain, Nat.add_assoc] using hcell 1 (by omega)
        · simpa [add_plain, Nat.add_assoc] using hcell 2 (by omega)
        · simpa [add_plain, Nat.add_assoc] using hcell 3 (by omega)
        · simpa [add_plain, Nat.add_assoc] using hcell 4 (by omega)
        · simpa [add_plain, Nat.add_assoc] using hcell 5 (by omega)
        · simpa [add_plain, Nat.add_assoc] using hcell 6 (by omega)
      exact ⟨b, off, f, fun _ => rfl, hfn⟩
    · exact ⟨0, 0, fun _ => default, fun h => absurd h hpos, fun i hi => by omega⟩
end Go.Proofs.Qxb6500848aGreatDoor
