/-
  The script as the row reads it.
-/
import Derived.Test.Qxb6500847aGreatDoorOsPl
import Derived.Test.Qxb6500847aGreatDoorOsSa
import Derived.ProofKit
import Derived.ChangeOld
import Derived.SizedLaws
import Derived.OpenShut
import Derived.LaidLaws
import Derived.FnData
namespace Go.Proofs.Qxb6500847aGreatDoor.Os
open Go.RowKit Go.Maps Go.ChangeShapes Go.WideShapes FloorA
set_option maxRecDepth 100000
theorem cells34 : Tryz.prog.cellsOf 34 = 1 := by kernel_rfl
theorem cells35 : Tryz.prog.cellsOf 35 = 1 := by kernel_rfl
theorem cells28 : Tryz.prog.cellsOf 28 = 1 := by kernel_rfl
theorem cells29 : Tryz.prog.cellsOf 29 = 1 := by kernel_rfl
theorem cells30 : Tryz.prog.cellsOf 30 = 1 := by kernel_rfl
theorem cells32 : Tryz.prog.cellsOf 32 = 2 := by kernel_rfl
theorem cells33 : Tryz.prog.cellsOf 33 = 1 := by kernel_rfl
theorem cells5 : Tryz.prog.cellsOf 5 = 1 := by kernel_rfl
theorem cellsOp : Tryz.prog.cellsOf 37 = 12 := by kernel_rfl
theorem bytes34 : Tryz.prog.bytesOf 34 = 8 := by kernel_rfl
theorem bytesOp : Tryz.prog.bytesOf 37 = 72 := by kernel_rfl
theorem wAll_mem {H : Type} {P : Program} {e : TypeId} : ∀ {l : List (DataW H)} {d : DataW H}, d ∈ l → ∀ n ∈ d.weights P e, n ∈ DataW.weightsAll P e l
  | d' :: r, d, hd, n, hn => by
    simp only [DataW.weightsAll, List.mem_append]
    rcases List.mem_cons.1 hd with rfl | h
    · exact Or.inl hn
    · exact Or.inr (wAll_mem h n hn)
theorem skolem {α : Type} [Inhabited α] {n : Nat} {p : Nat → α → Prop} (h : ∀ i, i < n → ∃ x, p i x) : ∃ f : Nat → α, ∀ i, i < n → p i (f i) :=
  ⟨fun i => if hi : i < n then Classical.choose (h i hi) else default, fun i hi => by
    simp only [dif_pos hi]
    exact Classical.choose_spec (h i hi)⟩
theorem of_u8 {n : Int} (h : (Lit.int .u8 n).wf = true) : 0 ≤ n ∧ n < 256 := by
  simp [Lit.wf, IntKind.min, IntKind.max, IntKind.signed, IntKind.bits] at h
  omega
theorem of_u16 {n : Int} (h : (Lit.int .u16 n).wf = true) : 0 ≤ n ∧ n < 65536 := by
  simp [Lit.wf, IntKind.min, IntKind.max, IntKind.signed, IntKind.bits] at h
  omega
theorem of_u32 {n : Int} (h : (Lit.int .u32 n).wf = true) : 0 ≤ n ∧ n < 4294967296 := by
  simp [Lit.wf, IntKind.min, IntKind.max, IntKind.signed, IntKind.bits] at h
  omega
theorem of_u64 {n : Int} (h : (Lit.int .u64 n).wf = true) : 0 ≤ n ∧ n < 18446744073709551616 := by
  simp [Lit.wf, IntKind.min, IntKind.max, IntKind.signed, IntKind.bits] at h
  omega
theorem open_words {H : Type} {enc : TypeId × Value → H} {w : World} {sp : Nat → Bool} {held : Bool} {fuel : Nat} {v : Value} {x : DataW H × List MemPlace}
    (hf : DataW.trod enc Tryz.prog w 0 sp held fuel 35 [v] = some x) : ∃ m X, Ws w v m X := by
  rcases DataW.trod_slice Tryz.underlying35 hf with ⟨h0, _⟩ | ⟨a, l, c, elems, rest, n, _, hcs, hx, _, hl, hm, hlen, hel, _, _⟩
  · simp at h0
    subst h0
    exact ⟨0, fun _ => 0, Or.inl ⟨rfl, _, _, rfl⟩⟩
  · simp at hcs
    subst hcs
    by_cases hpos : 0 < l
    · have hspot : a.spot = none := by
        have key := hel 0 hpos
        rw [List.getElem?_eq_getElem (by omega)] at key
        obtain ⟨cs', g1, _⟩ := Option.bind_eq_some_iff.1 key
        obtain ⟨_, hl3, hcell⟩ := World.cells?_some g1
        rw [cells34] at hcell hl3
        have h0 := hcell 0 (by omega)
        rw [List.getElem?_eq_getElem (by omega)] at h0
        simpa [Addr.add] using World.cell?_spot h0
      obtain ⟨b, off, spot⟩ := a
      simp only at hspot
      subst hspot
      obtain ⟨X, hfn⟩ : ∃ X : Nat → Nat, ∀ i, i < l → X i < 18446744073709551616 ∧ w.cell? ⟨b, off + i, none⟩ = some (.int .u64 (X i : Int)) := skolem (α := Nat) (p := fun i (x : Nat) => x < 18446744073709551616 ∧ w.cell? ⟨b, off + i, none⟩ = some (.int .u64 (x : Int))) fun i hi => by
        have key := hel i hi
        rw [List.getElem?_eq_getElem (by omega)] at key
        obtain ⟨cs', g1, g2⟩ := Option.bind_eq_some_iff.1 key
        obtain ⟨_, hl3, hcell⟩ := World.cells?_some g1
        rw [cells34] at hcell hl3
        obtain ⟨n0, e0, _, hwf⟩ := DataW.trod_int Tryz.underlying34 g2
        subst e0
        have hb := of_u64 hwf
        refine ⟨n0.toNat, by omega, ?_⟩
        rw [Int.toNat_of_nonneg hb.1]
        simpa [add_plain] using hcell 0 (by omega)
      exact ⟨l, X, Or.inr ⟨b, off, c, rfl, hl, hm, cell_lt (hfn 0 hpos).2, hfn⟩⟩
    · obtain rfl : l = 0 := by omega
      exact ⟨0, fun _ => 0, Or.inl ⟨rfl, _, _, rfl⟩⟩
/-- A step, by its fields. -/
structure OpV where
  k : Nat
  i : Nat
  g : Nat
  j : Nat
  gg : Nat
  t : Nat
  bt : Nat
  ct : Nat
  fd : Nat
  a : Nat
  b : Nat
  wv : Value
  m : Nat
  X : Nat → Nat
instance : Inhabited OpV := ⟨⟨0, 0, 0, 0, 0, 0, 0, 0, 0, 0, 0, .nilIface, 0, fun _ => 0⟩⟩
def OpV.arr (o : OpV) : Array Value := opA o.k o.i o.g o.j o.gg o.t o.bt o.ct o.fd o.a o.b o.wv
/-- A step lies in memory. -/
structure OpAt (w : World) (b o : Nat) (v : OpV) : Prop where
  rng : w.rangeAt b o v.arr.toList
  k : v.k < 256
  g : v.g < 4294967296
  t : v.t < 256
  bt : v.bt < 256
  ct : v.ct < 65536
  fd : v.fd < 65536
  a : v.a < 18446744073709551616
  b : v.b < 18446744073709551616
  ws : Ws w v.wv v.m v.X
  i6 : v.i < 65536
  j6 : v.j < 65536
theorem list12 {α : Type} {l : List α} (h : l.length = 12) : ∃ a b c d e f g h' i j k m, l = [a, b, c, d, e, f, g, h', i, j, k, m] := by
  match l, h with
  | [a, b, c, d, e, f, g, h', i, j, k, m], _ => exact ⟨a, b, c, d, e, f, g, h', i, j, k, m, rfl⟩
theorem list10 {α : Type} {l : List α} (h : l.length = 10) : ∃ a b c d e f g h' i j, l = [a, b, c, d, e, f, g, h', i, j] := by
  match l, h with
  | [a, b, c, d, e, f, g, h', i, j], _ => exact ⟨a, b, c, d, e, f, g, h', i, j, rfl⟩
theorem list2 {α : Type} {l : List α} (h : l.length = 2) : ∃ a b, l = [a, b] := by
  match l, h with
  | [a, b], _ => exact ⟨a, b, rfl⟩
theorem open_ref {H : Type} {enc : TypeId × Value → H} {w : World} {sp : Nat → Bool} {held : Bool} {m : Nat} {c d : Value} {x : DataW H × List MemPlace}
    (hf : DataW.trod enc Tryz.prog w 0 sp held m 32 [c, d] = some x) : ∃ i g : Nat, c = .int .u16 (i : Int) ∧ d = .int .u32 (g : Int) ∧ i < 65536 ∧ g < 4294967296 := by
  obtain ⟨xs, m', _, rfl, _, hxl, hfld⟩ := DataW.trod_struct Tryz.underlying32 hf
  have f0 : DataW.trod enc Tryz.prog w 0 sp held m' 29 (([c, d].drop 0).take (Tryz.prog.cellsOf 29)) = xs[0]? := hfld 0 _ rfl
  have f1 : DataW.trod enc Tryz.prog w 0 sp held m' 30 (([c, d].drop 1).take (Tryz.prog.cellsOf 30)) = xs[1]? := hfld 1 _ rfl
  rw [cells29] at f0
  rw [cells30] at f1
  obtain ⟨x0, x1, rfl⟩ := list2 (l := xs) hxl
  obtain ⟨n0, e0, _, w0⟩ := DataW.trod_int Tryz.underlying29 f0
  obtain ⟨n1, e1, _, w1⟩ := DataW.trod_int Tryz.underlying30 f1
  simp at e0 e1
  subst e0 e1
  have b0 := of_u16 w0
  have b1 := of_u32 w1
  exact ⟨n0.toNat, n1.toNat, by rw [Int.toNat_of_nonneg b0.1], by rw [Int.toNat_of_nonneg b1.1], by omega, by omega⟩
/-- The script opened. -/
theorem open_ops {H : Type} {enc : TypeId × Value → H} {w : World} {sp : Nat → Bool} {held : Bool} {fuel len cap : Nat} {a0 : Option Addr} {x : DataW H × List MemPlace}
    (hf : DataW.trod enc Tryz.prog w 0 sp held fuel 22 [.slice a0 len cap] = some x) (hw : ∀ n ∈ x.1.weights Tryz.prog 22, n ≤ reachBytes) :
    len ≤ 1152921504606846976 ∧ ∃ (b off : Nat) (f : Nat → OpV), (0 < len → a0 = some ⟨b, off, none⟩) ∧ ∀ i, i < len → OpAt w b (off + i * 12) (f i) := by
  rcases DataW.trod_slice Tryz.underlying22 hf with ⟨h0, _⟩ | ⟨a, l, c, elems, rest, n, _, hcs, hx, _, hl, hm, hlen, hel, _, _⟩
  · simp at h0
    obtain ⟨rfl, rfl, rfl⟩ := h0
    exact ⟨by omega, 0, 0, fun _ => default, fun h => by omega, fun i hi => by omega⟩
  · simp at hcs
    obtain ⟨rfl, rfl, rfl⟩ := hcs
    have hb : len ≤ 1152921504606846976 := by
      have := hw ((elems.length + rest.length) * 72) (by rw [hx]; simp [DataW.weights, Tryz.underlying22, bytesOp])
      have h2 : reachBytes = 140737488351232 := rfl
      omega
    refine ⟨hb, ?_⟩
    by_cases hpos : 0 < len
    · have hspot : a.spot = none := by
        have key := hel 0 hpos
        rw [List.getElem?_eq_getElem (by omega)] at key
        obtain ⟨cs', g1, _⟩ := Option.bind_eq_some_iff.1 key
        obtain ⟨_, hl3, hcell⟩ := World.cells?_some g1
        rw [cellsOp] at hcell hl3
        have h0 := hcell 0 (by omega)
        rw [List.getElem?_eq_getElem (by omega)] at h0
        simpa [Addr.add] using World.cell?_spot h0
      obtain ⟨b, off, spot⟩ := a
      simp only at hspot
      subst hspot
      obtain ⟨f, hfn⟩ : ∃ f : Nat → OpV, ∀ i, i < len → OpAt w b (off + i * 12) (f i) := skolem (p := fun i o => OpAt w b (off + i * 12) o) fun i hi => by
        have key := hel i hi
        rw [List.getElem?_eq_getElem (by omega)] at key
        obtain ⟨cs', g1, g2⟩ := Option.bind_eq_some_iff.1 key
        obtain ⟨_, hl3, hcell⟩ := World.cells?_some g1
        rw [cellsOp] at hcell hl3
        generalize elems[i]'(by omega) = y at g2
        obtain ⟨xs, m, _, rfl, _, hxl, hfld⟩ := DataW.trod_struct Tryz.underlying37 g2
        have f0 : DataW.trod enc Tryz.prog w 0 sp held m 28 ((cs'.drop 0).take (Tryz.prog.cellsOf 28)) = xs[0]? := hfld 0 _ rfl
        have f1 : DataW.trod enc Tryz.prog w 0 sp held m 32 ((cs'.drop 1).take (Tryz.prog.cellsOf 32)) = xs[1]? := hfld 1 _ rfl
        have f2 : DataW.trod enc Tryz.prog w 0 sp held m 32 ((cs'.drop 3).take (Tryz.prog.cellsOf 32)) = xs[2]? := hfld 2 _ rfl
        have f3 : DataW.trod enc Tryz.prog w 0 sp held m 33 ((cs'.drop 5).take (Tryz.prog.cellsOf 33)) = xs[3]? := hfld 3 _ rfl
        have f4 : DataW.trod enc Tryz.prog w 0 sp held m 5 ((cs'.drop 6).take (Tryz.prog.cellsOf 5)) = xs[4]? := hfld 4 _ rfl
        have f5 : DataW.trod enc Tryz.prog w 0 sp held m 29 ((cs'.drop 7).take (Tryz.prog.cellsOf 29)) = xs[5]? := hfld 5 _ rfl
        have f6 : DataW.trod enc Tryz.prog w 0 sp held m 29 ((cs'.drop 8).take (Tryz.prog.cellsOf 29)) = xs[6]? := hfld 6 _ rfl
        have f7 : DataW.trod enc Tryz.prog w 0 sp held m 34 ((cs'.drop 9).take (Tryz.prog.cellsOf 34)) = xs[7]? := hfld 7 _ rfl
        have f8 : DataW.trod enc Tryz.prog w 0 sp held m 34 ((cs'.drop 10).take (Tryz.prog.cellsOf 34)) = xs[8]? := hfld 8 _ rfl
        have f9 : DataW.trod enc Tryz.prog w 0 sp held m 35 ((cs'.drop 11).take (Tryz.prog.cellsOf 35)) = xs[9]? := hfld 9 _ rfl
        rw [cells28] at f0
        rw [cells32] at f1 f2
        rw [cells33] at f3
        rw [cells5] at f4
        rw [cells29] at f5 f6
        rw [cells34] at f7 f8
        rw [cells35] at f9
        obtain ⟨c0, c1, c2, c3, c4, c5, c6, c7, c8, c9, c10, c11, rfl⟩ := list12 hl3
        obtain ⟨x0, x1, x2, x3, x4, x5, x6, x7, x8, x9, rfl⟩ := list10 (l := xs) hxl
        obtain ⟨n0, e0, _, w0⟩ := DataW.trod_int Tryz.underlying28 f0
        obtain ⟨i1, g1', rfl, rfl, bi1, bg⟩ := open_ref (c := c1) (d := c2) f1
        obtain ⟨i2, g2', rfl, rfl, bi2, _⟩ := open_ref (c := c3) (d := c4) f2
        obtain ⟨n3, e3, _, w3⟩ := DataW.trod_int Tryz.underlying33 f3
        obtain ⟨n4, e4, _, w4⟩ := DataW.trod_int Tryz.underlying5 f4
        obtain ⟨n5, e5, _, w5⟩ := DataW.trod_int Tryz.underlying29 f5
        obtain ⟨n6, e6, _, w6⟩ := DataW.trod_int Tryz.underlying29 f6
        obtain ⟨n7, e7, _, w7⟩ := DataW.trod_int Tryz.underlying34 f7
        obtain ⟨n8, e8, _, w8⟩ := DataW.trod_int Tryz.underlying34 f8
        obtain ⟨m9, X9, h9⟩ := open_words (v := c11) f9
        simp at e0 e3 e4 e5 e6 e7 e8
        subst e0 e3 e4 e5 e6 e7 e8
        have b0 := of_u8 w0
        have b3 := of_u8 w3
        have b4 := of_u8 w4
        have b5 := of_u16 w5
        have b6 := of_u16 w6
        have b7 := of_u64 w7
        have b8 := of_u64 w8
        refine ⟨⟨n0.toNat, i1, g1', i2, g2', n3.toNat, n4.toNat, n5.toNat, n6.toNat, n7.toNat, n8.toNat, c11, m9, X9⟩, ⟨?_, by show n0.toNat < _; omega, bg, by show n3.toNat < _; omega, by show n4.toNat < _; omega, by show n5.toNat < _; omega, by show n6.toNat < _; omega, by show n7.toNat < _; omega, by show n8.toNat < _; omega, h9, bi1, bi2⟩⟩
        intro jj vv hj
        unfold OpV.arr opA at hj
        simp only [Int.toNat_of_nonneg b0.1, Int.toNat_of_nonneg b3.1, Int.toNat_of_nonneg b4.1, Int.toNat_of_nonneg b5.1, Int.toNat_of_nonneg b6.1, Int.toNat_of_nonneg b7.1, Int.toNat_of_nonneg b8.1] at hj
        have hjl : jj < 12 := (List.getElem?_eq_some_iff.1 hj).1
        have := hcell jj hjl
        rw [hj] at this
        simpa [add_plain, Nat.add_assoc] using this
      exact ⟨b, off, f, fun _ => rfl, hfn⟩
    · exact ⟨0, 0, fun _ => default, fun h => absurd h hpos, fun i hi => by omega⟩
end Go.Proofs.Qxb6500847aGreatDoor.Os
