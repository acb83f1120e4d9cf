/-
  ImageIsInjective: strconv.AppendUint; a text that grows.
-/
import Derived.Test.Qxb6500847aGreatDoorImA
import Derived.Test.Qxb6500847aGreatDoorImB
import Derived.Test.Qxb6500847aGreatDoorDfGb
import Derived.Test.Qxb6500847aGreatDoorOxRl
import Derived.Lib.OthersKept
import Derived.Lib.BufferKept
namespace Go.Proofs.Qxb6500847aGreatDoor.Os
open Go.RowKit FloorA Go.Lib
set_option maxRecDepth 100000
/-- The table of powers of ten. -/
def Tbw (w : World) : Prop := TabIs Tryz.prog w "internal/strconv.uint64pow10" .u64 pow10Tab
section
variable {w w' wr w5 : World} {bs : List UInt8} {v v5 : Value}
theorem Tbw.below (h : Tbw w) (k : Below w.heap.size w w') : Tbw w' := by
  unfold Tbw TabIs World.var? at *
  cases hg : Program.globalNamed Tryz.prog "internal/strconv.uint64pow10" with
  | none => simp [hg] at h
  | some g =>
    simp only [hg, Option.bind_some] at h ⊢
    have hlt : g < w.heap.size := by
      rcases Nat.lt_or_ge g w.heap.size with h' | h'
      · exact h'
      · rw [Array.getElem?_eq_none h'] at h; simp at h
    rw [k.block g hlt]
    exact h
theorem dig_len {u : Nat} (hu : u < 18446744073709551616) : (decDigits u).length ≤ 20 := by
  rw [decDigits_length]
  rcases Nat.lt_or_ge (nDigits u) 21 with h | h
  · omega
  · exfalso
    have q : ∀ k u, u < 10 ^ (k + 1) → nDigits u ≤ k + 1 := by
      intro k
      induction k with
      | zero => intro u hu; rw [nDigits_small (by simpa using hu)]; omega
      | succ k ih =>
        intro u hu
        by_cases h1 : u < 10
        · rw [nDigits_small h1]; omega
        · rw [nDigits_big h1]
          have := ih (u / 10) (by rw [Nat.pow_succ] at hu; omega)
          omega
    have := q 19 u (by omega)
    omega
set_option maxHeartbeats 1600000 in
theorem appU_any (w : World) (B n u : Nat) (hu : u < 18446744073709551616) (sv : Value) (xs : List Value) (hown : w.ownsRow B 5 1 sv n xs) (hBw : B ≤ w.heap.size) (hlim : n + 20 ≤ 140737488355328) (htab : Tbw w) :
    Calls Tryz.prog 100 #[sv, .int .u64 (u : Int), .int .i64 10] w fun e w' => ∃ v', e = .returned v' ∧ w'.ownsRow B 5 1 v' (n + (decDigits u).length) (xs ++ byteCells (decDigits u)) ∧ Below B w w' ∧ OthersKept 5 none w w' := by
  have HC : Hid (Calls Tryz.prog 224 #[sv, .int .u64 (u : Int), .int .i64 10] w fun e w' => ∃ v', e = .returned v' ∧ w'.ownsRow B 5 1 v' (n + (decDigits u).length) (xs ++ byteCells (decDigits u)) ∧ Below B w w' ∧ OthersKept 5 none w w') := by
    by_cases h : u < 100
    · exact Any.internal_strconv_AppendUint_10_small Tryz.lAppU B n u h sv xs w hown hBw hlim
    · exact Any.internal_strconv_AppendUint_10_big Tryz.lAppU B n u (by omega) hu sv xs w hown hBw hlim htab
  obtain ⟨a, c, hf⟩ := own_formD hown
  subst hf
  clear hown htab
  go_enter Tryz.func100, Tryz.ntmps100
  go_wp2_with fail
  go_at_call 224
  refine HC.out.mono ?_
  rintro e w' ⟨v', rfl, h1, h2, h3⟩
  have H1 := hideIt h1
  have H2 := hideIt h2
  have H3 : Hid (OthersKept 5 none w w') := h3
  obtain ⟨a2, c2, hf2⟩ := own_formD h1
  subst hf2
  clear h1 h2 h3
  go_wp2_with fail
  go_ret
  exact ⟨_, rfl, H1.out, H2.out, H3.out⟩
/-- The text so far. -/
structure Sp (w : World) (bs : List UInt8) (v : Value) (wr : World) : Prop where
  own : wr.ownsRow w.heap.size 5 1 v bs.length (byteCells bs)
  bel : Below w.heap.size w wr
theorem Sp.form (h : Sp w bs v wr) : ∃ a c, v = .slice a bs.length c := own_formD h.own
theorem Sp.form3 (h : Sp w bs v wr) : ∃ a n c, v = .slice a n c := by
  obtain ⟨a, c, e⟩ := h.form
  exact ⟨a, _, c, e⟩
theorem Sp.below (h : Sp w bs v wr) (k : Below wr.heap.size wr w') : Sp w bs v w' := ⟨owns_keep h.own (fun q hq => k.block q (owns_lt h.own q hq).2), h.bel.trans (k.mono h.bel.size)⟩
theorem Sp.num (h : Sp w bs v wr) (ht : Tbw w) {u : Nat} (hu : u < 18446744073709551616) (hl : bs.length ≤ 100000000) :
    Calls Tryz.prog 100 #[v, .int .u64 (u : Int), .int .i64 10] wr fun e w' => ∃ v', e = .returned v' ∧ Sp w (bs ++ decDigits u) v' w' ∧ OthersKept 5 none wr w' := by
  refine (appU_any wr w.heap.size bs.length u hu v _ h.own h.bel.size (by omega) (ht.below h.bel)).mono ?_
  rintro e w' ⟨v', rfl, h1, h2, h3⟩
  refine ⟨v', rfl, ⟨?_, h.bel.trans h2⟩, h3⟩
  rw [List.length_append]
  unfold byteCells at *
  rw [List.map_append]
  exact h1
theorem one_u8 (a : Int) : ∀ u ∈ [Value.int .u8 a], u.oneCell' = true := by
  intro u hu
  simp at hu
  subst hu
  rfl
theorem Sp.push {c : UInt8} (h : Sp w bs v wr) (ho : w5.ownsRow w.heap.size 5 1 v5 (bs.length + 1) (byteCells bs ++ [.int .u8 (c.toNat : Int)])) (hg : (wr.alloc (.cells #[.int .u8 (c.toNat : Int)] 5)).grownBy w5 v.ownBlock) : Sp w (bs ++ [c]) v5 w5 ∧ OthersKept 5 none wr w5 := by
  have hs := h.bel.size
  have h0 := World.ownsRow.alloc h.own (.cells #[.int .u8 (c.toNat : Int)] 5)
  refine ⟨⟨?_, (h.bel.trans ((alloc_below (w := wr) (.cells #[.int .u8 (c.toNat : Int)] 5)).mono hs)).trans ⟨hg.os, hg.tape, hg.output, hg.size, fun q hq => hg.block q (by simp; omega) (fun e => by have := (owns_lt h.own q e.symm).1; omega)⟩⟩, ?_⟩
  · rw [List.length_append]
    unfold byteCells at *
    rw [List.map_append]
    exact ho
  · exact ((OthersKept.refl 5 none wr).alloc _).grown hg (ownsRow_kind h0)
end
end Go.Proofs.Qxb6500847aGreatDoor.Os
