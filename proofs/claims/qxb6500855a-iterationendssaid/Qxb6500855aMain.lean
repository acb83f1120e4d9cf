/-
  The walk of IterationEnds.
-/
import Derived.Test.Qxb6500855aLeast
namespace Go.Proofs.Qxb6500855a
open Go.RowKit Plain

theorem Try.info30 : (Try.prog.info? 30).map (fun i => (i.zero, i.size, i.bytes)) = some (some (.agg #[.int .i64 0, .int .i64 0]), 2, 16) := by kernel_rfl

theorem and_i64 (z m : Int) (h0 : 0 ≤ m) (h1 : m ≤ 9223372036854775807) : 0 ≤ bits .and .i64 z m ∧ bits .and .i64 z m ≤ m := by
  obtain ⟨M, rfl⟩ := Int.eq_ofNat_of_zero_le h0
  have e : bits .and .i64 z (M : Int) = wrap64 (((BitVec.ofInt 64 z).toNat &&& M : Nat) : Int) := by
    show IntKind.i64.wrap ((BitVec.ofInt 64 z &&& BitVec.ofInt 64 (M : Int)).toNat : Int) = _
    rw [BitVec.toNat_and, BitVec.ofInt_natCast, BitVec.toNat_ofNat, Nat.mod_eq_of_lt (by omega), Go.IntWalk.i64_left]
  have h2 : (BitVec.ofInt 64 z).toNat &&& M ≤ M := Nat.and_le_right
  rw [e]
  generalize (BitVec.ofInt 64 z).toNat &&& M = r at *
  have : wrap64 (r : Int) = r := by
    unfold wrap64; omega
  rw [this]
  omega
theorem and_u64 (z m : Int) (h0 : 0 ≤ m) (h1 : m ≤ 9223372036854775807) : 0 ≤ bits .and .u64 z m ∧ bits .and .u64 z m ≤ m := by
  obtain ⟨M, rfl⟩ := Int.eq_ofNat_of_zero_le h0
  have e : bits .and .u64 z (M : Int) = IntKind.u64.wrap (((BitVec.ofInt 64 z).toNat &&& M : Nat) : Int) := by
    show IntKind.u64.wrap ((BitVec.ofInt 64 z &&& BitVec.ofInt 64 (M : Int)).toNat : Int) = _
    rw [BitVec.toNat_and, BitVec.ofInt_natCast, BitVec.toNat_ofNat, Nat.mod_eq_of_lt (by omega)]
  have h2 : (BitVec.ofInt 64 z).toNat &&& M ≤ M := Nat.and_le_right
  rw [e]
  generalize (BitVec.ofInt 64 z).toNat &&& M = r at *
  have : IntKind.u64.wrap (r : Int) = r := by
    simp [IntKind.wrap, IntKind.bits, IntKind.signed]; omega
  rw [this]
  omega
theorem shr_in {a : Int} (s : Nat) (h0 : 0 ≤ a) (h1 : a ≤ 9223372036854775807) : InR (a / 2 ^ s) := by
  have h2 : a / 2 ^ s ≤ a := Int.ediv_le_self _ h0
  have h3 : 0 ≤ a / 2 ^ s := Int.ediv_nonneg h0 (by exact_mod_cast Nat.zero_le _)
  unfold InR top
  omega

/-- The script's cells. -/
def Ops (w : World) (a : Option Addr) (n b off : Nat) : Prop :=
  (0 < n → a = some ⟨b, off, none⟩) ∧ ∀ i, i < n → ∃ k x y z : Int, w.cell? ⟨b, off + i * 4, none⟩ = some (.int .u8 k) ∧ w.cell? ⟨b, off + i * 4 + 1, none⟩ = some (.int .i64 x) ∧ w.cell? ⟨b, off + i * 4 + 2, none⟩ = some (.int .i64 y) ∧ w.cell? ⟨b, off + i * 4 + 3, none⟩ = some (.int .i64 z)

theorem cell_two_at (W : World) (n : Nat) (h : W.heap.size = n) (u v : Value) (t : TypeId) : (W.alloc (.cells #[u, v] t)).cell? ⟨n, 0, none⟩ = some u ∧ (W.alloc (.cells #[u, v] t)).cell? ⟨n, 1, none⟩ = some v := by
  subst h
  exact ⟨by simp, by simp⟩
theorem hideIt {p : Prop} (h : p) : Hid p := h

def rowOf (L : List (Int × Int)) : List Value := L.flatMap fun l => [.int .i64 l.1, .int .i64 l.2]
theorem rowOf_snoc (L : List (Int × Int)) (t c : Int) : rowOf L ++ [.int .i64 t, .int .i64 c] = rowOf (L ++ [(t, c)]) := by simp [rowOf]

/-- The memory in the loop: the variable 'fixed' in block B, 'loads' in block B + 1, its row among the later ones; below B all is as it was. -/
structure RI (B : Nat) (w : World) (c : Int) (v : Value) (L : List (Int × Int)) (w' : World) : Prop where
  b0 : w'.heap[B]? = some (.cells #[.int .i64 c] 2 (0, 0))
  b1 : w'.heap[B + 1]? = some (.cells #[v] 24 (0, 0))
  own : w'.ownsRow (B + 2) 30 2 v L.length (rowOf L)
  bel : Below B w w'
theorem RI.alloc {B : Nat} {w w' : World} {c : Int} {v : Value} {L : List (Int × Int)} (h : RI B w c v L w') (o : Obj) : RI B w c v L (w'.alloc o) := by
  have h0 := lt_of_block h.b0
  have h1 := lt_of_block h.b1
  exact ⟨by rw [heap_alloc_old w' o h0]; exact h.b0, by rw [heap_alloc_old w' o h1]; exact h.b1, h.own.alloc o, h.bel.alloc (by omega) o⟩
theorem RI.setFixed {B : Nat} {w w' : World} {c : Int} {v : Value} {L : List (Int × Int)} (h : RI B w c v L w') (c' : Int) : RI B w c' v L (w'.setCell ⟨B, 0, none⟩ (.int .i64 c')) := by
  exact ⟨one_setCell h.b0, by rw [Below.heap_setCell w' _ _ (B + 1) (by simp)]; exact h.b1, ownsRow_setCell_below h.own (by simp) _, h.bel.setCell (Nat.le_refl _) _⟩
theorem RI.grow {B : Nat} {w w' w2 : World} {c : Int} {v v' : Value} {L L' : List (Int × Int)} (h : RI B w c v L w') (hg : w'.grownBy w2 v.ownBlock) (hown : w2.ownsRow (B + 2) 30 2 v' L'.length (rowOf L')) :
    w2.heap[B + 1]? = some (.cells #[v] 24 (0, 0)) ∧ RI B w c v' L' (w2.setCell ⟨B + 1, 0, none⟩ v') := by
  have h0 := lt_of_block h.b0
  have h1 := lt_of_block h.b1
  have hr : ∀ k, v.ownBlock = some k → B + 2 ≤ k := fun k hk => (h.own.lt k hk).1
  have e0 : w2.heap[B]? = some (.cells #[.int .i64 c] 2 (0, 0)) := by
    rw [hg.block B h0 (fun e => by have := hr B e.symm; omega)]; exact h.b0
  have e1 : w2.heap[B + 1]? = some (.cells #[v] 24 (0, 0)) := by
    rw [hg.block (B + 1) h1 (fun e => by have := hr (B + 1) e.symm; omega)]; exact h.b1
  refine ⟨e1, ?_, one_setCell e1, ownsRow_setCell_below hown (by simp) _, ?_⟩
  · rw [Below.heap_setCell w2 _ _ B (by simp)]; exact e0
  · exact (h.bel.grown hg (by omega) (fun k hk => by have := hr k hk; omega)).setCell (by simp) _
theorem RI.shape {B : Nat} {w w' : World} {c : Int} {v : Value} {L : List (Int × Int)} (h : RI B w c v L w') : ∃ ad cap, v = .slice ad L.length cap := by
  rcases h.own.2 with ⟨rfl, hn⟩ | ⟨g, cap, cur, rfl, _⟩
  · exact ⟨none, 0, by rw [hn]⟩
  · exact ⟨_, cap, rfl⟩

theorem rowOf_get (L : List (Int × Int)) (i : Nat) (h : i < L.length) : (rowOf L)[i * 2]? = some (.int .i64 (L[i]).1) ∧ (rowOf L)[i * 2 + 1]? = some (.int .i64 (L[i]).2) := by
  induction L generalizing i with
  | nil => simp at h
  | cons l L ih =>
    match i with
    | 0 => simp [rowOf]
    | i + 1 =>
      have := ih i (by simpa using h)
      have e : rowOf (l :: L) = .int .i64 l.1 :: .int .i64 l.2 :: rowOf L := by simp [rowOf]
      rw [e, show (i + 1) * 2 = i * 2 + 1 + 1 by omega]
      simpa using this
theorem plainAdd (g j : Nat) : (⟨g, 0, none⟩ : Addr).add j = ⟨g, j, none⟩ := by
  unfold Addr.add
  by_cases h : j = 0 <;> simp [h]
theorem RI.held {B : Nat} {w w' : World} {c : Int} {v : Value} {L : List (Int × Int)} (h : RI B w c v L w') (hc : InR c) (hL : ∀ l ∈ L, LoadOk l) (h8 : L.length ≤ 8) : Held w'.heap.size w' B (B + 1) c L := by
  refine ⟨lt_of_block h.b0, lt_of_block h.b1, cell_of_one h.b0, ?_, hc, hL, h8⟩
  rcases h.own.2 with ⟨rfl, hn⟩ | ⟨g, cap, cur, rfl, hg⟩
  · exact ⟨none, 0, by rw [hn]; exact cell_of_one h.b1, fun i hi => by omega⟩
  · refine ⟨_, cap, cell_of_one h.b1, fun i hi => ⟨g, (h.own.lt g rfl).2, rfl, ?_, ?_⟩⟩
    · have := h.own.cells (g := g) rfl (i * 2) _ (rowOf_get L i hi).1
      rwa [plainAdd] at this
    · have := h.own.cells (g := g) rfl (i * 2 + 1) _ (rowOf_get L i hi).2
      rwa [plainAdd] at this

theorem least_unique {L : List (Int × Int)} {c lim r r' : Int} (h : Least L c lim r) (h' : Least L c lim r') : r = r' := by
  obtain ⟨a1, a2, a3, a4⟩ := h
  obtain ⟨b1, b2, b3, b4⟩ := h'
  have := a4 r' b1 b2 b3
  have := b4 r a1 a2 a3
  omega
theorem least_noFix {L : List (Int × Int)} {c lim r : Int} (h : Least L c lim r) (h' : NoFix L c lim) : False :=
  h' r h.1 h.2.1 h.2.2.1

/-- The two new variables behind the loop: f in block n, the count in block n + 1. -/
theorem base_of {B : Nat} {w' : World} {c : Int} {L : List (Int × Int)} (h : Held w'.heap.size w' B (B + 1) c L) :
    Base (w'.heap.size + 1) w'.heap.size B (B + 1) c L (w'.alloc (.cells #[fVal B (B + 1)] 31)) ∧ Inv (w'.heap.size + 1) (w'.alloc (.cells #[fVal B (B + 1)] 31)) 0 ((w'.alloc (.cells #[fVal B (B + 1)] 31)).alloc (.cells #[.int .i64 0] 2)) := by
  have hs : (w'.alloc (.cells #[fVal B (B + 1)] 31)).heap.size = w'.heap.size + 1 := by simp
  refine ⟨⟨?_, ?_, by omega⟩, ?_, ?_⟩
  · exact (h.below ((Below.refl _ _).alloc (Nat.le_refl _) _)).mono (by omega)
  · exact cell_of_one (heap_alloc_new w' _)
  · exact (Below.refl _ _).alloc (by omega) _
  · rw [← hs]; exact heap_alloc_new _ _

set_option maxHeartbeats 400000 in
theorem main_walk (a : Option Addr) (b off n cp : Nat) (w : World) (hn : n ≤ maxLen) (ho : Ops w a n b off) :
    Calls Try.prog 3 #[.slice a n cp] w fun e w' => e = .returned (.bool true) ∧ Below w.heap.size w w' := by
  unfold maxLen at hn
  have HO : Hid (Ops w a n b off) := ho
  clear ho
  by_cases hs : (n : Int) ≤ 65536
  · have hs' : decide ((n : Int) ≤ 65536) = true := by simpa using hs
    go_enter Try.func3, Try.ntmps3
    go_wp2_with (go_at_call 4; refine (small_any _ _ _ _).mono ?_; rintro e w1 ⟨rfl, hw1⟩; subst w1)
    go_loopw [4, 19] (fun l i w' => ∃ (k : Nat) (lim c : Int) (v : Value) (L : List (Int × Int)), k ≤ n ∧ i = .int .i64 k ∧ l = .int .i64 lim ∧ 0 ≤ lim ∧ lim ≤ 8191 ∧ InR c ∧ L.length ≤ 8 ∧ (∀ l ∈ L, LoadOk l) ∧
        RI w.heap.size w c v L w') (fun _ i _ => n - (intOf i).toNat)
    case atStart =>
      refine ⟨0, 0, 0, .slice none 0 0, [], by omega, rfl, rfl, by omega, by omega, ⟨by omega, by decide⟩, by simp, by simp, ?_⟩
      refine ⟨?_, ?_, World.ownsRow_nil _ _ _ _, ((Below.refl _ _).alloc (Nat.le_refl _) _).alloc (by simp) _⟩
      · rw [heap_alloc_old _ _ (by simp)]; exact heap_alloc_new _ _
      · have := heap_alloc_new (w.alloc (.cells #[.int .i64 0] 2)) (.cells #[.slice none 0 0] 24)
        simpa using this
    case round =>
      obtain ⟨k, lim, c, v, L, hk, rfl, rfl, hl0, hl1, hc, hL8, hLok, hri⟩ := hrel
      have HLok : Hid (∀ l ∈ L, LoadOk l) := hLok
      have HC : Hid (InR c) := hc
      have HRI : Hid (RI w.heap.size w c v L wr) := hri
      clear hLok hc hri
      by_cases hlt : k < n
      · obtain ⟨kd, x, y, z, g0, g1, g2, g3⟩ := HO.out.2 k hlt
        obtain rfl := HO.out.1 (by omega)
        have hlb : b < w.heap.size := cell_lt g0
        have h1 : wr.cell? ⟨b, off + k * 4, none⟩ = some (.int .u8 kd) := by rw [HRI.out.bel.cell hlb]; exact g0
        have h2 : wr.cell? ⟨b, off + k * 4 + 1, none⟩ = some (.int .i64 x) := by rw [HRI.out.bel.cell hlb]; exact g1
        have h3 : wr.cell? ⟨b, off + k * 4 + 2, none⟩ = some (.int .i64 y) := by rw [HRI.out.bel.cell hlb]; exact g2
        have h4 : wr.cell? ⟨b, off + k * 4 + 3, none⟩ = some (.int .i64 z) := by rw [HRI.out.bel.cell hlb]; exact g3
        clear g0 g1 g2 g3
        have hsz := lt_of_block HRI.out.b1
        have hsz0 := lt_of_block HRI.out.b0
        have hc0 := cell_of_one HRI.out.b0
        have hc1 := cell_of_one HRI.out.b1
        have hf0 := free_of_one HRI.out.b0
        have hf1 := free_of_one HRI.out.b1
        obtain ⟨ad, cap, rfl⟩ := HRI.out.shape
        obtain ⟨hz0, hz1⟩ := and_i64 z 9223372036854775807 (by omega) (by omega)
        obtain ⟨hx0, hx1⟩ := and_u64 (IntKind.u64.wrap x) 63 (by omega) (by omega)
        obtain ⟨hy0, hy1⟩ := and_i64 y 4095 (by omega) (by omega)
        obtain ⟨hq0, hq1⟩ := and_i64 (lim + bits .and .i64 y 4095) 8191 (by omega) (by omega)
        by_cases hL : L.length < 8
        · obtain ⟨hp0, hp1⟩ := and_i64 x 255 (by omega) (by omega)
          obtain ⟨hr0, hr1⟩ := and_i64 y 9223372036854775807 (by omega) (by omega)
          obtain ⟨ht0, ht1⟩ := and_u64 (IntKind.u64.wrap z) 63 (by omega) (by omega)
          obtain ⟨i0, hi, hi0, hi1, hi2⟩ := info_parts Try.info30
          have hsr : InR (bits .and .i64 y 9223372036854775807 / 2 ^ (bits .and .u64 (IntKind.u64.wrap z) 63).toNat) := shr_in _ hr0 hr1
          have HSR : Hid (InR (bits .and .i64 y 9223372036854775807 / 2 ^ (bits .and .u64 (IntKind.u64.wrap z) 63).toNat)) := hsr
          clear hsr
          go_wp2_with (first
            | (go_at_call 5; refine (plus_any _ _ HC.out (shr_in _ hz0 hz1) _).mono ?_; rintro e w1 ⟨rfl, hw1⟩; subst w1)
            | (at_builtin; refine wpList_append_own _ rfl (.tmp 42) (.tmp 56) 24 rfl (w.heap.size + 2) 30 i0 (.agg #[.int .i64 0, .int .i64 0]) 2 16 Try.underlying24 hi hi0 hi1 hi2 rfl (by decide) _ _ _ rfl (((HRI.out.setFixed _).alloc _).alloc _).own ⟨wr.heap.size + 1, 0, none⟩ 1 1 [.int .i64 (bits .and .i64 x 255 + 1), .int .i64 (bits .and .i64 y 9223372036854775807 / 2 ^ (bits .and .u64 (IntKind.u64.wrap z) 63).toNat)] rfl rfl ?c1 ?c2 ?c3 ?c4 ?c5 ?_))
          case c1 =>
            intro j u hj
            match j, hj with
            | 0, hj => simp at hj; subst hj; exact (cell_two_at _ (wr.heap.size + 1) (by simp) _ _ _).1
            | 1, hj => simp at hj; subst hj; exact (cell_two_at _ (wr.heap.size + 1) (by simp) _ _ _).2
          case c2 => intro u hu; simp at hu; rcases hu with rfl | rfl <;> rfl
          case c3 => unfold maxLen; omega
          case c4 => omega
          case c5 => simp; omega
          · intro v' w2 hown' hgrow _
            have hown2 : w2.ownsRow (w.heap.size + 2) 30 2 v' (L ++ [(bits .and .i64 x 255 + 1, bits .and .i64 y 9223372036854775807 / 2 ^ (bits .and .u64 (IntKind.u64.wrap z) 63).toNat)]).length (rowOf (L ++ [(bits .and .i64 x 255 + 1, bits .and .i64 y 9223372036854775807 / 2 ^ (bits .and .u64 (IntKind.u64.wrap z) 63).toNat)])) := by
              rw [← rowOf_snoc, List.length_append]
              exact hown'
            obtain ⟨e1, R⟩ := RI.grow (((HRI.out.setFixed _).alloc _).alloc _) hgrow hown2
            obtain ⟨ad', cap', hv'⟩ := R.shape
            rw [List.length_append, List.length_singleton] at hv'
            subst hv'
            have d1 := cell_of_one e1
            have d2 := free_of_one e1
            have HR' := hideIt R
            clear hown' hgrow hown2 e1 R
            go_wp2
            go_roundw
            case rel =>
              refine ⟨k + 1, _, _, _, _, by omega, by go_num, rfl, hq0, hq1, satAdd_in HC.out (shr_in _ hz0 hz1), ?_, ?_, HR'.out⟩
              · rw [List.length_append, List.length_singleton]; omega
              intro l hl
              rcases List.mem_append.1 hl with h | h
              · exact HLok.out l h
              · simp at h
                subst h
                exact ⟨by simp; omega, by simp; omega, HSR.out⟩
            case measure => simp [intOf]; omega
        · go_wp2_with (go_at_call 5; refine (plus_any _ _ HC.out (shr_in _ hz0 hz1) _).mono ?_; rintro e w1 ⟨rfl, hw1⟩; subst w1)
          go_roundw
          case rel => exact ⟨k + 1, _, _, _, L, by omega, by go_num, rfl, hq0, hq1, satAdd_in HC.out (shr_in _ hz0 hz1), hL8, HLok.out, (HRI.out.setFixed _).alloc _⟩
          case measure => simp [intOf]; omega
      · have hheld := HRI.out.held HC.out HLok.out hL8
        obtain ⟨hbase, hinv⟩ := base_of hheld
        have hwb := HRI.out.bel
        have hsz := lt_of_block HRI.out.b1
        have HBA := hideIt hbase
        have HIN := hideIt hinv
        have HWB := hideIt hwb
        clear hheld hbase hinv hwb
        have hsf := fun (a : Addr) (c : Array Value) (w : World) => run_store Try.prog w a (.func (.func 6) #[] c) .plain rfl
        go_wp2_with fail
        refine (least_any lim hl0 hl1 HBA.out HIN.out).mono ?_
        rintro e w1 ⟨r, how, cnt, rfl, hI, hcn0, hcn1, hcase⟩
        have hFc : w1.cell? ⟨wr.heap.size, 0, none⟩ = some (fVal w.heap.size (w.heap.size + 1)) := (hI.below.cell (p := ⟨wr.heap.size, 0, none⟩) (by simp)).trans HBA.out.fcell
        unfold fVal at hFc
        have HC1 := hideIt hI.count
        have hw1 : Below w.heap.size w w1 := (HWB.out.alloc (by omega) _).trans (hI.below.mono (by omega))
        have hw1s : wr.heap.size + 1 < w1.heap.size := lt_of_block hI.count
        have HH1 : Hid (Held w1.heap.size w1 w.heap.size (w.heap.size + 1) c L) := (HBA.out.held.below hI.below).mono (by omega)
        have HW1 := hideIt hw1
        have HCA := hideIt hcase
        clear hI hw1 hcase
        go_wp2_with fail
        refine (first_any lim hl0 hl1 HH1.out (Below.refl _ _) (Nat.le_refl _)).mono ?_
        rintro e w2 ⟨⟨r', hr'⟩, hb2, hs2⟩
        have hcc : w2.cell? ⟨wr.heap.size + 1, 0, none⟩ = some (.int .i64 cnt) := (hb2.cell (p := ⟨wr.heap.size + 1, 0, none⟩) hw1s).trans (cell_of_one HC1.out)
        have hfin : Below w.heap.size w w2 := HW1.out.trans (hb2.mono (by omega))
        rcases HCA.out with ⟨rfl, hle⟩ | ⟨hhow, rfl, hno⟩
        · rcases hr' with ⟨rfl, hle'⟩ | ⟨rfl, hno⟩
          · obtain rfl := least_unique hle hle'
            go_wp2
            go_ret
            exact ⟨rfl, hfin⟩
          · exact absurd hno (fun h => least_noFix hle h)
        · rcases hr' with ⟨rfl, hle'⟩ | ⟨rfl, _⟩
          · exact absurd hno (fun h => least_noFix hle' h)
          · rcases hhow with rfl | rfl
            · go_wp2
              go_ret
              exact ⟨rfl, hfin⟩
            · go_wp2
              go_ret
              exact ⟨rfl, hfin⟩
  · have hs' : decide ((n : Int) ≤ 65536) = false := by simpa using hs
    go_enter Try.func3, Try.ntmps3
    go_wp2_with (go_at_call 4; refine (small_any _ _ _ _).mono ?_; rintro e w1 ⟨rfl, hw1⟩; subst w1)
    go_ret
    exact ⟨rfl, Below.refl _ _⟩
end Go.Proofs.Qxb6500855a
