/-
  The walks of package wirem's functions: digits, the digest.
-/
import Derived.Test.Qxb6500847aGreatDoorProg
import GoSem.Claim
import GoSem.ClaimJoined
import GoSem.ClaimMapViews
import Derived.JoinedTies
import Derived.KernelRfl
import Derived.WalkKit
import Derived.WalkSpells
import Derived.WalkLawsBesides
import Derived.Below
import Derived.Maps.AppendAt
namespace Go.Proofs.Qxb6500847aGreatDoor.FloorA
open Go.RowKit

theorem ret_int {k : IntKind} {a b : Int} (h : a = b) : Ending.returned (.int k a) = .returned (.int k b) := by rw [h]
theorem hideIt {p : Prop} (h : p) : Hid p := h
theorem cell_lt {w : World} {p : Addr} {v : Value} (h : w.cell? p = some v) : p.block < w.heap.size := by
  by_cases hc : p.block < w.heap.size
  · exact hc
  · simp [World.cell?, hc] at h

/-- The bytes bs lie in block g from offset o on. -/
def BytesAt (w : World) (g o : Nat) (bs : List Int) : Prop :=
  ∀ i, i < bs.length → w.cell? ⟨g, o + i, none⟩ = some (.int .u8 (bs.getD i 0)) ∧ 0 ≤ bs.getD i 0 ∧ bs.getD i 0 ≤ 255

/-! ### The digest -/
def digMix (h : Int) : Int := bits .xor .u64 h (h / 2147483648)
def digStep (h c : Int) : Int := digMix (IntKind.u64.wrap (bits .xor .u64 h c * 2685821657736338717))
def digEnd (h n : Int) : Int := bits .xor .u64 (IntKind.u64.wrap (bits .xor .u64 h n * 11400714819323198485)) (IntKind.u64.wrap (bits .xor .u64 h n * 11400714819323198485) / 536870912)
def dig (bs : List Int) : Int := digEnd (bs.foldl digStep 7640891576956012808) bs.length

theorem dig_range (bs : List Int) : 0 ≤ dig bs ∧ dig bs ≤ 18446744073709551615 := by
  unfold dig digEnd
  generalize IntKind.u64.wrap _ = a
  generalize a / 536870912 = b
  show 0 ≤ IntKind.u64.wrap ((BitVec.ofInt 64 a ^^^ BitVec.ofInt 64 b).toNat : Int) ∧ IntKind.u64.wrap ((BitVec.ofInt 64 a ^^^ BitVec.ofInt 64 b).toNat : Int) ≤ _
  generalize ((BitVec.ofInt 64 a ^^^ BitVec.ofInt 64 b).toNat : Int) = c
  simp [IntKind.wrap, IntKind.bits, IntKind.signed]
  omega

theorem fold_take_succ (bs : List Int) (h : Int) (k : Nat) (hk : k < bs.length) : (bs.take (k + 1)).foldl digStep h = digStep ((bs.take k).foldl digStep h) (bs.getD k 0) := by
  rw [List.take_succ_eq_append_getElem hk, List.foldl_append]
  simp [List.getD, hk]

set_option maxHeartbeats 400000 in
theorem digest_any (g o n cap : Nat) (bs : List Int) (w : World) (hn : bs.length = n) (hm : n ≤ 100000) (hb : BytesAt w g o bs) :
    Calls Tryz.prog 102 #[.slice (some ⟨g, o, none⟩) n cap] w fun e w' => e = .returned (.int .u64 (dig bs)) ∧ w' = w := by
  have HB : Hid (BytesAt w g o bs) := hb
  have HN : Hid (bs.length = n) := hn
  clear hb hn
  go_enter Tryz.func102, Tryz.ntmps102
  go_wp2
  go_loop [3, 8] (fun h i => ∃ (k : Nat), k ≤ n ∧ i = .int .i64 k ∧ h = .int .u64 ((bs.take k).foldl digStep 7640891576956012808)) (fun _ i => n - (intOf i).toNat)
  case atStart => exact ⟨0, by omega, rfl, rfl⟩
  case round =>
    obtain ⟨k, hk, rfl, rfl⟩ := hrel
    by_cases hlt : k < n
    · obtain ⟨hc, hc0, hc1⟩ := HB.out k (by rw [HN.out]; exact hlt)
      have HF := hideIt (fold_take_succ bs 7640891576956012808 k (by rw [HN.out]; exact hlt))
      generalize bs.getD k 0 = c at *
      generalize (bs.take k).foldl digStep 7640891576956012808 = h at *
      go_wp2
      go_round
      case rel => exact ⟨k + 1, by omega, by go_num, by rw [HF.out]; rfl⟩
      case measure => simp [intOf]; omega
    · have HT : Hid (dig bs = digEnd ((bs.take k).foldl digStep 7640891576956012808) n) := by
        have e : bs.take k = bs := List.take_of_length_le (by rw [HN.out]; omega)
        show dig bs = _
        rw [e, ← HN.out]
        rfl
      generalize (bs.take k).foldl digStep 7640891576956012808 = h at *
      go_wp2
      go_ret
      exact ⟨ret_int HT.out.symm, rfl⟩

/-! ### Rows of the call's own -/
theorem Tryz.info5 : (Tryz.prog.info? 5).map (fun i => (i.zero, i.size, i.bytes)) = some (some (.int .u8 0), 1, 1) := by kernel_rfl

/-- w' is w, grown, with writes to the row of v alone; v' is that row or a new one. -/
structure Gr (w w' : World) (o o' : Option Nat) : Prop where
  grown : w.grownBy w' o
  where' : o' = o ∨ ∃ k, o' = some k ∧ w.heap.size ≤ k
theorem Gr.trans {w w1 w2 : World} {o o1 o2 : Option Nat} (h : Gr w w1 o o1) (k : Gr w1 w2 o1 o2) : Gr w w2 o o2 := by
  obtain ⟨g1, a1⟩ := h
  obtain ⟨g2, a2⟩ := k
  refine ⟨⟨g2.os.trans g1.os, g2.tape.trans g1.tape, g2.output.trans g1.output, Nat.le_trans g1.size g2.size, fun j hj hne => ?_⟩, ?_⟩
  · refine (g2.block j (Nat.lt_of_lt_of_le hj g1.size) ?_).trans (g1.block j hj hne)
    rcases a1 with rfl | ⟨m, rfl, hm⟩
    · exact hne
    · intro e; simp at e; omega
  · rcases a2 with rfl | ⟨m, rfl, hm⟩
    · exact a1
    · exact .inr ⟨m, rfl, Nat.le_trans g1.size hm⟩
theorem Gr.refl (w : World) (o : Option Nat) : Gr w w o o := ⟨World.grownBy.refl w o, .inl rfl⟩
theorem Gr.alloc (w : World) (ob : Obj) (o : Option Nat) : Gr w (w.alloc ob) o o := ⟨World.grownBy_alloc w ob o, .inl rfl⟩

/-- v owns the numbers bs, in a block from base on. -/
def OwnK (k : IntKind) (t : TypeId) (base : Nat) (w : World) (v : Value) (bs : List Int) : Prop := w.ownsRow base t 1 v bs.length (bs.map (Value.int k))
/-- .. bytes -/
abbrev Own (base : Nat) (w : World) (v : Value) (bs : List Int) : Prop := OwnK .u8 5 base w v bs

theorem OwnK.shape {k : IntKind} {t : TypeId} {base : Nat} {w : World} {v : Value} {bs : List Int} (h : OwnK k t base w v bs) : ∃ ad cap, v = .slice ad bs.length cap := by
  rcases h.2 with ⟨rfl, hn⟩ | ⟨g, cap, cur, rfl, _⟩
  · exact ⟨none, 0, by rw [hn]⟩
  · exact ⟨_, cap, rfl⟩

theorem OwnK.app {k : IntKind} {t : TypeId} {base : Nat} {wr w1 : World} {v b1 : Value} {bs xs : List Int} {o : Obj} {m : Nat} (hown : w1.ownsRow base t 1 b1 (bs.length + m) (bs.map (Value.int k) ++ xs.map (Value.int k))) (hm : xs.length = m)
    (hg : (wr.alloc o).grownBy w1 v.ownBlock) (hw : b1.ownBlock = v.ownBlock ∨ b1.ownBlock = some (wr.alloc o).heap.size) : OwnK k t base w1 b1 (bs ++ xs) ∧ Gr wr w1 v.ownBlock b1.ownBlock := by
  refine ⟨?_, (Gr.alloc wr o _).trans ⟨hg, ?_⟩⟩
  · unfold OwnK
    rw [List.length_append, List.map_append, hm]
    exact hown
  · rcases hw with h | h
    · exact .inl h
    · exact .inr ⟨_, h, Nat.le_refl _⟩

theorem ones (k : IntKind) (a : Int) : ∀ u ∈ [Value.int k a], u.oneCell' = true := by
  intro u hu; simp at hu; subst hu; rfl

theorem new_one (w : World) (n : Nat) (h : w.heap.size = n) (u : Value) (t : TypeId) : ∀ j v, [u][j]? = some v → (w.alloc (.cells #[u] t)).cell? ((⟨n, 0, none⟩ : Addr).add j) = some v := by
  subst h
  intro j v hj
  match j, hj with
  | 0, hj => simp at hj; subst hj; simp [Addr.add]

def uv (v : Int) : List Int := if v < 128 then [v] else [v % 128 + 128, v / 128]

set_option maxHeartbeats 400000 in
theorem uvar_any (base : Nat) (b : Value) (bs : List Int) (v : Int) (w : World) (hv0 : 0 ≤ v) (hv1 : v < 16384) (ho : Own base w b bs) (hl : bs.length ≤ 100000) (hb : base ≤ w.heap.size) :
    Calls Tryz.prog 120 #[b, .int .u64 v] w fun e w' => ∃ b', e = .returned b' ∧ Own base w' b' (bs ++ uv v) ∧ Gr w w' b.ownBlock b'.ownBlock := by
  obtain ⟨i0, hi, hz0, hz1, hz2⟩ := info_parts Tryz.info5
  have HO := hideIt ho
  clear ho
  generalize hob : b.ownBlock = ob at *
  have HOB := hideIt hob
  clear hob
  go_enter Tryz.func120, Tryz.ntmps120
  go_wp2
  go_loopw [0, 1] (fun s0 s1 wr => ∃ (v' : Int) (bs' : List Int), s1 = .int .u64 v' ∧ 0 ≤ v' ∧ v' < 16384 ∧ Own base wr s0 bs' ∧ Gr w wr ob s0.ownBlock ∧ bs'.length ≤ 100001 ∧ ((v' = v ∧ bs' = bs) ∨ (128 ≤ v ∧ v' = v / 128 ∧ bs' = bs ++ [v % 128 + 128]))) (fun _ s1 _ => (intOf s1).toNat)
  case atStart => exact ⟨v, bs, rfl, hv0, hv1, HO.out, by rw [HOB.out]; exact Gr.refl _ _, by omega, .inl ⟨rfl, rfl⟩⟩
  case round =>
    obtain ⟨v', bs', rfl, hv'0, hv'1, hown, hgr, hlen, hst⟩ := hrel
    have HO' := hideIt hown
    have HG := hideIt hgr
    have HST := hideIt hst
    have hsz : base ≤ wr.heap.size := by have := hgr.grown.size; omega
    obtain ⟨ad, cap, rfl⟩ := hown.shape
    clear hown hgr hst
    by_cases hlt : 128 ≤ v'
    · go_wp2_with ((at_builtin; refine wpList_append_own_at _ rfl (.tmp 7) (.tmp 12) 38 rfl base 5 i0 (.int .u8 0) 1 1 Tryz.underlying38 hi hz0 hz1 hz2 rfl (by decide) _ _ _ rfl (HO'.out.alloc _) ⟨wr.heap.size, 0, none⟩ 1 1 [.int .u8 (v' % 128 + 128)] rfl rfl (new_one wr _ rfl _ _) (ones _ _) (by unfold maxLen; omega) (by omega) (by simp; omega) ?_; intro b1 w1 hown1 hgrow1 _ hwh1))
      obtain ⟨o1, o2⟩ := OwnK.app (xs := [v' % 128 + 128]) hown1 rfl hgrow1 hwh1
      go_roundw
      case rel =>
        rcases HST.out with ⟨rfl, rfl⟩ | ⟨h1, rfl, rfl⟩
        · exact ⟨v' / 128, _, rfl, by omega, by omega, o1, HG.out.trans o2, by simp; omega, .inr ⟨hlt, rfl, rfl⟩⟩
        · omega
      case measure => simp [intOf]; omega
    · go_wp2_with ((at_builtin; refine wpList_append_own_at _ rfl (.tmp 16) (.tmp 19) 38 rfl base 5 i0 (.int .u8 0) 1 1 Tryz.underlying38 hi hz0 hz1 hz2 rfl (by decide) _ _ _ rfl (HO'.out.alloc _) ⟨wr.heap.size, 0, none⟩ 1 1 [.int .u8 v'] rfl rfl (new_one wr _ rfl _ _) (ones _ _) (by unfold maxLen; omega) (by omega) (by simp; omega) ?_; intro b1 w1 hown1 hgrow1 _ hwh1))
      obtain ⟨o1, o2⟩ := OwnK.app (xs := [v']) hown1 rfl hgrow1 hwh1
      obtain ⟨ad1, cap1, rfl⟩ := o1.shape
      go_ret
      refine ⟨_, rfl, ?_, HG.out.trans o2⟩
      rcases HST.out with ⟨rfl, rfl⟩ | ⟨h1, rfl, rfl⟩
      · have e : uv v' = [v'] := if_pos (by omega)
        rw [e]; exact o1
      · have e : uv v = [v % 128 + 128, v / 128] := if_neg (by omega)
        rw [e, show bs ++ [v % 128 + 128, v / 128] = bs ++ [v % 128 + 128] ++ [v / 128] by simp]
        exact o1

/-- The eight bytes of a digest, least first. -/
def dbytes : Nat → Int → List Int
  | 0, _ => []
  | n + 1, d => d % 256 :: dbytes n (d / 256)
theorem dbytes_length : ∀ (n : Nat) (d : Int), (dbytes n d).length = n
  | 0, _ => rfl
  | n + 1, d => by simp [dbytes, dbytes_length n]

set_option maxRecDepth 100000 in
set_option maxHeartbeats 400000 in
theorem appendDigest_any (base : Nat) (b : Value) (bs : List Int) (d : Int) (w : World) (hd0 : 0 ≤ d) (hd1 : d ≤ 18446744073709551615) (ho : Own base w b bs) (hl : bs.length ≤ 100000) (hb : base ≤ w.heap.size) :
    Calls Tryz.prog 121 #[b, .int .u64 d] w fun e w' => ∃ b', e = .returned b' ∧ Own base w' b' (bs ++ dbytes 8 d) ∧ Gr w w' b.ownBlock b'.ownBlock := by
  obtain ⟨i0, hi, hz0, hz1, hz2⟩ := info_parts Tryz.info5
  have HO := hideIt ho
  clear ho
  generalize hob : b.ownBlock = ob at *
  have HOB := hideIt hob
  clear hob
  go_enter Tryz.func121, Tryz.ntmps121
  go_wp2
  go_loopw [0, 1, 5] (fun s0 s1 s5 wr => ∃ (k : Nat) (d' : Int) (bs' : List Int), k ≤ 8 ∧ s5 = .int .i64 k ∧ s1 = .int .u64 d' ∧ 0 ≤ d' ∧ d' ≤ 18446744073709551615 ∧ Own base wr s0 bs' ∧ Gr w wr ob s0.ownBlock ∧ bs'.length = bs.length + k ∧ bs ++ dbytes 8 d = bs' ++ dbytes (8 - k) d') (fun _ _ s5 _ => 8 - (intOf s5).toNat)
  case atStart => exact ⟨0, d, bs, by omega, rfl, rfl, hd0, hd1, HO.out, by rw [HOB.out]; exact Gr.refl _ _, rfl, rfl⟩
  case round =>
    obtain ⟨k, d', bs', hk, rfl, rfl, hd'0, hd'1, hown, hgr, hlen, heq⟩ := hrel
    have HO' := hideIt hown
    have HG := hideIt hgr
    have HE := hideIt heq
    have HL := hideIt hlen
    have hle : bs'.length ≤ 100010 := by omega
    have hsz : base ≤ wr.heap.size := by have := hgr.grown.size; omega
    obtain ⟨ad, cap, rfl⟩ := hown.shape
    clear hown hgr heq hlen
    by_cases hlt : k < 8
    · go_wp2_with ((at_builtin; refine wpList_append_own_at _ rfl (.tmp 10) (.tmp 14) 38 rfl base 5 i0 (.int .u8 0) 1 1 Tryz.underlying38 hi hz0 hz1 hz2 rfl (by decide) _ _ _ rfl (HO'.out.alloc _) ⟨wr.heap.size, 0, none⟩ 1 1 [.int .u8 (d' % 256)] rfl rfl (new_one wr _ rfl _ _) (ones _ _) (by unfold maxLen; omega) (by omega) (by simp; omega) ?_; intro b1 w1 hown1 hgrow1 _ hwh1))
      obtain ⟨o1, o2⟩ := OwnK.app (xs := [d' % 256]) hown1 rfl hgrow1 hwh1
      go_roundw
      case rel =>
        refine ⟨k + 1, d' / 256, _, by omega, by go_num, rfl, by omega, by omega, o1, HG.out.trans o2, ?_, ?_⟩
        · have := HL.out; simp; omega
        · rw [HE.out, show 8 - k = (8 - (k + 1)) + 1 by omega]
          simp [dbytes]
      case measure => simp [intOf]; omega
    · go_wp2
      go_ret
      refine ⟨_, rfl, ?_, HG.out⟩
      rw [HE.out, show 8 - k = 0 by omega]
      simp only [dbytes, List.append_nil]
      exact HO'.out
end Go.Proofs.Qxb6500847aGreatDoor.FloorA
