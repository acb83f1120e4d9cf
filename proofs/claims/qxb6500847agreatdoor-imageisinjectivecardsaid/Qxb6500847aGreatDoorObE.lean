/-
  observe's count by Each.
-/
import Derived.Test.Qxb6500847aGreatDoorObD
import Derived.Test.Qxb6500847aGreatDoorObA
import Derived.Test.Qxb6500847aGreatDoorOsQe
import Derived.Deep.QuietTactic
import Derived.Test.Qxb6500847aGreatDoorOxEk
import Derived.Deep.RegionHeld3
namespace Go.Proofs.Qxb6500847aGreatDoor.Os
open Go.RowKit FloorA
set_option maxRecDepth 100000
theorem eqq_ref (i : Nat) (g : Int) (w : World) : (binOp .eql 32 (.agg #[.int .u16 (i : Int), .int .u32 g]) (.agg #[.int .u16 (i : Int), .int .u32 g])).run Tryz.prog w = .ok (.bool true) w := by
  have h := eq_self (P := Tryz.prog) 10000 32 [.int .u16 (i : Int), .int .u32 g] (by kernel_rfl) w
  have e : valT Tryz.prog 32 [.int .u16 (i : Int), .int .u32 g] = .agg #[.int .u16 (i : Int), .int .u32 g] := by
    unfold valT
    rw [if_pos (by kernel_rfl)]
  rw [e] at h
  rw [run_eql_struct, h]
  rfl
theorem ent96 : ∀ args W, (callFunc 96 args).run Tryz.prog W = .ok (.enter 96 args) W := enters_of Tryz.func96 (by kernel_rfl) rfl
section
variable {A : Nat} {rb sb : Nat → Nat} {s : Av} {tl : Nat → List Int} {ws : Nat → Nat → Nat → Int} {w : World} {L : Nat → List Nat} {n : Nat}
/-- The counter and the list. -/
structure Cnt (w : World) (Nb Lb k : Nat) (l : List (Nat × Int)) : Prop where
  nc : w.heap[Nb]? = some (.cells #[.int .i64 (k : Int)] 3 (0, 0))
  lc : ∃ v, w.cell? ⟨Lb, 0, none⟩ = some v ∧ IsR 0 w v l
  ne : ∀ v, w.cell? ⟨Lb, 0, none⟩ = some v → ∀ b o m c, v = .slice (some ⟨b, o, none⟩) m c → b ≠ Nb
  nl : Lb ≠ Nb
theorem Cnt.below {w' : World} {Nb Lb k : Nat} {l : List (Nat × Int)} (h : Cnt w Nb Lb k l) (q : Below w.heap.size w w') : Cnt w' Nb Lb k l := by
  obtain ⟨v, h1, h2⟩ := h.lc
  have e := (q.cell (p := ⟨Lb, 0, none⟩) (cell_lt h1)).trans h1
  exact ⟨(q.block Nb (heap_lt h.nc)).trans h.nc, ⟨v, e, h2.below q⟩, fun v' hv' => by rw [e] at hv'; obtain rfl := Option.some.inj hv'; exact h.ne v h1, h.nl⟩
theorem Cnt.next {Nb Lb k : Nat} {l : List (Nat × Int)} (h : Cnt w Nb Lb k l) (x : Nat) : Cnt (w.setCell ⟨Nb, 0, none⟩ (.int .i64 (x : Int))) Nb Lb x l := by
  obtain ⟨v, h1, h2⟩ := h.lc
  have e : (w.setCell ⟨Nb, 0, none⟩ (.int .i64 (x : Int))).cell? ⟨Lb, 0, none⟩ = some v := (set_other (fun q => h.nl (congrArg Addr.block q).symm)).trans h1
  refine ⟨by rw [heap_setCell_same w Nb 0 _ 3 _ h.nc]; rfl, ⟨v, e, ?_⟩, fun v' hv' => by rw [e] at hv'; obtain rfl := Option.some.inj hv'; exact h.ne v h1, h.nl⟩
  obtain ⟨ad, cap, e1, g⟩ := h2
  refine ⟨ad, cap, e1, fun q => ?_⟩
  obtain ⟨b, o, x1, x2, x3⟩ := g q
  exact ⟨b, o, x1, x2, fun j u hu => (set_other (fun q => h.ne v h1 b o _ _ (by rw [e1, x1]) (congrArg Addr.block q).symm)).trans (x3 j u hu)⟩
set_option maxHeartbeats 4000000 in
theorem clo_walk {Nb Lb k : Nat} {l : List (Nat × Int)} (h : Cnt w Nb Lb k l) (hk : k < 400) {i : Nat} {g : Int} (hi : l[k]? = some (i, g)) (t b z p q : Int) :
    Calls Tryz.prog 96 #[.agg (inf7 (i : Int) g t b z p q).toArray, .pointer (some ⟨Nb, 0, none⟩), .pointer (some ⟨Lb, 0, none⟩)] w fun e w' => e = .returned (.bool true) ∧ Cnt w' Nb Lb (k + 1) l ∧ Ext w.heap.size (fun x => x = Nb) w w' := by
  have hkl : k < l.length := (List.getElem?_eq_some_iff.1 hi).1
  have hb0 := alloc_below (w := w) (.cells #[.int .u16 (i : Int), .int .u32 g, .int .u8 t, .int .u64 b, .int .u64 z, .int .u16 p, .int .u32 q] 41)
  have h0 := h.below hb0
  obtain ⟨v, h1, ⟨ad, cap, rfl, gg⟩⟩ := h0.lc
  obtain ⟨b1, o1, rfl, _, g1⟩ := gg (by omega)
  obtain ⟨q1, q2⟩ := refL_get hi
  have x0 := g1 _ _ q1
  have x1 := g1 _ _ q2
  rw [← Nat.add_assoc] at x1
  have c0 : (w.alloc (.cells #[.int .u16 (i : Int), .int .u32 g, .int .u8 t, .int .u64 b, .int .u64 z, .int .u16 p, .int .u32 q] 41)).cell? ⟨Nb, 0, none⟩ = some (.int .i64 (k : Int)) := cell_of_one h0.nc
  have f0 : (w.alloc (.cells #[.int .u16 (i : Int), .int .u32 g, .int .u8 t, .int .u64 b, .int .u64 z, .int .u16 p, .int .u32 q] 41)).frozen? ⟨Nb, 0, none⟩ = false := by simp [World.frozen?, h0.nc]
  have hn := heap_new w (.cells #[.int .u16 (i : Int), .int .u32 g, .int .u8 t, .int .u64 b, .int .u64 z, .int .u16 p, .int .u32 q] 41)
  have i0 : (w.alloc (.cells #[.int .u16 (i : Int), .int .u32 g, .int .u8 t, .int .u64 b, .int .u64 z, .int .u16 p, .int .u32 q] 41)).cell? ⟨w.heap.size, 0, none⟩ = some (.int .u16 (i : Int)) := box_cell hn 0
  have i1 : (w.alloc (.cells #[.int .u16 (i : Int), .int .u32 g, .int .u8 t, .int .u64 b, .int .u64 z, .int .u16 p, .int .u32 q] 41)).cell? ⟨w.heap.size, 1, none⟩ = some (.int .u32 g) := box_cell hn 1
  have HC := hideIt h0
  have HB := hideIt hb0
  have hlt : (k : Int) < (l.length : Int) := by omega
  have kw : IntKind.i64.wrap ((k : Int) + 1) = ((k + 1 : Nat) : Int) := by unfold IntKind.wrap; simp [IntKind.bits, IntKind.signed]; omega
  have xq := eqq_ref i g
  clear h h0 gg g1 q1 q2 hn hb0 hi
  generalize hll : l.length = ll at *
  clear hll
  show Calls Tryz.prog 96 #[.agg #[.int .u16 (i : Int), .int .u32 g, .int .u8 t, .int .u64 b, .int .u64 z, .int .u16 p, .int .u32 q], .pointer (some ⟨Nb, 0, none⟩), .pointer (some ⟨Lb, 0, none⟩)] w _
  go_enter Tryz.func96, Tryz.ntmps96
  go_upto_region 1 with fail
  generalize w.alloc (.cells #[.int .u16 (i : Int), .int .u32 g, .int .u8 t, .int .u64 b, .int .u64 z, .int .u16 p, .int .u32 q] 41) = w0 at *
  go_region_held3 (fun w' => w'.cell? ⟨Nb, 0, none⟩ = some (.int .i64 (k : Int)) ∧ w'.cell? ⟨Lb, 0, none⟩ = some (.slice (some ⟨b1, o1, none⟩) ll cap) ∧ w'.cell? ⟨w.heap.size, 0, none⟩ = some (.int .u16 (i : Int)) ∧ w'.cell? ⟨w.heap.size, 1, none⟩ = some (.int .u32 g) ∧ w'.cell? ⟨b1, o1 + k * 2, none⟩ = some (.int .u16 (i : Int)) ∧ w'.cell? ⟨b1, o1 + k * 2 + 1, none⟩ = some (.int .u32 g)) (go_keep) (fail)
  all_goals
    go_wp2_with fail
    go_ret
    have key := HC.out.next (k + 1)
    rw [show (((k + 1 : Nat)) : Int) = (k : Int) + 1 from by omega] at key
    exact ⟨rfl, key.below (below_d _), ((Ext.of_below HB.out (fun x => x = Nb)).setCell (p := ⟨Nb, 0, none⟩) (Or.inr rfl) _).drew⟩
theorem lvR_split {M : Nat → En} {k : Nat} (hk : k < 320) (ht : (M k).typ ≠ 0) : ∃ r, lvR M 320 = lvR M k ++ (k, (M k).gen) :: r := by
  obtain ⟨d, hd⟩ : ∃ d, 320 = (k + 1) + d := ⟨320 - (k + 1), by omega⟩
  have key : ∀ d, ∃ r, lvR M ((k + 1) + d) = lvR M (k + 1) ++ r := fun d => by
    induction d with
    | zero => exact ⟨[], by simp⟩
    | succ d ih =>
      obtain ⟨r, hr⟩ := ih
      rw [← Nat.add_assoc, lvR_succ, hr]
      exact ⟨_, List.append_assoc _ _ _⟩
  obtain ⟨r, hr⟩ := key d
  refine ⟨r, ?_⟩
  rw [hd, hr, lvR_succ, if_neg ht, List.append_assoc]
  rfl
set_option maxHeartbeats 8000000 in
theorem each_x (h : Ms w A rb sb s tl ws) (hI : IV s tl L n) {Nb Lb : Nat} (hc : Cnt w Nb Lb 0 (lvR (ob s ws) 320)) (hN : ¬ Tz A rb sb Nb) :
    Calls Tryz.prog 95 #[.pointer (some ⟨A, 0, none⟩), .int .u8 0, .func (.func 96) #[] #[.pointer (some ⟨Nb, 0, none⟩), .pointer (some ⟨Lb, 0, none⟩)]] w fun e w' => e = .returned (.tuple #[]) ∧ Cnt w' Nb Lb (lvR (ob s ws) 320).length (lvR (ob s ws) 320) ∧ Ext w.heap.size (fun x => x = Nb) w w' := by
  have HM := hideIt h
  have HI := hideIt hI
  have HC := hideIt hc
  have HN : Hid (¬ Tz A rb sb Nb) := hN
  have eE := ent96
  have HEI : Hid (∀ i, i < 320 → (ob s ws i).typ = (s.hd i).typ ∧ (ob s ws i).gen = (s.hd i).gen) := fun i hi => by rw [ob_at _ _ hi]; exact ⟨rfl, rfl⟩
  clear h hI hc hN
  go_enter Tryz.func95, Tryz.ntmps95
  go_wp2_with fail
  go_loopw [8] (fun v8 wr => ∃ k : Nat, k ≤ 320 ∧ v8 = .int .u16 (k : Int) ∧ Cnt wr Nb Lb (lvR (ob s ws) k).length (lvR (ob s ws) 320) ∧ Ext w.heap.size (fun x => x = Nb) w wr) (fun i _ => 320 - (intOf i).toNat)
  case atStart => exact ⟨0, by omega, rfl, HC.out, Ext.refl _ _ _⟩
  case round =>
    clear HC
    obtain ⟨k, hk, rfl, hc, he⟩ := hrel
    have HC := hideIt hc
    have HE := hideIt he
    by_cases hlt : k < 320
    · have hlt' : (k : Int) < 320 := by omega
      have hm := HM.out.ext he (fun b hb hx => HN.out (hx ▸ hb))
      have tc := hm.am.typ hlt
      have kw : IntKind.u16.wrap ((k : Int) + 1) = ((k + 1 : Nat) : Int) := by unfold IntKind.wrap; simp [IntKind.bits, IntKind.signed]; omega
      obtain ⟨e1, e2⟩ := HEI.out k hlt
      have HS := hideIt (lvR_succ (ob s ws) k)
      by_cases h0 : (s.hd k).typ = 0
      · rw [h0] at tc
        have HQ := hideIt (HS.out.trans (by rw [if_pos (e1.trans h0), List.append_nil]))
        clear HS h0 e1 e2 hm hc he
        go_wp2_with fail
        go_roundw
        case rel => exact ⟨k + 1, by omega, by go_num, by rw [HQ.out]; exact HC.out, HE.out⟩
        case measure => simp [intOf]; omega
      · have HQ := hideIt (HS.out.trans (by rw [if_neg (by rw [e1]; exact h0)]))
        have k0 : ((s.hd k).typ == 0) = false := by rw [beq_eq_false_iff_ne]; exact h0
        obtain ⟨r, hr⟩ := lvR_split (M := ob s ws) hlt (by rw [e1]; exact h0)
        have hget : (lvR (ob s ws) 320)[(lvR (ob s ws) k).length]? = some (k, (s.hd k).gen) := by rw [hr, List.getElem?_append_right (Nat.le_refl _), Nat.sub_self, ← e2]; rfl
        have HIn := hideIt (info_walk hm.am hlt (HI.out.par' hlt h0))
        have HLe := hideIt (lvR_le (ob s ws) k)
        have HCl := hideIt (fun (W : World) (hb : Below wr.heap.size wr W) => (show Calls Tryz.prog 96 #[.agg (infS s k).toArray, .pointer (some ⟨Nb, 0, none⟩), .pointer (some ⟨Lb, 0, none⟩)] W (fun e w' => e = .returned (.bool true) ∧ Cnt w' Nb Lb ((lvR (ob s ws) k).length + 1) (lvR (ob s ws) 320) ∧ Ext W.heap.size (fun x => x = Nb) W w') from clo_walk (HC.out.below hb) (by have := HLe.out; omega) hget (s.hd k).typ (s.hd k).bas (s.hd k).siz (pI (s.hd k).par) (pG s (s.hd k).par)))
        have HGn : Hid ((lvR (ob s ws) (k + 1)).length = (lvR (ob s ws) k).length + 1) := by show _ = _; rw [HQ.out, List.length_append]; rfl
        have HIS : ∃ il, il = infS s k := ⟨_, rfl⟩
        obtain ⟨il, hil⟩ := HIS
        rw [← hil] at HCl HIn
        clear hil
        clear HS h0 e1 e2 hm hc he hr hget
        generalize (s.hd k).typ = ty at *
        go_wp2_with fail
        go_at_call 46
        refine HIn.out.mono ?_
        rintro e w2 ⟨rfl, hb2⟩
        have HC2 := hideIt (HCl.out w2 hb2)
        have HE2 := hideIt (HE.out.andThen hb2 HE.out.size)
        clear hb2
        go_wp2_with fail
        refine HC2.out.mono ?_
        rintro e w3 ⟨rfl, hc3, he3⟩
        have HC3 := hideIt hc3
        have HE3 := hideIt (HE2.out.trans he3 HE2.out.size (fun _ _ q => q))
        clear hc3 he3 HC2 HE2
        go_wp2_with fail
        go_roundw
        case rel => exact ⟨k + 1, by omega, by go_num, by rw [HGn.out]; exact HC3.out, HE3.out⟩
        case measure => simp [intOf]; omega
    · obtain rfl : k = 320 := by omega
      clear hc he
      go_wp2_with fail
      go_end0
      exact ⟨rfl, HC.out, HE.out⟩
end
end Go.Proofs.Qxb6500847aGreatDoor.Os
