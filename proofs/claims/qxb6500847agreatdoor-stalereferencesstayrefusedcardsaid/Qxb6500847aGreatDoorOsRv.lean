/-
  refusedEverywhere.
-/
import Derived.Test.Qxb6500847aGreatDoorOsPlay
import Derived.Test.Qxb6500847aGreatDoorOsC
import Derived.Test.Qxb6500847aGreatDoorOsQb
namespace Go.Proofs.Qxb6500847aGreatDoor.Os
open Go.RowKit FloorA
set_option maxRecDepth 100000
def kndL : List Nat := [1, 2, 3, 4, 6, 7, 8, 12, 13, 14, 15, 16, 17, 19, 20]
theorem knd_at {k : Nat} (hk : k < 15) : ∃ kk, kndL[k]? = some kk ∧ stK kk ∧ kk < 256 := by
  have hl : k < kndL.length := hk
  refine ⟨kndL[k], List.getElem?_eq_getElem hl, ?_⟩
  have : ∀ x ∈ kndL, (x = 1 ∨ x = 2 ∨ x = 3 ∨ x = 4 ∨ x = 6 ∨ x = 7 ∨ x = 8 ∨ x = 12 ∨ x = 13 ∨ x = 14 ∨ x = 15 ∨ x = 16 ∨ x = 17 ∨ x = 19 ∨ x = 20) ∧ x < 256 := by decide
  exact this _ (List.getElem_mem hl)
/-- A reference that is dead for good. -/
def Dd (s : Av) (i : Nat) (g : Int) : Prop := i < 320 ∧ g ≠ 0 ∧ g < (s.hd i).gen
theorem Dd.not {s : Av} {i : Nat} {g : Int} (h : Dd s i g) : ¬ Live s i g := fun q => by have := q.2.2.2; have := h.2.2; omega
theorem Dd.stale {s : Av} {i : Nat} {g : Int} (h : Dd s i g) : stale i g = 2 := if_pos ⟨h.1, h.2.1⟩
theorem Dd.adv {s s' : Av} {i : Nat} {g : Int} (h : Dd s i g) (a : Adv s s') : Dd s' i g := ⟨h.1, h.2.1, by
  have := h.2.2
  rcases a i h.1 with q | ⟨q, _⟩ <;> omega⟩
section
variable {A : Nat} {rb sb : Nat → Nat} {s : Av} {tl : Nat → List Int} {ws : Nat → Nat → Nat → Int} {w : World} {L : Nat → List Nat} {n : Nat}
def kndA : Array Value := #[.int .u8 1, .int .u8 2, .int .u8 3, .int .u8 4, .int .u8 6, .int .u8 7, .int .u8 8, .int .u8 12, .int .u8 13, .int .u8 14, .int .u8 15, .int .u8 16, .int .u8 17, .int .u8 19, .int .u8 20]
theorem kndA_at {k kk : Nat} (h : kndL[k]? = some kk) : kndA[k]? = some (.int .u8 (kk : Int)) := by
  have e : kndA = (kndL.map (fun x : Nat => Value.int .u8 (x : Int))).toArray := rfl
  rw [e, List.getElem?_toArray, List.getElem?_map, h]
  rfl
theorem fld57 (c : Int) (a b : Value) (w : World) : (Instr.field 57 (.agg #[.int .u8 c, a, b]) 0).run Tryz.prog w = .ok (.int .u8 c) w := by kernel_rfl
/-- The boxes of refusedEverywhere. -/
def rvW (A i g : Nat) (w : World) : World := (w.alloc (.cells #[.pointer (some ⟨A, 0, none⟩)] 24)).alloc (.cells #[.int .u16 (i : Int), .int .u32 (g : Int)] 32)
theorem rvW_below (A i g : Nat) (w : World) : Below w.heap.size w (rvW A i g w) := two_below (w := w) _ _
theorem rvW_a (A i g : Nat) (w : World) : (rvW A i g w).heap[w.heap.size]? = some (.cells #[.pointer (some ⟨A, 0, none⟩)] 24 (0, 0)) := (heap_alloc_old _ _ (by simp)).trans (heap_new _ _)
theorem rvW_r (A i g : Nat) (w : World) : (rvW A i g w).heap[w.heap.size + 1]? = some (.cells #[.int .u16 (i : Int), .int .u32 (g : Int)] 32 (0, 0)) := new_at _ _ (Deep.nblk_alloc _ _)
theorem free_one {b : Nat} {v : Value} {T : TypeId} (h : w.heap[b]? = some (.cells #[v] T (0, 0))) : w.frozen? ⟨b, 0, none⟩ = false := by simp [World.frozen?, h]
set_option maxHeartbeats 8000000 in
theorem refused_walk (h : Ms w A rb sb s tl ws) (hI : IV s tl L n) (hW : Wr ws) (hg : Gl w) (hz : ∀ b, Tz A rb sb b → 4 ≤ b) (i g : Nat) (hg4 : g < 4294967296) (hd : Dd s i g) :
    Calls Tryz.prog 24 #[.pointer (some ⟨A, 0, none⟩), .agg #[.int .u16 (i : Int), .int .u32 (g : Int)]] w fun e w' => e = .returned (.bool true) ∧ Below w.heap.size w w' := by
  have b0 := rvW_below A i g w
  have ha := rvW_a A i g w
  have hr := rvW_r A i g w
  have HB0 := hideIt b0
  have HH0 : Hid (Hs w.heap.size A rb sb s tl ws L n (rvW A i g w)) :=
    ⟨h.below b0, hI, hW, hg.below b0, cell_of_one ha, free_one ha, h.ntz, hg.sz, hz⟩
  have HR0 := hideIt (ref_agg hr)
  have HD : Hid (Dd s i g) := hd
  clear h hI hW hg hz b0 ha hr hd
  go_enter Tryz.func24, Tryz.ntmps24
  go_upto_region 1 with fail
  rw [show (w.alloc (.cells #[.pointer (some ⟨A, 0, none⟩)] 24)).alloc (.cells #[.int .u16 (i : Int), .int .u32 (g : Int)] 32) = rvW A i g w from rfl]
  generalize rvW A i g w = w0 at *
  have bK := alloc_below (w := w0) (.cells kndA 28)
  have hk0 : (w0.alloc (.cells kndA 28)).heap[w0.heap.size]? = some (.cells kndA 28 (0, 0)) := heap_new _ _
  have HH1 := hideIt (HH0.out.below bK)
  have HB1 := hideIt (Below.thr HB0.out bK)
  have HR1 : Hid ((w0.alloc (.cells kndA 28)).cell? ⟨w.heap.size + 1, 0, none⟩ = some (.int .u16 (i : Int)) ∧ (w0.alloc (.cells kndA 28)).cell? ⟨w.heap.size + 1, 1, none⟩ = some (.int .u32 (g : Int))) := ⟨(bK.cell (p := ⟨w.heap.size + 1, 0, none⟩) (cell_lt HR0.out.1)).trans HR0.out.1, (bK.cell (p := ⟨w.heap.size + 1, 1, none⟩) (cell_lt HR0.out.2)).trans HR0.out.2⟩
  have HK1 := hideIt hk0
  clear bK hk0 HH0 HB0 HR0
  go_wp2_with fail
  rw [show w0.alloc (.cells #[.int .u8 1, .int .u8 2, .int .u8 3, .int .u8 4, .int .u8 6, .int .u8 7, .int .u8 8, .int .u8 12, .int .u8 13, .int .u8 14, .int .u8 15, .int .u8 16, .int .u8 17, .int .u8 19, .int .u8 20] 28) = w0.alloc (.cells kndA 28) from rfl]
  generalize w0.alloc (.cells kndA 28) = w1 at *
  go_loopw [12] (fun v wr => ∃ k : Nat, k ≤ 15 ∧ v = .int .i64 (k : Int) ∧ Below w1.heap.size w1 wr) (fun v _ => 15 - (intOf v).toNat)
  case atStart => exact ⟨0, by omega, rfl, Below.refl _ _⟩
  case round =>
    obtain ⟨k, hk, rfl, hb⟩ := hrel
    have HHr := hideIt (HH1.out.below hb)
    have HBr := hideIt (HB1.out.trans (hb.mono HB1.out.size))
    have HBk := hideIt hb
    have y0 := (hb.cell (p := ⟨w.heap.size + 1, 0, none⟩) (cell_lt HR1.out.1)).trans HR1.out.1
    have y1 := (hb.cell (p := ⟨w.heap.size + 1, 1, none⟩) (cell_lt HR1.out.2)).trans HR1.out.2
    by_cases hlt : k < 15
    · have hlt' : (k : Int) < 15 := by omega
      obtain ⟨kk, hkk, hst, h256⟩ := knd_at hlt
      have hc : wr.cell? ⟨w0.heap.size, k, none⟩ = some (.int .u8 (kk : Int)) := (box_cell ((hb.block w0.heap.size (heap_lt HK1.out)).trans HK1.out) k).trans (kndA_at hkk)
      have bA := alloc_below (w := wr) (.cells #[.int .u8 (kk : Int), .int .u16 (i : Int), .int .u32 (g : Int), .int .u16 (i : Int), .int .u32 (g : Int), .int .u8 4, .int .u8 0, .int .u16 1, .int .u16 0, .int .u64 0, .int .u64 0, .slice none 0 0] 37)
      have hbx : (wr.alloc (.cells #[.int .u8 (kk : Int), .int .u16 (i : Int), .int .u32 (g : Int), .int .u16 (i : Int), .int .u32 (g : Int), .int .u8 4, .int .u8 0, .int .u16 1, .int .u16 0, .int .u64 0, .int .u64 0, .slice none 0 0] 37)).heap[wr.heap.size]? = some (.cells #[.int .u8 (kk : Int), .int .u16 (i : Int), .int .u32 (g : Int), .int .u16 (i : Int), .int .u32 (g : Int), .int .u8 4, .int .u8 0, .int .u16 1, .int .u16 0, .int .u64 0, .int .u64 0, .slice none 0 0] 37 (0, 0)) := heap_new _ _
      have hOp : OpAt (wr.alloc (.cells #[.int .u8 (kk : Int), .int .u16 (i : Int), .int .u32 (g : Int), .int .u16 (i : Int), .int .u32 (g : Int), .int .u8 4, .int .u8 0, .int .u16 1, .int .u16 0, .int .u64 0, .int .u64 0, .slice none 0 0] 37)) wr.heap.size 0 ⟨kk, i, g, i, g, 4, 0, 1, 0, 0, 0, .slice none 0 0⟩ :=
        ⟨fun j x hj => by rw [Nat.zero_add, box_cell hbx j]; exact (Array.getElem?_toList ..).symm.trans hj, h256, hg4, by show 4 < 256; decide, by show 0 < 256; decide, by show 1 < 65536; decide, by show 0 < 65536; decide, by show 0 < 18446744073709551616; decide, by show 0 < 18446744073709551616; decide, 0, Or.inl ⟨rfl, _, _, rfl⟩⟩
      have HPL := hideIt (play_walk (HHr.out.below bA) ⟨kk, i, g, i, g, 4, 0, 1, 0, 0, 0, .slice none 0 0⟩ hOp)
      have HBA := hideIt bA
      have HST : Hid (stK kk) := hst
      clear bA hbx hOp hkk hst hb
      go_wp2_with fail
      go_at_call 17
      refine HPL.out.mono ?_
      rintro e w3 ⟨code, refs, vals, A', rb', sb', s', tl', ws', L', n', rfl, ⟨⟨r1, r2, r3, rfl⟩, ⟨v1, v2, v3, rfl⟩⟩, _, _, _, _, _, hbl, hq⟩
      have hc2 : code = 2 := (hq.st HST.out HD.out.not).trans HD.out.stale
      subst hc2
      have HB3 := hideIt (HBk.out.trans ((Below.thr HBA.out (hbl (by decide))).mono HBk.out.size))
      have hfl := fld57 2 (.slice r1 r2 r3) (.slice v1 v2 v3) w3
      clear hbl hq
      go_wp2_with fail
      go_roundw
      case rel => exact ⟨k + 1, by omega, by go_num, HB3.out⟩
      case measure => simp [intOf]; omega
    · obtain rfl : k = 15 := by omega
      have hV := valid_walk HHr.out.ms.am i (g : Int)
      have pc := HHr.out.pc
      have HV := hideIt hV
      clear hV hb
      go_wp2_with fail
      go_at_call 23
      refine HV.out.mono ?_
      rintro e w3 ⟨rfl, hb3⟩
      rw [show decide (Live s i (g : Int)) = false from decide_eq_false HD.out.not]
      have H3 := hideIt (HHr.out.below hb3)
      have HB3 := hideIt (HBr.out.trans (hb3.mono HBr.out.size))
      have pc3 := H3.out.pc
      have x0 := (hb3.cell (p := ⟨w.heap.size + 1, 0, none⟩) (cell_lt y0)).trans y0
      have x1 := (hb3.cell (p := ⟨w.heap.size + 1, 1, none⟩) (cell_lt y1)).trans y1
      have HTy := hideIt (TypeOf_walk H3.out.ms.am i (g : Int))
      clear hb3 pc y0 y1
      go_wp2_with fail
      go_at_call 91
      refine HTy.out.mono ?_
      rintro e w4 ⟨rfl, hb4⟩
      rw [if_neg HD.out.not]
      have HB4 := hideIt (HB3.out.trans (hb4.mono HB3.out.size))
      clear hb4
      go_wp2_with fail
      go_ret
      exact ⟨rfl, HB4.out⟩
end
end Go.Proofs.Qxb6500847aGreatDoor.Os
