/-
  typedWords: Thread.
-/
import Derived.Test.Qxb6500847aGreatDoorOsCp
import Derived.Test.Qxb6500847aGreatDoorOxP
import Derived.Test.Qxb6500847aGreatDoorOxPz
import Derived.Test.Qxb6500847aGreatDoorOxRl
import Derived.Test.Qxb6500847aGreatDoorOsUb
import Derived.Maps.AppendAt
import Derived.Test.Qxb6500847aGreatDoorObF
import Derived.Deep.RegionHeld3
namespace Go.Proofs.Qxb6500847aGreatDoor.Os
open Go.RowKit FloorA
set_option maxRecDepth 100000
section
variable {A : Nat} {rb sb : Nat → Nat} {s : Av} {tl : Nat → List Int} {ws : Nat → Nat → Nat → Int} {w : World} {L : Nat → List Nat} {n : Nat}
theorem get_live1 {W1 : World} (h : Ms w A rb sb s tl ws) (hI : IV s tl L n) (hK : Kd w) (kl : 1 < w.heap.size) {i r : Nat} {g : Int} (hl : Live s i g) (ht : (s.hd i).typ = ((1 + 2 : Nat) : Int)) (er : (s.hd i).row = (r : Int)) (hb : Below w.heap.size w W1) :
    Calls Tryz.prog 193 #[.pointer (some ⟨A, 0, none⟩), .agg #[.int .u16 (i : Int), .int .u32 g]] W1 (fun e w' => e = .returned (.tuple #[.agg (rowL 1 (ws 1 r)).toArray, .nilIface]) ∧ Below w.heap.size w w') := by
  refine (get_at1 h hI hK kl i g hb).mono ?_
  rintro e w' ⟨hb', ⟨_, _, r', er', _, rfl⟩ | ⟨hn, _⟩⟩
  · obtain rfl : r' = r := by rw [er] at er'; omega
    exact ⟨rfl, hb'⟩
  · exact absurd ⟨hl, ht⟩ hn
theorem ones4 (a b c d : Int) : ∀ u ∈ [Value.int .u64 a, Value.int .u64 b, Value.int .u64 c, Value.int .u64 d], u.oneCell' = true := by
  intro u hu
  simp at hu
  rcases hu with rfl | rfl | rfl | rfl <;> rfl
theorem inf34z : (Tryz.prog.info? 34).map (fun i => (i.zero, i.size, i.bytes)) = some (some (.int .u64 0), 1, 8) := by kernel_rfl
set_option maxHeartbeats 8000000 in
theorem typed1 (h : Ms w A rb sb s tl ws) (hI : IV s tl L n) (hW : Wr ws) (hK : Kd w) (kl : 1 < w.heap.size) {i r : Nat} {g : Int} (hl : Live s i g) (ht : (s.hd i).typ = ((1 + 2 : Nat) : Int)) (er : (s.hd i).row = (r : Int)) (r1 : r < nR 1) :
    Calls Tryz.prog 93 #[.pointer (some ⟨A, 0, none⟩), .agg #[.int .u16 (i : Int), .int .u32 g], .int .u8 3] w fun e w' => ∃ v, e = .returned v ∧ IsU w.heap.size w' v (wlist (nF 1) (ws 1 r)) ∧ Below w.heap.size w w' := by
  obtain ⟨i0, hi0, hz0, hz1, hz2⟩ := info_parts inf34z
  have hb0 := alloc_below (w := w) (.cells #[.int .u16 (i : Int), .int .u32 g] 32)
  have hz : (w.alloc (.cells #[.int .u16 (i : Int), .int .u32 g] 32)).heap[w.heap.size]? = some (.cells #[.int .u16 (i : Int), .int .u32 g] 32 (0, 0)) := heap_new _ _
  obtain ⟨z0, z1, _, _⟩ := two_cells hz
  have hG := get_live1 h hI hK kl hl ht er hb0
  have hq := (hW 1 r (by decide) r1).1
  obtain ⟨x0, ex0, lx0⟩ : ∃ x : Nat, ws 1 r 0 = (x : Int) ∧ x < 256 := by have := hq 0 (by decide); exact ⟨(ws 1 r 0).toNat, by omega, by simp [fMax] at this; omega⟩
  obtain ⟨x1, ex1, lx1⟩ : ∃ x : Nat, ws 1 r 1 = (x : Int) ∧ x < 256 := by have := hq 1 (by decide); exact ⟨(ws 1 r 1).toNat, by omega, by simp [fMax] at this; omega⟩
  obtain ⟨x2, ex2, lx2⟩ : ∃ x : Nat, ws 1 r 2 = (x : Int) ∧ x < 281474976710656 := by have := hq 2 (by decide); exact ⟨(ws 1 r 2).toNat, by omega, by simp [fMax] at this; omega⟩
  obtain ⟨x3, ex3, lx3⟩ : ∃ x : Nat, ws 1 r 3 = (x : Int) ∧ x < 65536 := by have := hq 3 (by decide); exact ⟨(ws 1 r 3).toNat, by omega, by simp [fMax] at this; omega⟩
  obtain ⟨x4, ex4, lx4⟩ : ∃ x : Nat, ws 1 r 4 = (x : Int) ∧ x < 65536 := by have := hq 4 (by decide); exact ⟨(ws 1 r 4).toNat, by omega, by simp [fMax] at this; omega⟩
  obtain ⟨x5, ex5, lx5⟩ : ∃ x : Nat, ws 1 r 5 = (x : Int) ∧ x < 281474976710656 := by have := hq 5 (by decide); exact ⟨(ws 1 r 5).toNat, by omega, by simp [fMax] at this; omega⟩
  obtain ⟨x6, ex6, lx6⟩ : ∃ x : Nat, ws 1 r 6 = (x : Int) ∧ x < 4294967296 := by have := hq 6 (by decide); exact ⟨(ws 1 r 6).toNat, by omega, by simp [fMax] at this; omega⟩
  obtain ⟨x7, ex7, lx7⟩ : ∃ x : Nat, ws 1 r 7 = (x : Int) ∧ x < 281474976710656 := by have := hq 7 (by decide); exact ⟨(ws 1 r 7).toNat, by omega, by simp [fMax] at this; omega⟩
  obtain ⟨x8, ex8, lx8⟩ : ∃ x : Nat, ws 1 r 8 = (x : Int) ∧ x < 281474976710656 := by have := hq 8 (by decide); exact ⟨(ws 1 r 8).toNat, by omega, by simp [fMax] at this; omega⟩
  obtain ⟨x9, ex9, lx9⟩ : ∃ x : Nat, ws 1 r 9 = (x : Int) ∧ x < 18446744073709551616 := by have := hq 9 (by decide); exact ⟨(ws 1 r 9).toNat, by omega, by simp [fMax] at this; omega⟩
  obtain ⟨x10, ex10, lx10⟩ : ∃ x : Nat, ws 1 r 10 = (x : Int) ∧ x < 256 := by have := hq 10 (by decide); exact ⟨(ws 1 r 10).toNat, by omega, by simp [fMax] at this; omega⟩
  obtain ⟨x11, ex11, lx11⟩ : ∃ x : Nat, ws 1 r 11 = (x : Int) ∧ x < 18446744073709551616 := by have := hq 11 (by decide); exact ⟨(ws 1 r 11).toNat, by omega, by simp [fMax] at this; omega⟩
  obtain ⟨x12, ex12, lx12⟩ : ∃ x : Nat, ws 1 r 12 = (x : Int) ∧ x < 18446744073709551616 := by have := hq 12 (by decide); exact ⟨(ws 1 r 12).toNat, by omega, by simp [fMax] at this; omega⟩
  obtain ⟨x13, ex13, lx13⟩ : ∃ x : Nat, ws 1 r 13 = (x : Int) ∧ x < 18446744073709551616 := by have := hq 13 (by decide); exact ⟨(ws 1 r 13).toNat, by omega, by simp [fMax] at this; omega⟩
  obtain ⟨x14, ex14, lx14⟩ : ∃ x : Nat, ws 1 r 14 = (x : Int) ∧ x < 18446744073709551616 := by have := hq 14 (by decide); exact ⟨(ws 1 r 14).toNat, by omega, by simp [fMax] at this; omega⟩
  obtain ⟨x15, ex15, lx15⟩ : ∃ x : Nat, ws 1 r 15 = (x : Int) ∧ x < 256 := by have := hq 15 (by decide); exact ⟨(ws 1 r 15).toNat, by omega, by simp [fMax] at this; omega⟩
  obtain ⟨x16, ex16, lx16⟩ : ∃ x : Nat, ws 1 r 16 = (x : Int) ∧ x < 4294967296 := by have := hq 16 (by decide); exact ⟨(ws 1 r 16).toNat, by omega, by simp [fMax] at this; omega⟩
  obtain ⟨x17, ex17, lx17⟩ : ∃ x : Nat, ws 1 r 17 = (x : Int) ∧ x < 4294967296 := by have := hq 17 (by decide); exact ⟨(ws 1 r 17).toNat, by omega, by simp [fMax] at this; omega⟩
  have hrow : rowL 1 (ws 1 r) = [.int .u8 (x0 : Int), .int .u8 (x1 : Int), .int .u16 ((x2 : Int) % 65536), .int .u32 ((x2 : Int) / 65536), .int .u16 (x3 : Int), .int .u16 (x4 : Int), .int .u16 ((x5 : Int) % 65536), .int .u32 ((x5 : Int) / 65536), .int .u32 (x6 : Int), .int .u16 ((x7 : Int) % 65536), .int .u32 ((x7 : Int) / 65536), .int .u16 ((x8 : Int) % 65536), .int .u32 ((x8 : Int) / 65536), .int .u64 (x9 : Int), .int .u8 (x10 : Int), .int .u64 (x11 : Int), .int .u64 (x12 : Int), .int .u64 (x13 : Int), .int .u64 (x14 : Int), .int .u8 (x15 : Int), .int .u32 (x16 : Int), .int .u32 (x17 : Int)] := by simp only [rowL, lo, hi, ex0, ex1, ex2, ex3, ex4, ex5, ex6, ex7, ex8, ex9, ex10, ex11, ex12, ex13, ex14, ex15, ex16, ex17]
  have hres : wlist (nF 1) (ws 1 r) = [(x0 : Int), (x1 : Int), (x2 : Int), (x3 : Int), (x4 : Int), (x5 : Int), (x6 : Int), (x7 : Int), (x8 : Int), (x9 : Int), (x10 : Int), (x11 : Int), (x12 : Int), (x13 : Int), (x14 : Int), (x15 : Int), (x16 : Int), (x17 : Int)] := by
    show (List.range 18).map (ws 1 r) = _
    simp only [List.range, List.range.loop, List.map_cons, List.map_nil, ex0, ex1, ex2, ex3, ex4, ex5, ex6, ex7, ex8, ex9, ex10, ex11, ex12, ex13, ex14, ex15, ex16, ex17]
  have HROW : Hid (rowL 1 (ws 1 r) = [.int .u8 (x0 : Int), .int .u8 (x1 : Int), .int .u16 ((x2 : Int) % 65536), .int .u32 ((x2 : Int) / 65536), .int .u16 (x3 : Int), .int .u16 (x4 : Int), .int .u16 ((x5 : Int) % 65536), .int .u32 ((x5 : Int) / 65536), .int .u32 (x6 : Int), .int .u16 ((x7 : Int) % 65536), .int .u32 ((x7 : Int) / 65536), .int .u16 ((x8 : Int) % 65536), .int .u32 ((x8 : Int) / 65536), .int .u64 (x9 : Int), .int .u8 (x10 : Int), .int .u64 (x11 : Int), .int .u64 (x12 : Int), .int .u64 (x13 : Int), .int .u64 (x14 : Int), .int .u8 (x15 : Int), .int .u32 (x16 : Int), .int .u32 (x17 : Int)]) := hrow
  have H1 := hideIt (row_one 1 (ws 1 r))
  have HS0 : Hid ((Tryz.prog.info? 109).map (·.size) = some (rowL 1 (ws 1 r)).length) := row_sz (t := 1) (by omega) (ws 1 r)
  have HL0 : Hid ((rowL 1 (ws 1 r)).length = 22) := rowL_len 1 _
  rw [hres]
  generalize rowL 1 (ws 1 r) = row at *
  have HG := hideIt hG
  have HB0 := hideIt hb0
  have hw0 : IntKind.u64.wrap (x0 : Int) = (x0 : Int) := u64_same (by omega) (by omega)
  have hw1 : IntKind.u64.wrap (x1 : Int) = (x1 : Int) := u64_same (by omega) (by omega)
  have HP2 := hideIt (fun W => Pack_walk x2 lx2 W)
  have hw3 : IntKind.u64.wrap (x3 : Int) = (x3 : Int) := u64_same (by omega) (by omega)
  have hw4 : IntKind.u64.wrap (x4 : Int) = (x4 : Int) := u64_same (by omega) (by omega)
  have HP5 := hideIt (fun W => Pack_walk x5 lx5 W)
  have hw6 : IntKind.u64.wrap (x6 : Int) = (x6 : Int) := u64_same (by omega) (by omega)
  have HP7 := hideIt (fun W => Pack_walk x7 lx7 W)
  have HP8 := hideIt (fun W => Pack_walk x8 lx8 W)
  have hw10 : IntKind.u64.wrap (x10 : Int) = (x10 : Int) := u64_same (by omega) (by omega)
  have hw15 : IntKind.u64.wrap (x15 : Int) = (x15 : Int) := u64_same (by omega) (by omega)
  have hw16 : IntKind.u64.wrap (x16 : Int) = (x16 : Int) := u64_same (by omega) (by omega)
  have hw17 : IntKind.u64.wrap (x17 : Int) = (x17 : Int) := u64_same (by omega) (by omega)
  clear h hI hW hK hl ht er r1 hG hb0 hq hrow hres hz ex0 ex1 ex2 ex3 ex4 ex5 ex6 ex7 ex8 ex9 ex10 ex11 ex12 ex13 ex14 ex15 ex16 ex17 lx0 lx1 lx2 lx3 lx4 lx5 lx6 lx7 lx8 lx9 lx10 lx11 lx12 lx13 lx14 lx15 lx16 lx17
  go_enter Tryz.func93, Tryz.ntmps93
  go_wp2_with fail
  go_at_call 193
  refine HG.out.mono ?_
  rintro e w2 ⟨rfl, hb2⟩
  have HB2 := hideIt hb2
  have hth := new_row (w := w2) (t := 1) (Z := #[.int .u8 0, .int .u8 0, .int .u16 0, .int .u32 0, .int .u16 0, .int .u16 0, .int .u16 0, .int .u32 0, .int .u32 0, .int .u16 0, .int .u32 0, .int .u16 0, .int .u32 0, .int .u64 0, .int .u8 0, .int .u64 0, .int .u64 0, .int .u64 0, .int .u64 0, .int .u8 0, .int .u32 0, .int .u32 0]) rfl 109
  have hnn : row.toArray.size = 22 := (List.size_toArray).trans HL0.out
  have HTh := hideIt (show (w2.alloc (.cells #[.int .u8 0, .int .u8 0, .int .u16 0, .int .u32 0, .int .u16 0, .int .u16 0, .int .u16 0, .int .u32 0, .int .u32 0, .int .u16 0, .int .u32 0, .int .u16 0, .int .u32 0, .int .u64 0, .int .u8 0, .int .u64 0, .int .u64 0, .int .u64 0, .int .u64 0, .int .u8 0, .int .u32 0, .int .u32 0] 109)).there w2.heap.size 0 row.toArray.size from by rw [hnn]; exact hth)
  have hr3 := World.rangeAt_setCells_same (w2.alloc (.cells #[.int .u8 0, .int .u8 0, .int .u16 0, .int .u32 0, .int .u16 0, .int .u16 0, .int .u16 0, .int .u32 0, .int .u32 0, .int .u16 0, .int .u32 0, .int .u16 0, .int .u32 0, .int .u64 0, .int .u8 0, .int .u64 0, .int .u64 0, .int .u64 0, .int .u64 0, .int .u8 0, .int .u32 0, .int .u32 0] 109)) w2.heap.size 0 row (by rw [HL0.out]; exact hth)
  have hb3 := Below.cells (alloc_below (w := w2) (.cells #[.int .u8 0, .int .u8 0, .int .u16 0, .int .u32 0, .int .u16 0, .int .u16 0, .int .u16 0, .int .u32 0, .int .u32 0, .int .u16 0, .int .u32 0, .int .u16 0, .int .u32 0, .int .u64 0, .int .u8 0, .int .u64 0, .int .u64 0, .int .u64 0, .int .u64 0, .int .u8 0, .int .u32 0, .int .u32 0] 109)) (Nat.le_refl _) row 0
  generalize hw3 : (w2.alloc (.cells #[.int .u8 0, .int .u8 0, .int .u16 0, .int .u32 0, .int .u16 0, .int .u16 0, .int .u16 0, .int .u32 0, .int .u32 0, .int .u16 0, .int .u32 0, .int .u16 0, .int .u32 0, .int .u64 0, .int .u8 0, .int .u64 0, .int .u64 0, .int .u64 0, .int .u64 0, .int .u8 0, .int .u32 0, .int .u32 0] 109)).setCells w2.heap.size 0 row = w3 at *
  have HW3 := hideIt hw3
  have HB3 := hideIt (Below.thr hb2 hb3)
  have l3 : w.heap.size ≤ w2.heap.size := hb2.size
  have l4 : w2.heap.size < w3.heap.size := cell_lt (hr3 0 _ (by rw [HROW.out]; rfl))
  have KS : Hid (∀ w', Below w3.heap.size w3 w' → w'.rangeAt w2.heap.size 0 [.int .u8 (x0 : Int), .int .u8 (x1 : Int), .int .u16 ((x2 : Int) % 65536), .int .u32 ((x2 : Int) / 65536), .int .u16 (x3 : Int), .int .u16 (x4 : Int), .int .u16 ((x5 : Int) % 65536), .int .u32 ((x5 : Int) / 65536), .int .u32 (x6 : Int), .int .u16 ((x7 : Int) % 65536), .int .u32 ((x7 : Int) / 65536), .int .u16 ((x8 : Int) % 65536), .int .u32 ((x8 : Int) / 65536), .int .u64 (x9 : Int), .int .u8 (x10 : Int), .int .u64 (x11 : Int), .int .u64 (x12 : Int), .int .u64 (x13 : Int), .int .u64 (x14 : Int), .int .u8 (x15 : Int), .int .u32 (x16 : Int), .int .u32 (x17 : Int)]) := fun w' k j u hu => by
    have := hr3 j u (by rw [HROW.out]; exact hu)
    exact (k.cell (p := ⟨w2.heap.size, 0 + j, none⟩) l4).trans this
  clear hb2 hth hb3 hr3 hw3 HG z0 z1 hnn
  go_wp2_with (refine wpList_store_mid rfl 109 (.tmp 12) (.tmp 71) rfl w2.heap.size 0 row.toArray rfl rfl HTh.out (by rw [List.size_toArray]; exact HS0.out) (all_oneCell_toArray H1.out) ?_; first | rw [List.toList_toArray, HW3.out] | rw [HW3.out] | skip)
  clear HTh HS0 H1 HW3 HL0 HROW
  generalize w2.heap.size = R at *
  have KA : Hid (∀ w', Below w3.heap.size w3 w' → w'.cell? ⟨R, 0, none⟩ = some (.int .u8 (x0 : Int)) ∧ w'.cell? ⟨R, 1, none⟩ = some (.int .u8 (x1 : Int)) ∧ w'.cell? ⟨R, 2, none⟩ = some (.int .u16 ((x2 : Int) % 65536)) ∧ w'.cell? ⟨R, 3, none⟩ = some (.int .u32 ((x2 : Int) / 65536)) ∧ w'.cell? ⟨R, 4, none⟩ = some (.int .u16 (x3 : Int)) ∧ w'.cell? ⟨R, 5, none⟩ = some (.int .u16 (x4 : Int)) ∧ w'.cell? ⟨R, 6, none⟩ = some (.int .u16 ((x5 : Int) % 65536)) ∧ w'.cell? ⟨R, 7, none⟩ = some (.int .u32 ((x5 : Int) / 65536)) ∧ w'.cell? ⟨R, 8, none⟩ = some (.int .u32 (x6 : Int)) ∧ w'.cell? ⟨R, 9, none⟩ = some (.int .u16 ((x7 : Int) % 65536)) ∧ w'.cell? ⟨R, 10, none⟩ = some (.int .u32 ((x7 : Int) / 65536)) ∧ w'.cell? ⟨R, 11, none⟩ = some (.int .u16 ((x8 : Int) % 65536)) ∧ w'.cell? ⟨R, 12, none⟩ = some (.int .u32 ((x8 : Int) / 65536)) ∧ w'.cell? ⟨R, 13, none⟩ = some (.int .u64 (x9 : Int)) ∧ w'.cell? ⟨R, 14, none⟩ = some (.int .u8 (x10 : Int))) := fun w' k => by
    have q := KS.out w' k
    exact ⟨q 0 _ rfl, q 1 _ rfl, q 2 _ rfl, q 3 _ rfl, q 4 _ rfl, q 5 _ rfl, q 6 _ rfl, q 7 _ rfl, q 8 _ rfl, q 9 _ rfl, q 10 _ rfl, q 11 _ rfl, q 12 _ rfl, q 13 _ rfl, q 14 _ rfl⟩
  go_cut [14] (fun v14 wx => ∃ g1, v14 = .slice (some ⟨g1, 0, none⟩) 11 11 ∧ Below w3.heap.size w3 wx ∧ wx.heap[g1]? = some (.cells #[.int .u64 (x0 : Int), .int .u64 (x1 : Int), .int .u64 (x2 : Int), .int .u64 (x3 : Int), .int .u64 (x4 : Int), .int .u64 (x5 : Int), .int .u64 (x6 : Int), .int .u64 (x7 : Int), .int .u64 (x8 : Int), .int .u64 (x9 : Int), .int .u64 (x10 : Int)] 34 (0, 0)) ∧ w3.heap.size ≤ g1)
  case first =>
    clear KS
    go_region_held3 (fun w' => w'.cell? ⟨R, 0, none⟩ = some (.int .u8 (x0 : Int)) ∧ w'.cell? ⟨R, 1, none⟩ = some (.int .u8 (x1 : Int)) ∧ w'.cell? ⟨R, 2, none⟩ = some (.int .u16 ((x2 : Int) % 65536)) ∧ w'.cell? ⟨R, 3, none⟩ = some (.int .u32 ((x2 : Int) / 65536)) ∧ w'.cell? ⟨R, 4, none⟩ = some (.int .u16 (x3 : Int)) ∧ w'.cell? ⟨R, 5, none⟩ = some (.int .u16 (x4 : Int)) ∧ w'.cell? ⟨R, 6, none⟩ = some (.int .u16 ((x5 : Int) % 65536)) ∧ w'.cell? ⟨R, 7, none⟩ = some (.int .u32 ((x5 : Int) / 65536)) ∧ w'.cell? ⟨R, 8, none⟩ = some (.int .u32 (x6 : Int)) ∧ w'.cell? ⟨R, 9, none⟩ = some (.int .u16 ((x7 : Int) % 65536)) ∧ w'.cell? ⟨R, 10, none⟩ = some (.int .u32 ((x7 : Int) / 65536)) ∧ w'.cell? ⟨R, 11, none⟩ = some (.int .u16 ((x8 : Int) % 65536)) ∧ w'.cell? ⟨R, 12, none⟩ = some (.int .u32 ((x8 : Int) / 65536)) ∧ w'.cell? ⟨R, 13, none⟩ = some (.int .u64 (x9 : Int)) ∧ w'.cell? ⟨R, 14, none⟩ = some (.int .u8 (x10 : Int))) (first | exact KA.out _ (Below.thr HC4.out (alloc_below _)) | exact KA.out _ HC4.out | exact KA.out _ HC3.out | exact KA.out _ HC2.out | exact KA.out _ HC1.out | exact KA.out _ (below_d _))
      (first | (go_at_call_of 219 x2; refine (HP2.out _).mono ?_; rintro e w5 ⟨rfl, hb5⟩; first | have HC4 := hideIt (Below.thr HC3.out hb5) | have HC3 := hideIt (Below.thr HC2.out hb5) | have HC2 := hideIt (Below.thr HC1.out hb5) | have HC1 := hideIt (Below.thr (below_d _) hb5); clear hb5) | (go_at_call_of 219 x5; refine (HP5.out _).mono ?_; rintro e w5 ⟨rfl, hb5⟩; first | have HC4 := hideIt (Below.thr HC3.out hb5) | have HC3 := hideIt (Below.thr HC2.out hb5) | have HC2 := hideIt (Below.thr HC1.out hb5) | have HC1 := hideIt (Below.thr (below_d _) hb5); clear hb5) | (go_at_call_of 219 x7; refine (HP7.out _).mono ?_; rintro e w5 ⟨rfl, hb5⟩; first | have HC4 := hideIt (Below.thr HC3.out hb5) | have HC3 := hideIt (Below.thr HC2.out hb5) | have HC2 := hideIt (Below.thr HC1.out hb5) | have HC1 := hideIt (Below.thr (below_d _) hb5); clear hb5) | (go_at_call_of 219 x8; refine (HP8.out _).mono ?_; rintro e w5 ⟨rfl, hb5⟩; first | have HC4 := hideIt (Below.thr HC3.out hb5) | have HC3 := hideIt (Below.thr HC2.out hb5) | have HC2 := hideIt (Below.thr HC1.out hb5) | have HC1 := hideIt (Below.thr (below_d _) hb5); clear hb5))
    all_goals (try go_wp2_with fail)
    all_goals go_meet
    all_goals exact ⟨_, rfl, Below.thr HC4.out (alloc_below _), heap_new _ _, HC4.out.size⟩
  case rest =>
    clear KA
    obtain ⟨g1, rfl, hb6, hh6, lg6⟩ := hcut
    have ht6 : Tw w wc R [.int .u8 (x0 : Int), .int .u8 (x1 : Int), .int .u16 ((x2 : Int) % 65536), .int .u32 ((x2 : Int) / 65536), .int .u16 (x3 : Int), .int .u16 (x4 : Int), .int .u16 ((x5 : Int) % 65536), .int .u32 ((x5 : Int) / 65536), .int .u32 (x6 : Int), .int .u16 ((x7 : Int) % 65536), .int .u32 ((x7 : Int) / 65536), .int .u16 ((x8 : Int) % 65536), .int .u32 ((x8 : Int) / 65536), .int .u64 (x9 : Int), .int .u8 (x10 : Int), .int .u64 (x11 : Int), .int .u64 (x12 : Int), .int .u64 (x13 : Int), .int .u64 (x14 : Int), .int .u8 (x15 : Int), .int .u32 (x16 : Int), .int .u32 (x17 : Int)] (.slice (some ⟨g1, 0, none⟩) 11 11) [(x0 : Int), (x1 : Int), (x2 : Int), (x3 : Int), (x4 : Int), (x5 : Int), (x6 : Int), (x7 : Int), (x8 : Int), (x9 : Int), (x10 : Int)] := Tw.new (Below.thr HB3.out hb6) (KS.out wc hb6) (Nat.lt_of_lt_of_le l4 hb6.size) hh6 (by omega) (by omega) rfl (by omega)
    have HT6 := hideIt ht6
    have HZ6 : Hid (w.heap.size ≤ wc.heap.size) := ht6.bel.size
    have HN1 : Hid (∀ j u, [.int .u64 (x11 : Int), .int .u64 (x12 : Int), .int .u64 (x13 : Int), .int .u64 (x14 : Int)][j]? = some u → wc.cell? ((⟨R, 15, none⟩ : Addr).add j) = some u) := fun j u hu => by
      have q := ht6.row
      match j, hu with
      | 0, hu => obtain rfl := Option.some.inj hu; exact q 15 _ rfl
      | 1, hu => obtain rfl := Option.some.inj hu; exact q 16 _ rfl
      | 2, hu => obtain rfl := Option.some.inj hu; exact q 17 _ rfl
      | 3, hu => obtain rfl := Option.some.inj hu; exact q 18 _ rfl
      | j + 4, hu => simp at hu
    clear hh6 lg6 hb6 KS HB3 l3 l4 ht6
    go_wp2_with (first | (at_builtin; refine wpList_append_own_at _ rfl (.tmp 106) (.tmp 108) 35 rfl w.heap.size 34 i0 (.int .u64 0) 1 8 Tryz.underlying35 hi0 hz0 hz1 hz2 rfl (by decide) _ _ _ rfl HT6.out.own ⟨R, 15, none⟩ 4 4 [.int .u64 (x11 : Int), .int .u64 (x12 : Int), .int .u64 (x13 : Int), .int .u64 (x14 : Int)] rfl rfl HN1.out (ones4 _ _ _ _) (by unfold maxLen; simp) (by simp) HZ6.out ?_; intro v7 w7 hown7 hgrow7 _ hwh7; have ht7 : Tw w w7 R [.int .u8 (x0 : Int), .int .u8 (x1 : Int), .int .u16 ((x2 : Int) % 65536), .int .u32 ((x2 : Int) / 65536), .int .u16 (x3 : Int), .int .u16 (x4 : Int), .int .u16 ((x5 : Int) % 65536), .int .u32 ((x5 : Int) / 65536), .int .u32 (x6 : Int), .int .u16 ((x7 : Int) % 65536), .int .u32 ((x7 : Int) / 65536), .int .u16 ((x8 : Int) % 65536), .int .u32 ((x8 : Int) / 65536), .int .u64 (x9 : Int), .int .u8 (x10 : Int), .int .u64 (x11 : Int), .int .u64 (x12 : Int), .int .u64 (x13 : Int), .int .u64 (x14 : Int), .int .u8 (x15 : Int), .int .u32 (x16 : Int), .int .u32 (x17 : Int)] v7 [(x0 : Int), (x1 : Int), (x2 : Int), (x3 : Int), (x4 : Int), (x5 : Int), (x6 : Int), (x7 : Int), (x8 : Int), (x9 : Int), (x10 : Int), (x11 : Int), (x12 : Int), (x13 : Int), (x14 : Int)] := HT6.out.app (xs := [(x11 : Int), (x12 : Int), (x13 : Int), (x14 : Int)]) (Below.refl _ _) hown7 hgrow7 hwh7; obtain ⟨a7, c7, hf7⟩ := ht7.form; subst hf7; have m19 : w7.cell? ⟨R, 19, none⟩ = some (.int .u8 (x15 : Int)) := ht7.row 19 _ rfl; have m20 : w7.cell? ⟨R, 20, none⟩ = some (.int .u32 (x16 : Int)) := ht7.row 20 _ rfl; have m21 : w7.cell? ⟨R, 21, none⟩ = some (.int .u32 (x17 : Int)) := ht7.row 21 _ rfl; have HT7 := hideIt ht7; have HZ7 : Hid (w.heap.size ≤ w7.heap.size) := ht7.bel.size; clear hown7 hgrow7 hwh7 ht7 HT6 HN1 HZ6) | (at_builtin; refine wpList_append_own_at _ rfl (.tmp 110) (.tmp 114) 35 rfl w.heap.size 34 i0 (.int .u64 0) 1 8 Tryz.underlying35 hi0 hz0 hz1 hz2 rfl (by decide) _ _ _ rfl (World.ownsRow.alloc HT7.out.own _) ⟨w7.heap.size, 0, none⟩ 1 1 [.int .u64 (x15 : Int)] rfl rfl (new_one w7 _ rfl _ _) (ones _ _) (by unfold maxLen; simp) (by simp) (by have := HZ7.out; simp; omega) ?_; intro v8 w8 hown8 hgrow8 _ hwh8; have ht8 : Tw w w8 R [.int .u8 (x0 : Int), .int .u8 (x1 : Int), .int .u16 ((x2 : Int) % 65536), .int .u32 ((x2 : Int) / 65536), .int .u16 (x3 : Int), .int .u16 (x4 : Int), .int .u16 ((x5 : Int) % 65536), .int .u32 ((x5 : Int) / 65536), .int .u32 (x6 : Int), .int .u16 ((x7 : Int) % 65536), .int .u32 ((x7 : Int) / 65536), .int .u16 ((x8 : Int) % 65536), .int .u32 ((x8 : Int) / 65536), .int .u64 (x9 : Int), .int .u8 (x10 : Int), .int .u64 (x11 : Int), .int .u64 (x12 : Int), .int .u64 (x13 : Int), .int .u64 (x14 : Int), .int .u8 (x15 : Int), .int .u32 (x16 : Int), .int .u32 (x17 : Int)] v8 [(x0 : Int), (x1 : Int), (x2 : Int), (x3 : Int), (x4 : Int), (x5 : Int), (x6 : Int), (x7 : Int), (x8 : Int), (x9 : Int), (x10 : Int), (x11 : Int), (x12 : Int), (x13 : Int), (x14 : Int), (x15 : Int)] := HT7.out.app (xs := [(x15 : Int)]) (alloc_below _) hown8 hgrow8 hwh8; obtain ⟨a8, c8, hf8⟩ := ht8.form; subst hf8; have n20 : w8.cell? ⟨R, 20, none⟩ = some (.int .u32 (x16 : Int)) := ht8.row 20 _ rfl; have n21 : w8.cell? ⟨R, 21, none⟩ = some (.int .u32 (x17 : Int)) := ht8.row 21 _ rfl; have HT8 := hideIt ht8; clear hown8 hgrow8 hwh8 ht8 HT7))
    clear m19 m20 m21 n20 n21 HZ7
    go_loopw [14, 118] (fun v14 v118 wr => ∃ k : Nat, k ≤ 2 ∧ v118 = .int .i64 (k : Int) ∧ Tw w wr R [.int .u8 (x0 : Int), .int .u8 (x1 : Int), .int .u16 ((x2 : Int) % 65536), .int .u32 ((x2 : Int) / 65536), .int .u16 (x3 : Int), .int .u16 (x4 : Int), .int .u16 ((x5 : Int) % 65536), .int .u32 ((x5 : Int) / 65536), .int .u32 (x6 : Int), .int .u16 ((x7 : Int) % 65536), .int .u32 ((x7 : Int) / 65536), .int .u16 ((x8 : Int) % 65536), .int .u32 ((x8 : Int) / 65536), .int .u64 (x9 : Int), .int .u8 (x10 : Int), .int .u64 (x11 : Int), .int .u64 (x12 : Int), .int .u64 (x13 : Int), .int .u64 (x14 : Int), .int .u8 (x15 : Int), .int .u32 (x16 : Int), .int .u32 (x17 : Int)] v14 ([(x0 : Int), (x1 : Int), (x2 : Int), (x3 : Int), (x4 : Int), (x5 : Int), (x6 : Int), (x7 : Int), (x8 : Int), (x9 : Int), (x10 : Int), (x11 : Int), (x12 : Int), (x13 : Int), (x14 : Int), (x15 : Int)] ++ [(x16 : Int), (x17 : Int)].take k)) (fun _ i _ => 2 - (intOf i).toNat)
    case atStart => exact ⟨0, by omega, rfl, HT8.out⟩
    case round =>
      clear HT8
      obtain ⟨k, hk, rfl, htw⟩ := hrel
      by_cases hlt : k < 2
      · have hlt' : (k : Int) < 2 := by omega
        obtain ⟨y, hy, hyw, hix⟩ : ∃ y : Nat, [(x16 : Int), (x17 : Int)].take (k + 1) = [(x16 : Int), (x17 : Int)].take k ++ [(y : Int)] ∧ IntKind.u64.wrap (y : Int) = (y : Int) ∧ ∀ w, (Instr.index 107 (.agg #[.int .u32 (x16 : Int), .int .u32 (x17 : Int)]) (.int .i64 (k : Int))).run Tryz.prog w = .ok (.int .u32 (y : Int)) w := by
          match k, hlt with
          | 0, _ => exact ⟨x16, rfl, hw16, fun w => by kernel_rfl⟩
          | 1, _ => exact ⟨x17, rfl, hw17, fun w => by kernel_rfl⟩
        have HY : Hid ([(x0 : Int), (x1 : Int), (x2 : Int), (x3 : Int), (x4 : Int), (x5 : Int), (x6 : Int), (x7 : Int), (x8 : Int), (x9 : Int), (x10 : Int), (x11 : Int), (x12 : Int), (x13 : Int), (x14 : Int), (x15 : Int)] ++ [(x16 : Int), (x17 : Int)].take (k + 1) = ([(x0 : Int), (x1 : Int), (x2 : Int), (x3 : Int), (x4 : Int), (x5 : Int), (x6 : Int), (x7 : Int), (x8 : Int), (x9 : Int), (x10 : Int), (x11 : Int), (x12 : Int), (x13 : Int), (x14 : Int), (x15 : Int)] ++ [(x16 : Int), (x17 : Int)].take k) ++ [(y : Int)]) := by show _ = _; rw [hy, List.append_assoc]
        obtain ⟨a9, c9, hf9⟩ := htw.form
        subst hf9
        have HT9 := hideIt htw
        have HZ9 : Hid (w.heap.size ≤ wr.heap.size) := htw.bel.size
        have HL9 : Hid (([(x0 : Int), (x1 : Int), (x2 : Int), (x3 : Int), (x4 : Int), (x5 : Int), (x6 : Int), (x7 : Int), (x8 : Int), (x9 : Int), (x10 : Int), (x11 : Int), (x12 : Int), (x13 : Int), (x14 : Int), (x15 : Int)] ++ [(x16 : Int), (x17 : Int)].take k).length ≤ 20) := by show _ ≤ _; simp; omega
        clear hy htw
        generalize [(x0 : Int), (x1 : Int), (x2 : Int), (x3 : Int), (x4 : Int), (x5 : Int), (x6 : Int), (x7 : Int), (x8 : Int), (x9 : Int), (x10 : Int), (x11 : Int), (x12 : Int), (x13 : Int), (x14 : Int), (x15 : Int)] ++ [(x16 : Int), (x17 : Int)].take k = lk at *
        go_wp2_with (at_builtin; refine wpList_append_own_at _ rfl (.tmp 121) (.tmp 124) 35 rfl w.heap.size 34 i0 (.int .u64 0) 1 8 Tryz.underlying35 hi0 hz0 hz1 hz2 rfl (by decide) _ _ _ rfl (World.ownsRow.alloc HT9.out.own _) ⟨wr.heap.size, 0, none⟩ 1 1 [.int .u64 (y : Int)] rfl rfl (new_one wr _ rfl _ _) (ones _ _) (by have := HL9.out; unfold maxLen; omega) (by have := HL9.out; omega) (by have := HZ9.out; simp; omega) ?_; intro v8 w8 hown8 hgrow8 _ hwh8; have HT10 := hideIt (HT9.out.app (xs := [(y : Int)]) (alloc_below _) hown8 hgrow8 hwh8); clear hown8 hgrow8 hwh8)
        go_roundw
        case rel => exact ⟨k + 1, by omega, by go_num, by rw [HY.out]; exact HT10.out⟩
        case measure => simp [intOf]; omega
      · obtain rfl : k = 2 := by omega
        obtain ⟨a9, c9, hf9⟩ := htw.form
        subst hf9
        have HT9 := hideIt htw
        clear htw
        go_wp2_with fail
        go_ret
        exact ⟨_, rfl, HT9.out.isu, HT9.out.bel⟩
end
end Go.Proofs.Qxb6500847aGreatDoor.Os
