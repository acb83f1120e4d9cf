/-
  typedStore: the closures that change a field.
-/
import Derived.Test.Qxb6500847aGreatDoorOsUb
import Derived.Test.Qxb6500847aGreatDoorOsQe
namespace Go.Proofs.Qxb6500847aGreatDoor.Os
open Go.RowKit FloorA
set_option maxRecDepth 100000
section
variable {w : World}
def CzPost (b o n : Nat) (l : List Value) (w : World) (e : Ending) (w' : World) : Prop := e = .returned (.tuple #[]) ∧ St1 b o n w w' ∧ w'.rangeAt b o l
theorem loose_walk (v : Nat) (hv : v < 281474976710656) (w : World) :
    Calls Tryz.prog 145 #[.int .u64 (v : Int)] w fun e w' => e = .returned (.agg #[lo (v : Int), hi (v : Int)]) ∧ Below w.heap.size w w' := by
  have c1 : (v : Int) / 65536 < 4294967296 := by omega
  have c2 : (v : Int) % 65536 < 65536 := by omega
  unfold lo hi
  go_enter Tryz.func145, Tryz.ntmps145
  go_wp2_with fail
  exact bodyPost_ret (results_one (by exact Tryz.results145) _ _ w.heap.size _ (by rfl) (load32 (by exact heap_new _ _))) rfl ⟨rfl, alloc_below _⟩
theorem two_put {w1 : World} {b q : Nat} {u v : Value} (hb : Below w.heap.size w w1) (lb : b < w.heap.size) (c0 : w1.cell? ⟨b, q, none⟩ = some u) (c1 : w1.cell? ⟨b, q + 1, none⟩ = some v) (x y : Value) :
    St1 b q 2 w ((w1.setCell ⟨b, q, none⟩ x).setCell ⟨b, q + 1, none⟩ y) ∧ ((w1.setCell ⟨b, q, none⟩ x).setCell ⟨b, q + 1, none⟩ y).rangeAt b q [x, y] := by
  have s1 : St1 b q 2 w1 ((w1.setCell ⟨b, q, none⟩ x).setCell ⟨b, q + 1, none⟩ y) := (St1.one w1 b q x).trans (St1.one _ b (q + 1) y) (Nat.le_refl _) (by omega) (by omega) (by omega)
  refine ⟨(St1.of_below hb lb q 2).trans s1 (Nat.le_refl _) (Nat.le_refl _) (Nat.le_refl _) (Nat.le_refl _), fun j z hj => ?_⟩
  match j, hj with
  | 0, hj =>
    simp only [List.getElem?_cons_zero, Option.some.injEq] at hj
    subst hj
    rw [Nat.add_zero, set_other (by simp)]
    exact set_same c0
  | 1, hj =>
    simp only [List.getElem?_cons_succ, List.getElem?_cons_zero, Option.some.injEq] at hj
    subst hj
    exact set_same (u := v) (by rw [set_other (by simp)]; exact c1)
set_option maxHeartbeats 800000 in
theorem clo144 {b o V v : Nat} {W : Nat → Int} (hr : w.rangeAt b o (cellL W 0)) (hf : ∀ q, w.frozen? ⟨b, q, none⟩ = false) (hV : w.cell? ⟨V, 0, none⟩ = some (.int .u64 (v : Int))) (hv : v < 281474976710656) :
    Calls Tryz.prog 144 #[.pointer (some ⟨b, o, none⟩), .pointer (some ⟨V, 0, none⟩)] w (CzPost b o 8 (cellL (upd W 0 (v : Int)) 0) w) := by
  have f0 := hf o
  have HS : Hid (∀ w' : World, St1 b (o + 0) 2 w w' → w'.rangeAt b (o + 0) [lo ((v : Int)), hi ((v : Int))] → w'.rangeAt b o (cellL (upd W 0 (v : Int)) 0)) := fun w' a c => rangeAt.splice (l1 := []) (m := [lo (W 0), hi (W 0)]) (l2 := [.int .u8 (W 1), .int .u64 (W 2), .int .u32 (W 3), .int .u16 (W 4), .int .u16 (W 5), .int .u8 (W 6)]) hr a c rfl
  have h0 : w.cell? ⟨b, o, none⟩ = some (lo (W 0)) := hr 0 _ rfl
  have h1 : w.cell? ⟨b, o + 1, none⟩ = some (hi (W 0)) := hr 1 _ rfl
  have f1 := hf (o + 1)
  have lb := cell_lt h0
  have HLo := hideIt (loose_walk v hv w)
  clear hr hf
  go_enter Tryz.func144, Tryz.ntmps144
  go_wp2_with fail
  go_at_call 145
  refine HLo.out.mono ?_
  rintro e w1 ⟨rfl, hb⟩
  have c0 := (hb.cell (p := ⟨b, o, none⟩) lb).trans h0
  have c1 := (hb.cell (p := ⟨b, o + 1, none⟩) lb).trans h1
  have j0 := (frz_below hb lb _).trans f0
  have j1 := (frz_below hb lb _).trans f1
  obtain ⟨k1, k2⟩ := two_put hb lb c0 c1 (lo (v : Int)) (hi (v : Int))
  have HF : Hid (CzPost b o 8 (cellL (upd W 0 (v : Int)) 0) w (.returned (.tuple #[])) ((w1.setCell ⟨b, o, none⟩ (lo (v : Int))).setCell ⟨b, o + 1, none⟩ (hi (v : Int)))) := ⟨rfl, k1.mono (by omega) (by omega), HS.out _ k1 k2⟩
  clear k1 k2 h0 h1 f0 f1 hb hV
  unfold lo hi at *
  go_wp2_with fail
  go_end0
  exact HF.out
set_option maxHeartbeats 800000 in
theorem clo146 {b o V v : Nat} {W : Nat → Int} (hr : w.rangeAt b o (cellL W 0)) (hf : ∀ q, w.frozen? ⟨b, q, none⟩ = false) (hV : w.cell? ⟨V, 0, none⟩ = some (.int .u64 (v : Int))) (hv : v < 256) :
    Calls Tryz.prog 146 #[.pointer (some ⟨b, o, none⟩), .pointer (some ⟨V, 0, none⟩)] w (CzPost b o 8 (cellL (upd W 1 (v : Int)) 0) w) := by
  have f0 := hf (o + 2)
  have HS : Hid (∀ w' : World, St1 b (o + 2) 1 w w' → w'.rangeAt b (o + 2) [.int .u8 ((v : Int))] → w'.rangeAt b o (cellL (upd W 1 (v : Int)) 0)) := fun w' a c => rangeAt.splice (l1 := [lo (W 0), hi (W 0)]) (m := [.int .u8 (W 1)]) (l2 := [.int .u64 (W 2), .int .u32 (W 3), .int .u16 (W 4), .int .u16 (W 5), .int .u8 (W 6)]) hr a c rfl
  have h0 : w.cell? ⟨b, o + 2, none⟩ = some (.int .u8 (W 1)) := hr 2 _ rfl
  have hv' : (v : Int) < 256 := by omega
  have HF : Hid (CzPost b o 8 (cellL (upd W 1 (v : Int)) 0) w (.returned (.tuple #[])) (w.setCell ⟨b, o + 2, none⟩ (.int .u8 ((v : Int))))) := ⟨rfl, (St1.one _ _ _ _).mono (by omega) (by omega), HS.out _ (St1.one _ _ _ _) (one_range h0)⟩
  clear hr hf
  go_enter Tryz.func146, Tryz.ntmps146
  go_wp2_with fail
  go_end0
  exact HF.out
set_option maxHeartbeats 800000 in
theorem clo147 {b o V v : Nat} {W : Nat → Int} (hr : w.rangeAt b o (cellL W 0)) (hf : ∀ q, w.frozen? ⟨b, q, none⟩ = false) (hV : w.cell? ⟨V, 0, none⟩ = some (.int .u64 (v : Int))) (hv : v < 18446744073709551616) :
    Calls Tryz.prog 147 #[.pointer (some ⟨b, o, none⟩), .pointer (some ⟨V, 0, none⟩)] w (CzPost b o 8 (cellL (upd W 2 (v : Int)) 0) w) := by
  have f0 := hf (o + 3)
  have HS : Hid (∀ w' : World, St1 b (o + 3) 1 w w' → w'.rangeAt b (o + 3) [.int .u64 ((v : Int))] → w'.rangeAt b o (cellL (upd W 2 (v : Int)) 0)) := fun w' a c => rangeAt.splice (l1 := [lo (W 0), hi (W 0), .int .u8 (W 1)]) (m := [.int .u64 (W 2)]) (l2 := [.int .u32 (W 3), .int .u16 (W 4), .int .u16 (W 5), .int .u8 (W 6)]) hr a c rfl
  have h0 : w.cell? ⟨b, o + 3, none⟩ = some (.int .u64 (W 2)) := hr 3 _ rfl
  have hv' : (v : Int) < 18446744073709551616 := by omega
  have HF : Hid (CzPost b o 8 (cellL (upd W 2 (v : Int)) 0) w (.returned (.tuple #[])) (w.setCell ⟨b, o + 3, none⟩ (.int .u64 ((v : Int))))) := ⟨rfl, (St1.one _ _ _ _).mono (by omega) (by omega), HS.out _ (St1.one _ _ _ _) (one_range h0)⟩
  clear hr hf
  go_enter Tryz.func147, Tryz.ntmps147
  go_wp2_with fail
  go_end0
  exact HF.out
set_option maxHeartbeats 800000 in
theorem clo148 {b o V v : Nat} {W : Nat → Int} (hr : w.rangeAt b o (cellL W 0)) (hf : ∀ q, w.frozen? ⟨b, q, none⟩ = false) (hV : w.cell? ⟨V, 0, none⟩ = some (.int .u64 (v : Int))) (hv : v < 65536) :
    Calls Tryz.prog 148 #[.pointer (some ⟨b, o, none⟩), .pointer (some ⟨V, 0, none⟩)] w (CzPost b o 8 (cellL (upd W 4 (v : Int)) 0) w) := by
  have f0 := hf (o + 5)
  have HS : Hid (∀ w' : World, St1 b (o + 5) 1 w w' → w'.rangeAt b (o + 5) [.int .u16 ((v : Int))] → w'.rangeAt b o (cellL (upd W 4 (v : Int)) 0)) := fun w' a c => rangeAt.splice (l1 := [lo (W 0), hi (W 0), .int .u8 (W 1), .int .u64 (W 2), .int .u32 (W 3)]) (m := [.int .u16 (W 4)]) (l2 := [.int .u16 (W 5), .int .u8 (W 6)]) hr a c rfl
  have h0 : w.cell? ⟨b, o + 5, none⟩ = some (.int .u16 (W 4)) := hr 5 _ rfl
  have hv' : (v : Int) < 65536 := by omega
  have HF : Hid (CzPost b o 8 (cellL (upd W 4 (v : Int)) 0) w (.returned (.tuple #[])) (w.setCell ⟨b, o + 5, none⟩ (.int .u16 ((v : Int))))) := ⟨rfl, (St1.one _ _ _ _).mono (by omega) (by omega), HS.out _ (St1.one _ _ _ _) (one_range h0)⟩
  clear hr hf
  go_enter Tryz.func148, Tryz.ntmps148
  go_wp2_with fail
  go_end0
  exact HF.out
set_option maxHeartbeats 800000 in
theorem clo149 {b o V v : Nat} {W : Nat → Int} (hr : w.rangeAt b o (cellL W 0)) (hf : ∀ q, w.frozen? ⟨b, q, none⟩ = false) (hV : w.cell? ⟨V, 0, none⟩ = some (.int .u64 (v : Int))) (hv : v < 65536) :
    Calls Tryz.prog 149 #[.pointer (some ⟨b, o, none⟩), .pointer (some ⟨V, 0, none⟩)] w (CzPost b o 8 (cellL (upd W 5 (v : Int)) 0) w) := by
  have f0 := hf (o + 6)
  have HS : Hid (∀ w' : World, St1 b (o + 6) 1 w w' → w'.rangeAt b (o + 6) [.int .u16 ((v : Int))] → w'.rangeAt b o (cellL (upd W 5 (v : Int)) 0)) := fun w' a c => rangeAt.splice (l1 := [lo (W 0), hi (W 0), .int .u8 (W 1), .int .u64 (W 2), .int .u32 (W 3), .int .u16 (W 4)]) (m := [.int .u16 (W 5)]) (l2 := [.int .u8 (W 6)]) hr a c rfl
  have h0 : w.cell? ⟨b, o + 6, none⟩ = some (.int .u16 (W 5)) := hr 6 _ rfl
  have hv' : (v : Int) < 65536 := by omega
  have HF : Hid (CzPost b o 8 (cellL (upd W 5 (v : Int)) 0) w (.returned (.tuple #[])) (w.setCell ⟨b, o + 6, none⟩ (.int .u16 ((v : Int))))) := ⟨rfl, (St1.one _ _ _ _).mono (by omega) (by omega), HS.out _ (St1.one _ _ _ _) (one_range h0)⟩
  clear hr hf
  go_enter Tryz.func149, Tryz.ntmps149
  go_wp2_with fail
  go_end0
  exact HF.out
set_option maxHeartbeats 800000 in
theorem clo153 {b o V v : Nat} {W : Nat → Int} (hr : w.rangeAt b o (rowL 1 W)) (hf : ∀ q, w.frozen? ⟨b, q, none⟩ = false) (hV : w.cell? ⟨V, 0, none⟩ = some (.int .u64 (v : Int))) (hv : v < 256) :
    Calls Tryz.prog 153 #[.pointer (some ⟨b, o, none⟩), .pointer (some ⟨V, 0, none⟩)] w (CzPost b o 22 (rowL 1 (upd W 0 (v : Int))) w) := by
  have f0 := hf o
  have HS : Hid (∀ w' : World, St1 b (o + 0) 1 w w' → w'.rangeAt b (o + 0) [.int .u8 ((v : Int))] → w'.rangeAt b o (rowL 1 (upd W 0 (v : Int)))) := fun w' a c => rangeAt.splice (l1 := []) (m := [.int .u8 (W 0)]) (l2 := [.int .u8 (W 1), lo (W 2), hi (W 2), .int .u16 (W 3), .int .u16 (W 4), lo (W 5), hi (W 5), .int .u32 (W 6), lo (W 7), hi (W 7), lo (W 8), hi (W 8), .int .u64 (W 9), .int .u8 (W 10), .int .u64 (W 11), .int .u64 (W 12), .int .u64 (W 13), .int .u64 (W 14), .int .u8 (W 15), .int .u32 (W 16), .int .u32 (W 17)]) hr a c rfl
  have h0 : w.cell? ⟨b, o, none⟩ = some (.int .u8 (W 0)) := hr 0 _ rfl
  have hv' : (v : Int) < 256 := by omega
  have HF : Hid (CzPost b o 22 (rowL 1 (upd W 0 (v : Int))) w (.returned (.tuple #[])) (w.setCell ⟨b, o, none⟩ (.int .u8 ((v : Int))))) := ⟨rfl, (St1.one _ _ _ _).mono (by omega) (by omega), HS.out _ (St1.one _ _ _ _) (one_range h0)⟩
  clear hr hf
  go_enter Tryz.func153, Tryz.ntmps153
  go_wp2_with fail
  go_end0
  exact HF.out
set_option maxHeartbeats 800000 in
theorem clo154 {b o V v : Nat} {W : Nat → Int} (hr : w.rangeAt b o (rowL 1 W)) (hf : ∀ q, w.frozen? ⟨b, q, none⟩ = false) (hV : w.cell? ⟨V, 0, none⟩ = some (.int .u64 (v : Int))) (hv : v < 256) :
    Calls Tryz.prog 154 #[.pointer (some ⟨b, o, none⟩), .pointer (some ⟨V, 0, none⟩)] w (CzPost b o 22 (rowL 1 (upd W 1 (v : Int))) w) := by
  have f0 := hf (o + 1)
  have HS : Hid (∀ w' : World, St1 b (o + 1) 1 w w' → w'.rangeAt b (o + 1) [.int .u8 ((v : Int))] → w'.rangeAt b o (rowL 1 (upd W 1 (v : Int)))) := fun w' a c => rangeAt.splice (l1 := [.int .u8 (W 0)]) (m := [.int .u8 (W 1)]) (l2 := [lo (W 2), hi (W 2), .int .u16 (W 3), .int .u16 (W 4), lo (W 5), hi (W 5), .int .u32 (W 6), lo (W 7), hi (W 7), lo (W 8), hi (W 8), .int .u64 (W 9), .int .u8 (W 10), .int .u64 (W 11), .int .u64 (W 12), .int .u64 (W 13), .int .u64 (W 14), .int .u8 (W 15), .int .u32 (W 16), .int .u32 (W 17)]) hr a c rfl
  have h0 : w.cell? ⟨b, o + 1, none⟩ = some (.int .u8 (W 1)) := hr 1 _ rfl
  have hv' : (v : Int) < 256 := by omega
  have HF : Hid (CzPost b o 22 (rowL 1 (upd W 1 (v : Int))) w (.returned (.tuple #[])) (w.setCell ⟨b, o + 1, none⟩ (.int .u8 ((v : Int))))) := ⟨rfl, (St1.one _ _ _ _).mono (by omega) (by omega), HS.out _ (St1.one _ _ _ _) (one_range h0)⟩
  clear hr hf
  go_enter Tryz.func154, Tryz.ntmps154
  go_wp2_with fail
  go_end0
  exact HF.out
set_option maxHeartbeats 800000 in
theorem clo155 {b o V v : Nat} {W : Nat → Int} (hr : w.rangeAt b o (rowL 1 W)) (hf : ∀ q, w.frozen? ⟨b, q, none⟩ = false) (hV : w.cell? ⟨V, 0, none⟩ = some (.int .u64 (v : Int))) (hv : v < 256) :
    Calls Tryz.prog 155 #[.pointer (some ⟨b, o, none⟩), .pointer (some ⟨V, 0, none⟩)] w (CzPost b o 22 (rowL 1 (upd W 10 (v : Int))) w) := by
  have f0 := hf (o + 14)
  have HS : Hid (∀ w' : World, St1 b (o + 14) 1 w w' → w'.rangeAt b (o + 14) [.int .u8 ((v : Int))] → w'.rangeAt b o (rowL 1 (upd W 10 (v : Int)))) := fun w' a c => rangeAt.splice (l1 := [.int .u8 (W 0), .int .u8 (W 1), lo (W 2), hi (W 2), .int .u16 (W 3), .int .u16 (W 4), lo (W 5), hi (W 5), .int .u32 (W 6), lo (W 7), hi (W 7), lo (W 8), hi (W 8), .int .u64 (W 9)]) (m := [.int .u8 (W 10)]) (l2 := [.int .u64 (W 11), .int .u64 (W 12), .int .u64 (W 13), .int .u64 (W 14), .int .u8 (W 15), .int .u32 (W 16), .int .u32 (W 17)]) hr a c rfl
  have h0 : w.cell? ⟨b, o + 14, none⟩ = some (.int .u8 (W 10)) := hr 14 _ rfl
  have hv' : (v : Int) < 256 := by omega
  have HF : Hid (CzPost b o 22 (rowL 1 (upd W 10 (v : Int))) w (.returned (.tuple #[])) (w.setCell ⟨b, o + 14, none⟩ (.int .u8 ((v : Int))))) := ⟨rfl, (St1.one _ _ _ _).mono (by omega) (by omega), HS.out _ (St1.one _ _ _ _) (one_range h0)⟩
  clear hr hf
  go_enter Tryz.func155, Tryz.ntmps155
  go_wp2_with fail
  go_end0
  exact HF.out
set_option maxHeartbeats 800000 in
theorem clo156 {b o V v : Nat} {W : Nat → Int} (hr : w.rangeAt b o (rowL 1 W)) (hf : ∀ q, w.frozen? ⟨b, q, none⟩ = false) (hV : w.cell? ⟨V, 0, none⟩ = some (.int .u64 (v : Int))) (hv : v < 256) :
    Calls Tryz.prog 156 #[.pointer (some ⟨b, o, none⟩), .pointer (some ⟨V, 0, none⟩)] w (CzPost b o 22 (rowL 1 (upd W 15 (v : Int))) w) := by
  have f0 := hf (o + 19)
  have HS : Hid (∀ w' : World, St1 b (o + 19) 1 w w' → w'.rangeAt b (o + 19) [.int .u8 ((v : Int))] → w'.rangeAt b o (rowL 1 (upd W 15 (v : Int)))) := fun w' a c => rangeAt.splice (l1 := [.int .u8 (W 0), .int .u8 (W 1), lo (W 2), hi (W 2), .int .u16 (W 3), .int .u16 (W 4), lo (W 5), hi (W 5), .int .u32 (W 6), lo (W 7), hi (W 7), lo (W 8), hi (W 8), .int .u64 (W 9), .int .u8 (W 10), .int .u64 (W 11), .int .u64 (W 12), .int .u64 (W 13), .int .u64 (W 14)]) (m := [.int .u8 (W 15)]) (l2 := [.int .u32 (W 16), .int .u32 (W 17)]) hr a c rfl
  have h0 : w.cell? ⟨b, o + 19, none⟩ = some (.int .u8 (W 15)) := hr 19 _ rfl
  have hv' : (v : Int) < 256 := by omega
  have HF : Hid (CzPost b o 22 (rowL 1 (upd W 15 (v : Int))) w (.returned (.tuple #[])) (w.setCell ⟨b, o + 19, none⟩ (.int .u8 ((v : Int))))) := ⟨rfl, (St1.one _ _ _ _).mono (by omega) (by omega), HS.out _ (St1.one _ _ _ _) (one_range h0)⟩
  clear hr hf
  go_enter Tryz.func156, Tryz.ntmps156
  go_wp2_with fail
  go_end0
  exact HF.out
set_option maxHeartbeats 800000 in
theorem clo157 {b o V v : Nat} {W : Nat → Int} (hr : w.rangeAt b o (rowL 1 W)) (hf : ∀ q, w.frozen? ⟨b, q, none⟩ = false) (hV : w.cell? ⟨V, 0, none⟩ = some (.int .u64 (v : Int))) (hv : v < 65536) :
    Calls Tryz.prog 157 #[.pointer (some ⟨b, o, none⟩), .pointer (some ⟨V, 0, none⟩)] w (CzPost b o 22 (rowL 1 (upd W 3 (v : Int))) w) := by
  have f0 := hf (o + 4)
  have HS : Hid (∀ w' : World, St1 b (o + 4) 1 w w' → w'.rangeAt b (o + 4) [.int .u16 ((v : Int))] → w'.rangeAt b o (rowL 1 (upd W 3 (v : Int)))) := fun w' a c => rangeAt.splice (l1 := [.int .u8 (W 0), .int .u8 (W 1), lo (W 2), hi (W 2)]) (m := [.int .u16 (W 3)]) (l2 := [.int .u16 (W 4), lo (W 5), hi (W 5), .int .u32 (W 6), lo (W 7), hi (W 7), lo (W 8), hi (W 8), .int .u64 (W 9), .int .u8 (W 10), .int .u64 (W 11), .int .u64 (W 12), .int .u64 (W 13), .int .u64 (W 14), .int .u8 (W 15), .int .u32 (W 16), .int .u32 (W 17)]) hr a c rfl
  have h0 : w.cell? ⟨b, o + 4, none⟩ = some (.int .u16 (W 3)) := hr 4 _ rfl
  have hv' : (v : Int) < 65536 := by omega
  have HF : Hid (CzPost b o 22 (rowL 1 (upd W 3 (v : Int))) w (.returned (.tuple #[])) (w.setCell ⟨b, o + 4, none⟩ (.int .u16 ((v : Int))))) := ⟨rfl, (St1.one _ _ _ _).mono (by omega) (by omega), HS.out _ (St1.one _ _ _ _) (one_range h0)⟩
  clear hr hf
  go_enter Tryz.func157, Tryz.ntmps157
  go_wp2_with fail
  go_end0
  exact HF.out
set_option maxHeartbeats 800000 in
theorem clo158 {b o V v : Nat} {W : Nat → Int} (hr : w.rangeAt b o (rowL 1 W)) (hf : ∀ q, w.frozen? ⟨b, q, none⟩ = false) (hV : w.cell? ⟨V, 0, none⟩ = some (.int .u64 (v : Int))) (hv : v < 65536) :
    Calls Tryz.prog 158 #[.pointer (some ⟨b, o, none⟩), .pointer (some ⟨V, 0, none⟩)] w (CzPost b o 22 (rowL 1 (upd W 4 (v : Int))) w) := by
  have f0 := hf (o + 5)
  have HS : Hid (∀ w' : World, St1 b (o + 5) 1 w w' → w'.rangeAt b (o + 5) [.int .u16 ((v : Int))] → w'.rangeAt b o (rowL 1 (upd W 4 (v : Int)))) := fun w' a c => rangeAt.splice (l1 := [.int .u8 (W 0), .int .u8 (W 1), lo (W 2), hi (W 2), .int .u16 (W 3)]) (m := [.int .u16 (W 4)]) (l2 := [lo (W 5), hi (W 5), .int .u32 (W 6), lo (W 7), hi (W 7), lo (W 8), hi (W 8), .int .u64 (W 9), .int .u8 (W 10), .int .u64 (W 11), .int .u64 (W 12), .int .u64 (W 13), .int .u64 (W 14), .int .u8 (W 15), .int .u32 (W 16), .int .u32 (W 17)]) hr a c rfl
  have h0 : w.cell? ⟨b, o + 5, none⟩ = some (.int .u16 (W 4)) := hr 5 _ rfl
  have hv' : (v : Int) < 65536 := by omega
  have HF : Hid (CzPost b o 22 (rowL 1 (upd W 4 (v : Int))) w (.returned (.tuple #[])) (w.setCell ⟨b, o + 5, none⟩ (.int .u16 ((v : Int))))) := ⟨rfl, (St1.one _ _ _ _).mono (by omega) (by omega), HS.out _ (St1.one _ _ _ _) (one_range h0)⟩
  clear hr hf
  go_enter Tryz.func158, Tryz.ntmps158
  go_wp2_with fail
  go_end0
  exact HF.out
set_option maxHeartbeats 800000 in
theorem clo159 {b o V v : Nat} {W : Nat → Int} (hr : w.rangeAt b o (rowL 1 W)) (hf : ∀ q, w.frozen? ⟨b, q, none⟩ = false) (hV : w.cell? ⟨V, 0, none⟩ = some (.int .u64 (v : Int))) (hv : v < 281474976710656) :
    Calls Tryz.prog 159 #[.pointer (some ⟨b, o, none⟩), .pointer (some ⟨V, 0, none⟩)] w (CzPost b o 22 (rowL 1 (upd W 2 (v : Int))) w) := by
  have f0 := hf (o + 2)
  have HS : Hid (∀ w' : World, St1 b (o + 2) 2 w w' → w'.rangeAt b (o + 2) [lo ((v : Int)), hi ((v : Int))] → w'.rangeAt b o (rowL 1 (upd W 2 (v : Int)))) := fun w' a c => rangeAt.splice (l1 := [.int .u8 (W 0), .int .u8 (W 1)]) (m := [lo (W 2), hi (W 2)]) (l2 := [.int .u16 (W 3), .int .u16 (W 4), lo (W 5), hi (W 5), .int .u32 (W 6), lo (W 7), hi (W 7), lo (W 8), hi (W 8), .int .u64 (W 9), .int .u8 (W 10), .int .u64 (W 11), .int .u64 (W 12), .int .u64 (W 13), .int .u64 (W 14), .int .u8 (W 15), .int .u32 (W 16), .int .u32 (W 17)]) hr a c rfl
  have h0 : w.cell? ⟨b, o + 2, none⟩ = some (lo (W 2)) := hr 2 _ rfl
  have h1 : w.cell? ⟨b, o + 3, none⟩ = some (hi (W 2)) := hr 3 _ rfl
  have f1 := hf (o + 3)
  have lb := cell_lt h0
  have HLo := hideIt (loose_walk v hv w)
  clear hr hf
  go_enter Tryz.func159, Tryz.ntmps159
  go_wp2_with fail
  go_at_call 145
  refine HLo.out.mono ?_
  rintro e w1 ⟨rfl, hb⟩
  have c0 := (hb.cell (p := ⟨b, o + 2, none⟩) lb).trans h0
  have c1 := (hb.cell (p := ⟨b, o + 3, none⟩) lb).trans h1
  have j0 := (frz_below hb lb _).trans f0
  have j1 := (frz_below hb lb _).trans f1
  obtain ⟨k1, k2⟩ := two_put hb lb c0 c1 (lo (v : Int)) (hi (v : Int))
  have HF : Hid (CzPost b o 22 (rowL 1 (upd W 2 (v : Int))) w (.returned (.tuple #[])) ((w1.setCell ⟨b, o + 2, none⟩ (lo (v : Int))).setCell ⟨b, o + 3, none⟩ (hi (v : Int)))) := ⟨rfl, k1.mono (by omega) (by omega), HS.out _ k1 k2⟩
  clear k1 k2 h0 h1 f0 f1 hb hV
  unfold lo hi at *
  go_wp2_with fail
  go_end0
  exact HF.out
set_option maxHeartbeats 800000 in
theorem clo160 {b o V v : Nat} {W : Nat → Int} (hr : w.rangeAt b o (rowL 1 W)) (hf : ∀ q, w.frozen? ⟨b, q, none⟩ = false) (hV : w.cell? ⟨V, 0, none⟩ = some (.int .u64 (v : Int))) (hv : v < 281474976710656) :
    Calls Tryz.prog 160 #[.pointer (some ⟨b, o, none⟩), .pointer (some ⟨V, 0, none⟩)] w (CzPost b o 22 (rowL 1 (upd W 5 (v : Int))) w) := by
  have f0 := hf (o + 6)
  have HS : Hid (∀ w' : World, St1 b (o + 6) 2 w w' → w'.rangeAt b (o + 6) [lo ((v : Int)), hi ((v : Int))] → w'.rangeAt b o (rowL 1 (upd W 5 (v : Int)))) := fun w' a c => rangeAt.splice (l1 := [.int .u8 (W 0), .int .u8 (W 1), lo (W 2), hi (W 2), .int .u16 (W 3), .int .u16 (W 4)]) (m := [lo (W 5), hi (W 5)]) (l2 := [.int .u32 (W 6), lo (W 7), hi (W 7), lo (W 8), hi (W 8), .int .u64 (W 9), .int .u8 (W 10), .int .u64 (W 11), .int .u64 (W 12), .int .u64 (W 13), .int .u64 (W 14), .int .u8 (W 15), .int .u32 (W 16), .int .u32 (W 17)]) hr a c rfl
  have h0 : w.cell? ⟨b, o + 6, none⟩ = some (lo (W 5)) := hr 6 _ rfl
  have h1 : w.cell? ⟨b, o + 7, none⟩ = some (hi (W 5)) := hr 7 _ rfl
  have f1 := hf (o + 7)
  have lb := cell_lt h0
  have HLo := hideIt (loose_walk v hv w)
  clear hr hf
  go_enter Tryz.func160, Tryz.ntmps160
  go_wp2_with fail
  go_at_call 145
  refine HLo.out.mono ?_
  rintro e w1 ⟨rfl, hb⟩
  have c0 := (hb.cell (p := ⟨b, o + 6, none⟩) lb).trans h0
  have c1 := (hb.cell (p := ⟨b, o + 7, none⟩) lb).trans h1
  have j0 := (frz_below hb lb _).trans f0
  have j1 := (frz_below hb lb _).trans f1
  obtain ⟨k1, k2⟩ := two_put hb lb c0 c1 (lo (v : Int)) (hi (v : Int))
  have HF : Hid (CzPost b o 22 (rowL 1 (upd W 5 (v : Int))) w (.returned (.tuple #[])) ((w1.setCell ⟨b, o + 6, none⟩ (lo (v : Int))).setCell ⟨b, o + 7, none⟩ (hi (v : Int)))) := ⟨rfl, k1.mono (by omega) (by omega), HS.out _ k1 k2⟩
  clear k1 k2 h0 h1 f0 f1 hb hV
  unfold lo hi at *
  go_wp2_with fail
  go_end0
  exact HF.out
set_option maxHeartbeats 800000 in
theorem clo161 {b o V v : Nat} {W : Nat → Int} (hr : w.rangeAt b o (rowL 1 W)) (hf : ∀ q, w.frozen? ⟨b, q, none⟩ = false) (hV : w.cell? ⟨V, 0, none⟩ = some (.int .u64 (v : Int))) (hv : v < 281474976710656) :
    Calls Tryz.prog 161 #[.pointer (some ⟨b, o, none⟩), .pointer (some ⟨V, 0, none⟩)] w (CzPost b o 22 (rowL 1 (upd W 7 (v : Int))) w) := by
  have f0 := hf (o + 9)
  have HS : Hid (∀ w' : World, St1 b (o + 9) 2 w w' → w'.rangeAt b (o + 9) [lo ((v : Int)), hi ((v : Int))] → w'.rangeAt b o (rowL 1 (upd W 7 (v : Int)))) := fun w' a c => rangeAt.splice (l1 := [.int .u8 (W 0), .int .u8 (W 1), lo (W 2), hi (W 2), .int .u16 (W 3), .int .u16 (W 4), lo (W 5), hi (W 5), .int .u32 (W 6)]) (m := [lo (W 7), hi (W 7)]) (l2 := [lo (W 8), hi (W 8), .int .u64 (W 9), .int .u8 (W 10), .int .u64 (W 11), .int .u64 (W 12), .int .u64 (W 13), .int .u64 (W 14), .int .u8 (W 15), .int .u32 (W 16), .int .u32 (W 17)]) hr a c rfl
  have h0 : w.cell? ⟨b, o + 9, none⟩ = some (lo (W 7)) := hr 9 _ rfl
  have h1 : w.cell? ⟨b, o + 10, none⟩ = some (hi (W 7)) := hr 10 _ rfl
  have f1 := hf (o + 10)
  have lb := cell_lt h0
  have HLo := hideIt (loose_walk v hv w)
  clear hr hf
  go_enter Tryz.func161, Tryz.ntmps161
  go_wp2_with fail
  go_at_call 145
  refine HLo.out.mono ?_
  rintro e w1 ⟨rfl, hb⟩
  have c0 := (hb.cell (p := ⟨b, o + 9, none⟩) lb).trans h0
  have c1 := (hb.cell (p := ⟨b, o + 10, none⟩) lb).trans h1
  have j0 := (frz_below hb lb _).trans f0
  have j1 := (frz_below hb lb _).trans f1
  obtain ⟨k1, k2⟩ := two_put hb lb c0 c1 (lo (v : Int)) (hi (v : Int))
  have HF : Hid (CzPost b o 22 (rowL 1 (upd W 7 (v : Int))) w (.returned (.tuple #[])) ((w1.setCell ⟨b, o + 9, none⟩ (lo (v : Int))).setCell ⟨b, o + 10, none⟩ (hi (v : Int)))) := ⟨rfl, k1.mono (by omega) (by omega), HS.out _ k1 k2⟩
  clear k1 k2 h0 h1 f0 f1 hb hV
  unfold lo hi at *
  go_wp2_with fail
  go_end0
  exact HF.out
set_option maxHeartbeats 800000 in
theorem clo162 {b o V v : Nat} {W : Nat → Int} (hr : w.rangeAt b o (rowL 1 W)) (hf : ∀ q, w.frozen? ⟨b, q, none⟩ = false) (hV : w.cell? ⟨V, 0, none⟩ = some (.int .u64 (v : Int))) (hv : v < 281474976710656) :
    Calls Tryz.prog 162 #[.pointer (some ⟨b, o, none⟩), .pointer (some ⟨V, 0, none⟩)] w (CzPost b o 22 (rowL 1 (upd W 8 (v : Int))) w) := by
  have f0 := hf (o + 11)
  have HS : Hid (∀ w' : World, St1 b (o + 11) 2 w w' → w'.rangeAt b (o + 11) [lo ((v : Int)), hi ((v : Int))] → w'.rangeAt b o (rowL 1 (upd W 8 (v : Int)))) := fun w' a c => rangeAt.splice (l1 := [.int .u8 (W 0), .int .u8 (W 1), lo (W 2), hi (W 2), .int .u16 (W 3), .int .u16 (W 4), lo (W 5), hi (W 5), .int .u32 (W 6), lo (W 7), hi (W 7)]) (m := [lo (W 8), hi (W 8)]) (l2 := [.int .u64 (W 9), .int .u8 (W 10), .int .u64 (W 11), .int .u64 (W 12), .int .u64 (W 13), .int .u64 (W 14), .int .u8 (W 15), .int .u32 (W 16), .int .u32 (W 17)]) hr a c rfl
  have h0 : w.cell? ⟨b, o + 11, none⟩ = some (lo (W 8)) := hr 11 _ rfl
  have h1 : w.cell? ⟨b, o + 12, none⟩ = some (hi (W 8)) := hr 12 _ rfl
  have f1 := hf (o + 12)
  have lb := cell_lt h0
  have HLo := hideIt (loose_walk v hv w)
  clear hr hf
  go_enter Tryz.func162, Tryz.ntmps162
  go_wp2_with fail
  go_at_call 145
  refine HLo.out.mono ?_
  rintro e w1 ⟨rfl, hb⟩
  have c0 := (hb.cell (p := ⟨b, o + 11, none⟩) lb).trans h0
  have c1 := (hb.cell (p := ⟨b, o + 12, none⟩) lb).trans h1
  have j0 := (frz_below hb lb _).trans f0
  have j1 := (frz_below hb lb _).trans f1
  obtain ⟨k1, k2⟩ := two_put hb lb c0 c1 (lo (v : Int)) (hi (v : Int))
  have HF : Hid (CzPost b o 22 (rowL 1 (upd W 8 (v : Int))) w (.returned (.tuple #[])) ((w1.setCell ⟨b, o + 11, none⟩ (lo (v : Int))).setCell ⟨b, o + 12, none⟩ (hi (v : Int)))) := ⟨rfl, k1.mono (by omega) (by omega), HS.out _ k1 k2⟩
  clear k1 k2 h0 h1 f0 f1 hb hV
  unfold lo hi at *
  go_wp2_with fail
  go_end0
  exact HF.out
set_option maxHeartbeats 800000 in
theorem clo166 {b o V v : Nat} {W : Nat → Int} (hr : w.rangeAt b o (rowL 2 W)) (hf : ∀ q, w.frozen? ⟨b, q, none⟩ = false) (hV : w.cell? ⟨V, 0, none⟩ = some (.int .u64 (v : Int))) (hv : v < 256) :
    Calls Tryz.prog 166 #[.pointer (some ⟨b, o, none⟩), .pointer (some ⟨V, 0, none⟩)] w (CzPost b o 3 (rowL 2 (upd W 0 (v : Int))) w) := by
  have f0 := hf o
  have HS : Hid (∀ w' : World, St1 b (o + 0) 1 w w' → w'.rangeAt b (o + 0) [.int .u8 ((v : Int))] → w'.rangeAt b o (rowL 2 (upd W 0 (v : Int)))) := fun w' a c => rangeAt.splice (l1 := []) (m := [.int .u8 (W 0)]) (l2 := [.int .u16 (W 1), .int .u16 (W 2)]) hr a c rfl
  have h0 : w.cell? ⟨b, o, none⟩ = some (.int .u8 (W 0)) := hr 0 _ rfl
  have hv' : (v : Int) < 256 := by omega
  have HF : Hid (CzPost b o 3 (rowL 2 (upd W 0 (v : Int))) w (.returned (.tuple #[])) (w.setCell ⟨b, o, none⟩ (.int .u8 ((v : Int))))) := ⟨rfl, (St1.one _ _ _ _).mono (by omega) (by omega), HS.out _ (St1.one _ _ _ _) (one_range h0)⟩
  clear hr hf
  go_enter Tryz.func166, Tryz.ntmps166
  go_wp2_with fail
  go_end0
  exact HF.out
set_option maxHeartbeats 800000 in
theorem clo167 {b o V v : Nat} {W : Nat → Int} (hr : w.rangeAt b o (rowL 2 W)) (hf : ∀ q, w.frozen? ⟨b, q, none⟩ = false) (hV : w.cell? ⟨V, 0, none⟩ = some (.int .u64 (v : Int))) (hv : v < 65536) :
    Calls Tryz.prog 167 #[.pointer (some ⟨b, o, none⟩), .pointer (some ⟨V, 0, none⟩)] w (CzPost b o 3 (rowL 2 (upd W 1 (v : Int))) w) := by
  have f0 := hf (o + 1)
  have HS : Hid (∀ w' : World, St1 b (o + 1) 1 w w' → w'.rangeAt b (o + 1) [.int .u16 ((v : Int))] → w'.rangeAt b o (rowL 2 (upd W 1 (v : Int)))) := fun w' a c => rangeAt.splice (l1 := [.int .u8 (W 0)]) (m := [.int .u16 (W 1)]) (l2 := [.int .u16 (W 2)]) hr a c rfl
  have h0 : w.cell? ⟨b, o + 1, none⟩ = some (.int .u16 (W 1)) := hr 1 _ rfl
  have hv' : (v : Int) < 65536 := by omega
  have HF : Hid (CzPost b o 3 (rowL 2 (upd W 1 (v : Int))) w (.returned (.tuple #[])) (w.setCell ⟨b, o + 1, none⟩ (.int .u16 ((v : Int))))) := ⟨rfl, (St1.one _ _ _ _).mono (by omega) (by omega), HS.out _ (St1.one _ _ _ _) (one_range h0)⟩
  clear hr hf
  go_enter Tryz.func167, Tryz.ntmps167
  go_wp2_with fail
  go_end0
  exact HF.out
set_option maxHeartbeats 800000 in
theorem clo168 {b o V v : Nat} {W : Nat → Int} (hr : w.rangeAt b o (rowL 2 W)) (hf : ∀ q, w.frozen? ⟨b, q, none⟩ = false) (hV : w.cell? ⟨V, 0, none⟩ = some (.int .u64 (v : Int))) (hv : v < 65536) :
    Calls Tryz.prog 168 #[.pointer (some ⟨b, o, none⟩), .pointer (some ⟨V, 0, none⟩)] w (CzPost b o 3 (rowL 2 (upd W 2 (v : Int))) w) := by
  have f0 := hf (o + 2)
  have HS : Hid (∀ w' : World, St1 b (o + 2) 1 w w' → w'.rangeAt b (o + 2) [.int .u16 ((v : Int))] → w'.rangeAt b o (rowL 2 (upd W 2 (v : Int)))) := fun w' a c => rangeAt.splice (l1 := [.int .u8 (W 0), .int .u16 (W 1)]) (m := [.int .u16 (W 2)]) (l2 := []) hr a c rfl
  have h0 : w.cell? ⟨b, o + 2, none⟩ = some (.int .u16 (W 2)) := hr 2 _ rfl
  have hv' : (v : Int) < 65536 := by omega
  have HF : Hid (CzPost b o 3 (rowL 2 (upd W 2 (v : Int))) w (.returned (.tuple #[])) (w.setCell ⟨b, o + 2, none⟩ (.int .u16 ((v : Int))))) := ⟨rfl, (St1.one _ _ _ _).mono (by omega) (by omega), HS.out _ (St1.one _ _ _ _) (one_range h0)⟩
  clear hr hf
  go_enter Tryz.func168, Tryz.ntmps168
  go_wp2_with fail
  go_end0
  exact HF.out
set_option maxHeartbeats 800000 in
theorem clo172 {b o V v : Nat} {W : Nat → Int} (hr : w.rangeAt b o (rowL 3 W)) (hf : ∀ q, w.frozen? ⟨b, q, none⟩ = false) (hV : w.cell? ⟨V, 0, none⟩ = some (.int .u64 (v : Int))) (hv : v < 65536) :
    Calls Tryz.prog 172 #[.pointer (some ⟨b, o, none⟩), .pointer (some ⟨V, 0, none⟩)] w (CzPost b o 5 (rowL 3 (upd W 1 (v : Int))) w) := by
  have f0 := hf (o + 1)
  have HS : Hid (∀ w' : World, St1 b (o + 1) 1 w w' → w'.rangeAt b (o + 1) [.int .u16 ((v : Int))] → w'.rangeAt b o (rowL 3 (upd W 1 (v : Int)))) := fun w' a c => rangeAt.splice (l1 := [.int .u64 (W 0)]) (m := [.int .u16 (W 1)]) (l2 := [.int .u16 (W 2), lo (W 3), hi (W 3)]) hr a c rfl
  have h0 : w.cell? ⟨b, o + 1, none⟩ = some (.int .u16 (W 1)) := hr 1 _ rfl
  have hv' : (v : Int) < 65536 := by omega
  have HF : Hid (CzPost b o 5 (rowL 3 (upd W 1 (v : Int))) w (.returned (.tuple #[])) (w.setCell ⟨b, o + 1, none⟩ (.int .u16 ((v : Int))))) := ⟨rfl, (St1.one _ _ _ _).mono (by omega) (by omega), HS.out _ (St1.one _ _ _ _) (one_range h0)⟩
  clear hr hf
  go_enter Tryz.func172, Tryz.ntmps172
  go_wp2_with fail
  go_end0
  exact HF.out
set_option maxHeartbeats 800000 in
theorem clo173 {b o V v : Nat} {W : Nat → Int} (hr : w.rangeAt b o (rowL 3 W)) (hf : ∀ q, w.frozen? ⟨b, q, none⟩ = false) (hV : w.cell? ⟨V, 0, none⟩ = some (.int .u64 (v : Int))) (hv : v < 65536) :
    Calls Tryz.prog 173 #[.pointer (some ⟨b, o, none⟩), .pointer (some ⟨V, 0, none⟩)] w (CzPost b o 5 (rowL 3 (upd W 2 (v : Int))) w) := by
  have f0 := hf (o + 2)
  have HS : Hid (∀ w' : World, St1 b (o + 2) 1 w w' → w'.rangeAt b (o + 2) [.int .u16 ((v : Int))] → w'.rangeAt b o (rowL 3 (upd W 2 (v : Int)))) := fun w' a c => rangeAt.splice (l1 := [.int .u64 (W 0), .int .u16 (W 1)]) (m := [.int .u16 (W 2)]) (l2 := [lo (W 3), hi (W 3)]) hr a c rfl
  have h0 : w.cell? ⟨b, o + 2, none⟩ = some (.int .u16 (W 2)) := hr 2 _ rfl
  have hv' : (v : Int) < 65536 := by omega
  have HF : Hid (CzPost b o 5 (rowL 3 (upd W 2 (v : Int))) w (.returned (.tuple #[])) (w.setCell ⟨b, o + 2, none⟩ (.int .u16 ((v : Int))))) := ⟨rfl, (St1.one _ _ _ _).mono (by omega) (by omega), HS.out _ (St1.one _ _ _ _) (one_range h0)⟩
  clear hr hf
  go_enter Tryz.func173, Tryz.ntmps173
  go_wp2_with fail
  go_end0
  exact HF.out
set_option maxHeartbeats 800000 in
theorem clo174 {b o V v : Nat} {W : Nat → Int} (hr : w.rangeAt b o (rowL 3 W)) (hf : ∀ q, w.frozen? ⟨b, q, none⟩ = false) (hV : w.cell? ⟨V, 0, none⟩ = some (.int .u64 (v : Int))) (hv : v < 281474976710656) :
    Calls Tryz.prog 174 #[.pointer (some ⟨b, o, none⟩), .pointer (some ⟨V, 0, none⟩)] w (CzPost b o 5 (rowL 3 (upd W 3 (v : Int))) w) := by
  have f0 := hf (o + 3)
  have HS : Hid (∀ w' : World, St1 b (o + 3) 2 w w' → w'.rangeAt b (o + 3) [lo ((v : Int)), hi ((v : Int))] → w'.rangeAt b o (rowL 3 (upd W 3 (v : Int)))) := fun w' a c => rangeAt.splice (l1 := [.int .u64 (W 0), .int .u16 (W 1), .int .u16 (W 2)]) (m := [lo (W 3), hi (W 3)]) (l2 := []) hr a c rfl
  have h0 : w.cell? ⟨b, o + 3, none⟩ = some (lo (W 3)) := hr 3 _ rfl
  have h1 : w.cell? ⟨b, o + 4, none⟩ = some (hi (W 3)) := hr 4 _ rfl
  have f1 := hf (o + 4)
  have lb := cell_lt h0
  have HLo := hideIt (loose_walk v hv w)
  clear hr hf
  go_enter Tryz.func174, Tryz.ntmps174
  go_wp2_with fail
  go_at_call 145
  refine HLo.out.mono ?_
  rintro e w1 ⟨rfl, hb⟩
  have c0 := (hb.cell (p := ⟨b, o + 3, none⟩) lb).trans h0
  have c1 := (hb.cell (p := ⟨b, o + 4, none⟩) lb).trans h1
  have j0 := (frz_below hb lb _).trans f0
  have j1 := (frz_below hb lb _).trans f1
  obtain ⟨k1, k2⟩ := two_put hb lb c0 c1 (lo (v : Int)) (hi (v : Int))
  have HF : Hid (CzPost b o 5 (rowL 3 (upd W 3 (v : Int))) w (.returned (.tuple #[])) ((w1.setCell ⟨b, o + 3, none⟩ (lo (v : Int))).setCell ⟨b, o + 4, none⟩ (hi (v : Int)))) := ⟨rfl, k1.mono (by omega) (by omega), HS.out _ k1 k2⟩
  clear k1 k2 h0 h1 f0 f1 hb hV
  unfold lo hi at *
  go_wp2_with fail
  go_end0
  exact HF.out
set_option maxHeartbeats 800000 in
theorem clo177 {b o V v : Nat} {W : Nat → Int} (hr : w.rangeAt b o (rowL 4 W)) (hf : ∀ q, w.frozen? ⟨b, q, none⟩ = false) (hV : w.cell? ⟨V, 0, none⟩ = some (.int .u64 (v : Int))) (hv : v < 281474976710656) :
    Calls Tryz.prog 177 #[.pointer (some ⟨b, o, none⟩), .pointer (some ⟨V, 0, none⟩)] w (CzPost b o 3 (rowL 4 (upd W 0 (v : Int))) w) := by
  have f0 := hf o
  have HS : Hid (∀ w' : World, St1 b (o + 0) 2 w w' → w'.rangeAt b (o + 0) [lo ((v : Int)), hi ((v : Int))] → w'.rangeAt b o (rowL 4 (upd W 0 (v : Int)))) := fun w' a c => rangeAt.splice (l1 := []) (m := [lo (W 0), hi (W 0)]) (l2 := [bo (W 1)]) hr a c rfl
  have h0 : w.cell? ⟨b, o, none⟩ = some (lo (W 0)) := hr 0 _ rfl
  have h1 : w.cell? ⟨b, o + 1, none⟩ = some (hi (W 0)) := hr 1 _ rfl
  have f1 := hf (o + 1)
  have lb := cell_lt h0
  have HLo := hideIt (loose_walk v hv w)
  clear hr hf
  go_enter Tryz.func177, Tryz.ntmps177
  go_wp2_with fail
  go_at_call 145
  refine HLo.out.mono ?_
  rintro e w1 ⟨rfl, hb⟩
  have c0 := (hb.cell (p := ⟨b, o, none⟩) lb).trans h0
  have c1 := (hb.cell (p := ⟨b, o + 1, none⟩) lb).trans h1
  have j0 := (frz_below hb lb _).trans f0
  have j1 := (frz_below hb lb _).trans f1
  obtain ⟨k1, k2⟩ := two_put hb lb c0 c1 (lo (v : Int)) (hi (v : Int))
  have HF : Hid (CzPost b o 3 (rowL 4 (upd W 0 (v : Int))) w (.returned (.tuple #[])) ((w1.setCell ⟨b, o, none⟩ (lo (v : Int))).setCell ⟨b, o + 1, none⟩ (hi (v : Int)))) := ⟨rfl, k1.mono (by omega) (by omega), HS.out _ k1 k2⟩
  clear k1 k2 h0 h1 f0 f1 hb hV
  unfold lo hi at *
  go_wp2_with fail
  go_end0
  exact HF.out
set_option maxHeartbeats 800000 in
theorem clo181 {b o V v : Nat} {W : Nat → Int} (hr : w.rangeAt b o (rowL 5 W)) (hf : ∀ q, w.frozen? ⟨b, q, none⟩ = false) (hV : w.cell? ⟨V, 0, none⟩ = some (.int .u64 (v : Int))) (hv : v < 256) :
    Calls Tryz.prog 181 #[.pointer (some ⟨b, o, none⟩), .pointer (some ⟨V, 0, none⟩)] w (CzPost b o 5 (rowL 5 (upd W 0 (v : Int))) w) := by
  have f0 := hf o
  have HS : Hid (∀ w' : World, St1 b (o + 0) 1 w w' → w'.rangeAt b (o + 0) [.int .u8 ((v : Int))] → w'.rangeAt b o (rowL 5 (upd W 0 (v : Int)))) := fun w' a c => rangeAt.splice (l1 := []) (m := [.int .u8 (W 0)]) (l2 := [lo (W 1), hi (W 1), .int .u64 (W 2), bo (W 3)]) hr a c rfl
  have h0 : w.cell? ⟨b, o, none⟩ = some (.int .u8 (W 0)) := hr 0 _ rfl
  have hv' : (v : Int) < 256 := by omega
  have HF : Hid (CzPost b o 5 (rowL 5 (upd W 0 (v : Int))) w (.returned (.tuple #[])) (w.setCell ⟨b, o, none⟩ (.int .u8 ((v : Int))))) := ⟨rfl, (St1.one _ _ _ _).mono (by omega) (by omega), HS.out _ (St1.one _ _ _ _) (one_range h0)⟩
  clear hr hf
  go_enter Tryz.func181, Tryz.ntmps181
  go_wp2_with fail
  go_end0
  exact HF.out
set_option maxHeartbeats 800000 in
theorem clo182 {b o V v : Nat} {W : Nat → Int} (hr : w.rangeAt b o (rowL 5 W)) (hf : ∀ q, w.frozen? ⟨b, q, none⟩ = false) (hV : w.cell? ⟨V, 0, none⟩ = some (.int .u64 (v : Int))) (hv : v < 281474976710656) :
    Calls Tryz.prog 182 #[.pointer (some ⟨b, o, none⟩), .pointer (some ⟨V, 0, none⟩)] w (CzPost b o 5 (rowL 5 (upd W 1 (v : Int))) w) := by
  have f0 := hf (o + 1)
  have HS : Hid (∀ w' : World, St1 b (o + 1) 2 w w' → w'.rangeAt b (o + 1) [lo ((v : Int)), hi ((v : Int))] → w'.rangeAt b o (rowL 5 (upd W 1 (v : Int)))) := fun w' a c => rangeAt.splice (l1 := [.int .u8 (W 0)]) (m := [lo (W 1), hi (W 1)]) (l2 := [.int .u64 (W 2), bo (W 3)]) hr a c rfl
  have h0 : w.cell? ⟨b, o + 1, none⟩ = some (lo (W 1)) := hr 1 _ rfl
  have h1 : w.cell? ⟨b, o + 2, none⟩ = some (hi (W 1)) := hr 2 _ rfl
  have f1 := hf (o + 2)
  have lb := cell_lt h0
  have HLo := hideIt (loose_walk v hv w)
  clear hr hf
  go_enter Tryz.func182, Tryz.ntmps182
  go_wp2_with fail
  go_at_call 145
  refine HLo.out.mono ?_
  rintro e w1 ⟨rfl, hb⟩
  have c0 := (hb.cell (p := ⟨b, o + 1, none⟩) lb).trans h0
  have c1 := (hb.cell (p := ⟨b, o + 2, none⟩) lb).trans h1
  have j0 := (frz_below hb lb _).trans f0
  have j1 := (frz_below hb lb _).trans f1
  obtain ⟨k1, k2⟩ := two_put hb lb c0 c1 (lo (v : Int)) (hi (v : Int))
  have HF : Hid (CzPost b o 5 (rowL 5 (upd W 1 (v : Int))) w (.returned (.tuple #[])) ((w1.setCell ⟨b, o + 1, none⟩ (lo (v : Int))).setCell ⟨b, o + 2, none⟩ (hi (v : Int)))) := ⟨rfl, k1.mono (by omega) (by omega), HS.out _ k1 k2⟩
  clear k1 k2 h0 h1 f0 f1 hb hV
  unfold lo hi at *
  go_wp2_with fail
  go_end0
  exact HF.out
end
end Go.Proofs.Qxb6500847aGreatDoor.Os
