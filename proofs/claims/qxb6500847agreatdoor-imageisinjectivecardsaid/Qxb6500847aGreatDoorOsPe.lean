/-
  Fields of cells.
-/
import Derived.Test.Qxb6500847aGreatDoorOsPb
namespace Go.Proofs.Qxb6500847aGreatDoor.Os
open Go.RowKit FloorA
set_option maxRecDepth 100000
section
variable {w : World}

set_option maxHeartbeats 800000 in
theorem load9_0 {b o : Nat} {W : Nat → Int} (hr : w.rangeAt b o (cellL W 0)) (hq : 0 ≤ W 0 ∧ W 0 < 281474976710656) :
    Calls Tryz.prog 368 #[.pointer (some ⟨b, o, none⟩), .int .i64 0] w (LdPost (W 0) w) := by
  obtain ⟨x, hx⟩ := Int.eq_ofNat_of_zero_le hq.1
  have h0 : w.cell? ⟨b, o, none⟩ = some (lo (W 0)) := hr 0 _ rfl
  have h1 : w.cell? ⟨b, o + 1, none⟩ = some (hi (W 0)) := hr 1 _ rfl
  rw [hx] at h0 h1 hq ⊢
  unfold lo at h0
  unfold hi at h1
  have HP := hideIt (fun W => Pack_walk x (by omega) W)
  clear hr hx
  go_enter Tryz.func368, Tryz.ntmps368
  go_wp2_with (go_at_call 219; refine (HP.out _).mono ?_; rintro e w1 ⟨rfl, hb⟩)
  go_ret
  exact ⟨rfl, hb⟩

set_option maxHeartbeats 800000 in
theorem store9_0 {b o : Nat} {W : Nat → Int} (hr : w.rangeAt b o (cellL W 0)) (hf : ∀ q, w.frozen? ⟨b, q, none⟩ = false) (v : Nat) (hv : v < 18446744073709551616) :
    Calls Tryz.prog 369 #[.pointer (some ⟨b, o, none⟩), .int .i64 0, .int .u64 (v : Int)] w (SrC b o 0 W v w) := by
  have f0 := hf o
  have HS : Hid (∀ w' : World, St1 b (o + 0) 2 w w' → w'.rangeAt b (o + 0) [lo ((v : Int)), hi ((v : Int))] → w'.rangeAt b o (cellL (upd W 0 (v : Int)) 0)) := fun w' a c => rangeAt.splice (l1 := []) (m := [lo (W 0), hi (W 0)]) (l2 := [.int .u8 (W 1), .int .u64 (W 2), .int .u32 (W 3), .int .u16 (W 4), .int .u16 (W 5), .int .u8 (W 6)]) hr a c rfl
  have h0 : w.cell? ⟨b, o, none⟩ = some (lo (W 0)) := hr 0 _ rfl
  have h1 : w.cell? ⟨b, o + 1, none⟩ = some (hi (W 0)) := hr 1 _ rfl
  have f1 := hf (o + 1)
  have HP := hideIt (putRef_walk v hv h0 h1 f0 f1)
  clear hr hf h0 f0 h1 f1
  go_enter Tryz.func369, Tryz.ntmps369
  go_wp2_with fail
  go_at_call 370
  refine HP.out.mono ?_
  rintro e w1 (⟨hlt, rfl, hb⟩ | ⟨hlt, rfl, hs, hm⟩)
  · have HF : Hid (SrC b o 0 W v w (.returned (.bool false)) w1) := Or.inl ⟨fun q => by have h1 : (v : Int) < 281474976710656 := q.1; have h2 := (show cOk 0 (v : Int) from q.2).1 rfl; have hh := hlt; omega, rfl, hb⟩
    clear hb hlt
    go_wp2_with fail
    exact bodyPost_ret (by simp [results, Tryz.results369]) rfl HF.out
  · have HF : Hid (SrC b o 0 W v w (.returned (.bool true)) w1) := Or.inr ⟨⟨by have hh := hlt; show (v : Int) < 281474976710656; omega, ⟨fun _ => by have hh := hlt; omega, fun _ => by have hh := hlt; omega, fun _ => by have hh := hlt; omega, fun _ => by have hh := hlt; omega⟩⟩, rfl, hs.mono (by omega) (by first | omega | (simp only [nC]; omega) | (simp only [List.length_cons, List.length_nil]; omega) | (simp only [nC, List.length_cons, List.length_nil]; omega)), HS.out w1 hs hm⟩
    clear hlt hs hm
    go_wp2_with fail
    exact bodyPost_ret (by simp [results, Tryz.results369]) rfl HF.out

set_option maxHeartbeats 800000 in
theorem load9_1 {b o : Nat} {W : Nat → Int} (hr : w.rangeAt b o (cellL W 0)) (hq : 0 ≤ W 1 ∧ W 1 < 256) :
    Calls Tryz.prog 368 #[.pointer (some ⟨b, o, none⟩), .int .i64 1] w (LdPost (W 1) w) := by
  obtain ⟨x, hx⟩ := Int.eq_ofNat_of_zero_le hq.1
  have h0 : w.cell? ⟨b, o + 2, none⟩ = some (.int .u8 (W 1)) := hr 2 _ rfl
  rw [hx] at h0 hq ⊢
  have q1 := hq.2
  clear hr hx hq
  go_enter Tryz.func368, Tryz.ntmps368
  go_wp2_with fail
  go_ret
  exact ⟨rfl, Below.refl _ _⟩

set_option maxHeartbeats 800000 in
theorem store9_1 {b o : Nat} {W : Nat → Int} (hr : w.rangeAt b o (cellL W 0)) (hf : ∀ q, w.frozen? ⟨b, q, none⟩ = false) (v : Nat) (hv : v < 18446744073709551616) :
    Calls Tryz.prog 369 #[.pointer (some ⟨b, o, none⟩), .int .i64 1, .int .u64 (v : Int)] w (SrC b o 1 W v w) := by
  have f0 := hf (o + 2)
  have HS : Hid (∀ w' : World, St1 b (o + 2) 1 w w' → w'.rangeAt b (o + 2) [.int .u8 ((v : Int))] → w'.rangeAt b o (cellL (upd W 1 (v : Int)) 0)) := fun w' a c => rangeAt.splice (l1 := [lo (W 0), hi (W 0)]) (m := [.int .u8 (W 1)]) (l2 := [.int .u64 (W 2), .int .u32 (W 3), .int .u16 (W 4), .int .u16 (W 5), .int .u8 (W 6)]) hr a c rfl
  have h0 : w.cell? ⟨b, o + 2, none⟩ = some (.int .u8 (W 1)) := hr 2 _ rfl
  have HP := hideIt (putU8_walk v 15 (by omega) hv h0 f0)
  clear hr hf h0 f0
  go_enter Tryz.func369, Tryz.ntmps369
  go_wp2_with fail
  go_at_call 371
  refine HP.out.mono ?_
  rintro e w1 (⟨hlt, rfl, hb⟩ | ⟨hlt, rfl, hs, hm⟩)
  · have HF : Hid (SrC b o 1 W v w (.returned (.bool false)) w1) := Or.inl ⟨fun q => by have h1 : (v : Int) < 256 := q.1; have h2 := (show cOk 1 (v : Int) from q.2).2.1 rfl; have hh := hlt; omega, rfl, hb⟩
    clear hb hlt
    go_wp2_with fail
    exact bodyPost_ret (by simp [results, Tryz.results369]) rfl HF.out
  · have HF : Hid (SrC b o 1 W v w (.returned (.bool true)) w1) := Or.inr ⟨⟨by have hh := hlt; show (v : Int) < 256; omega, ⟨fun _ => by have hh := hlt; omega, fun _ => by have hh := hlt; omega, fun _ => by have hh := hlt; omega, fun _ => by have hh := hlt; omega⟩⟩, rfl, hs.mono (by omega) (by first | omega | (simp only [nC]; omega) | (simp only [List.length_cons, List.length_nil]; omega) | (simp only [nC, List.length_cons, List.length_nil]; omega)), HS.out w1 hs hm⟩
    clear hlt hs hm
    go_wp2_with fail
    exact bodyPost_ret (by simp [results, Tryz.results369]) rfl HF.out

set_option maxHeartbeats 800000 in
theorem load9_2 {b o : Nat} {W : Nat → Int} (hr : w.rangeAt b o (cellL W 0)) (hq : 0 ≤ W 2 ∧ W 2 < 18446744073709551616) :
    Calls Tryz.prog 368 #[.pointer (some ⟨b, o, none⟩), .int .i64 2] w (LdPost (W 2) w) := by
  obtain ⟨x, hx⟩ := Int.eq_ofNat_of_zero_le hq.1
  have h0 : w.cell? ⟨b, o + 3, none⟩ = some (.int .u64 (W 2)) := hr 3 _ rfl
  rw [hx] at h0 hq ⊢
  have q1 := hq.2
  clear hr hx hq
  go_enter Tryz.func368, Tryz.ntmps368
  go_wp2_with fail
  go_ret
  exact ⟨rfl, Below.refl _ _⟩

set_option maxHeartbeats 800000 in
theorem store9_2 {b o : Nat} {W : Nat → Int} (hr : w.rangeAt b o (cellL W 0)) (hf : ∀ q, w.frozen? ⟨b, q, none⟩ = false) (v : Nat) (hv : v < 18446744073709551616) :
    Calls Tryz.prog 369 #[.pointer (some ⟨b, o, none⟩), .int .i64 2, .int .u64 (v : Int)] w (SrC b o 2 W v w) := by
  have f0 := hf (o + 3)
  have HS : Hid (∀ w' : World, St1 b (o + 3) 1 w w' → w'.rangeAt b (o + 3) [.int .u64 ((v : Int))] → w'.rangeAt b o (cellL (upd W 2 (v : Int)) 0)) := fun w' a c => rangeAt.splice (l1 := [lo (W 0), hi (W 0), .int .u8 (W 1)]) (m := [.int .u64 (W 2)]) (l2 := [.int .u32 (W 3), .int .u16 (W 4), .int .u16 (W 5), .int .u8 (W 6)]) hr a c rfl
  have h0 : w.cell? ⟨b, o + 3, none⟩ = some (.int .u64 (W 2)) := hr 3 _ rfl
  have H0 := hideIt h0
  have hv' : (v : Int) < 18446744073709551616 := by omega
  clear hr hf
  go_enter Tryz.func369, Tryz.ntmps369
  go_wp2_with fail
  exact bodyPost_ret (by simp [results, Tryz.results369]) rfl (Or.inr ⟨⟨by have hh := hv'; show (v : Int) < 18446744073709551616; omega, ⟨fun _ => by have hh := hv'; omega, fun _ => by have hh := hv'; omega, fun _ => by have hh := hv'; omega, fun _ => by have hh := hv'; omega⟩⟩, rfl, (St1.one _ _ _ _).mono (by omega) (by first | omega | (simp only [nC]; omega) | (simp only [List.length_cons, List.length_nil]; omega) | (simp only [nC, List.length_cons, List.length_nil]; omega)), HS.out _ (St1.one _ _ _ _) (one_range H0.out)⟩)

set_option maxHeartbeats 800000 in
theorem load9_3 {b o : Nat} {W : Nat → Int} (hr : w.rangeAt b o (cellL W 0)) (hq : 0 ≤ W 3 ∧ W 3 < 4294967296) :
    Calls Tryz.prog 368 #[.pointer (some ⟨b, o, none⟩), .int .i64 3] w (LdPost (W 3) w) := by
  obtain ⟨x, hx⟩ := Int.eq_ofNat_of_zero_le hq.1
  have h0 : w.cell? ⟨b, o + 4, none⟩ = some (.int .u32 (W 3)) := hr 4 _ rfl
  rw [hx] at h0 hq ⊢
  have q1 := hq.2
  clear hr hx hq
  go_enter Tryz.func368, Tryz.ntmps368
  go_wp2_with fail
  go_ret
  exact ⟨rfl, Below.refl _ _⟩

set_option maxHeartbeats 800000 in
theorem store9_3 {b o : Nat} {W : Nat → Int} (hr : w.rangeAt b o (cellL W 0)) (hf : ∀ q, w.frozen? ⟨b, q, none⟩ = false) (v : Nat) (hv : v < 18446744073709551616) :
    Calls Tryz.prog 369 #[.pointer (some ⟨b, o, none⟩), .int .i64 3, .int .u64 (v : Int)] w (SrC b o 3 W v w) := by
  have f0 := hf (o + 4)
  have HS : Hid (∀ w' : World, St1 b (o + 4) 1 w w' → w'.rangeAt b (o + 4) [.int .u32 ((v : Int))] → w'.rangeAt b o (cellL (upd W 3 (v : Int)) 0)) := fun w' a c => rangeAt.splice (l1 := [lo (W 0), hi (W 0), .int .u8 (W 1), .int .u64 (W 2)]) (m := [.int .u32 (W 3)]) (l2 := [.int .u16 (W 4), .int .u16 (W 5), .int .u8 (W 6)]) hr a c rfl
  have h0 : w.cell? ⟨b, o + 4, none⟩ = some (.int .u32 (W 3)) := hr 4 _ rfl
  have HP := hideIt (putU32_walk v hv h0 f0)
  clear hr hf h0 f0
  go_enter Tryz.func369, Tryz.ntmps369
  go_wp2_with fail
  go_at_call 372
  refine HP.out.mono ?_
  rintro e w1 (⟨hlt, rfl, hb⟩ | ⟨hlt, rfl, hs, hm⟩)
  · have HF : Hid (SrC b o 3 W v w (.returned (.bool false)) w1) := Or.inl ⟨fun q => by have h1 : (v : Int) < 4294967296 := q.1; have hh := hlt; omega, rfl, hb⟩
    clear hb hlt
    go_wp2_with fail
    exact bodyPost_ret (by simp [results, Tryz.results369]) rfl HF.out
  · have HF : Hid (SrC b o 3 W v w (.returned (.bool true)) w1) := Or.inr ⟨⟨by have hh := hlt; show (v : Int) < 4294967296; omega, ⟨fun _ => by have hh := hlt; omega, fun _ => by have hh := hlt; omega, fun _ => by have hh := hlt; omega, fun _ => by have hh := hlt; omega⟩⟩, rfl, hs.mono (by omega) (by first | omega | (simp only [nC]; omega) | (simp only [List.length_cons, List.length_nil]; omega) | (simp only [nC, List.length_cons, List.length_nil]; omega)), HS.out w1 hs hm⟩
    clear hlt hs hm
    go_wp2_with fail
    exact bodyPost_ret (by simp [results, Tryz.results369]) rfl HF.out

set_option maxHeartbeats 800000 in
theorem load9_4 {b o : Nat} {W : Nat → Int} (hr : w.rangeAt b o (cellL W 0)) (hq : 0 ≤ W 4 ∧ W 4 < 65536) :
    Calls Tryz.prog 368 #[.pointer (some ⟨b, o, none⟩), .int .i64 4] w (LdPost (W 4) w) := by
  obtain ⟨x, hx⟩ := Int.eq_ofNat_of_zero_le hq.1
  have h0 : w.cell? ⟨b, o + 5, none⟩ = some (.int .u16 (W 4)) := hr 5 _ rfl
  rw [hx] at h0 hq ⊢
  have q1 := hq.2
  clear hr hx hq
  go_enter Tryz.func368, Tryz.ntmps368
  go_wp2_with fail
  go_ret
  exact ⟨rfl, Below.refl _ _⟩

set_option maxHeartbeats 800000 in
theorem store9_4 {b o : Nat} {W : Nat → Int} (hr : w.rangeAt b o (cellL W 0)) (hf : ∀ q, w.frozen? ⟨b, q, none⟩ = false) (v : Nat) (hv : v < 18446744073709551616) :
    Calls Tryz.prog 369 #[.pointer (some ⟨b, o, none⟩), .int .i64 4, .int .u64 (v : Int)] w (SrC b o 4 W v w) := by
  have f0 := hf (o + 5)
  have HS : Hid (∀ w' : World, St1 b (o + 5) 1 w w' → w'.rangeAt b (o + 5) [.int .u16 ((v : Int))] → w'.rangeAt b o (cellL (upd W 4 (v : Int)) 0)) := fun w' a c => rangeAt.splice (l1 := [lo (W 0), hi (W 0), .int .u8 (W 1), .int .u64 (W 2), .int .u32 (W 3)]) (m := [.int .u16 (W 4)]) (l2 := [.int .u16 (W 5), .int .u8 (W 6)]) hr a c rfl
  have h0 : w.cell? ⟨b, o + 5, none⟩ = some (.int .u16 (W 4)) := hr 5 _ rfl
  have HP := hideIt (putU16_walk v 4096 (by omega) hv h0 f0)
  clear hr hf h0 f0
  go_enter Tryz.func369, Tryz.ntmps369
  go_wp2_with fail
  go_at_call 373
  refine HP.out.mono ?_
  rintro e w1 (⟨hlt, rfl, hb⟩ | ⟨hlt, rfl, hs, hm⟩)
  · have HF : Hid (SrC b o 4 W v w (.returned (.bool false)) w1) := Or.inl ⟨fun q => by have h1 : (v : Int) < 65536 := q.1; have h2 := (show cOk 4 (v : Int) from q.2).2.2.1 rfl; have hh := hlt; omega, rfl, hb⟩
    clear hb hlt
    go_wp2_with fail
    exact bodyPost_ret (by simp [results, Tryz.results369]) rfl HF.out
  · have HF : Hid (SrC b o 4 W v w (.returned (.bool true)) w1) := Or.inr ⟨⟨by have hh := hlt; show (v : Int) < 65536; omega, ⟨fun _ => by have hh := hlt; omega, fun _ => by have hh := hlt; omega, fun _ => by have hh := hlt; omega, fun _ => by have hh := hlt; omega⟩⟩, rfl, hs.mono (by omega) (by first | omega | (simp only [nC]; omega) | (simp only [List.length_cons, List.length_nil]; omega) | (simp only [nC, List.length_cons, List.length_nil]; omega)), HS.out w1 hs hm⟩
    clear hlt hs hm
    go_wp2_with fail
    exact bodyPost_ret (by simp [results, Tryz.results369]) rfl HF.out

set_option maxHeartbeats 800000 in
theorem load9_5 {b o : Nat} {W : Nat → Int} (hr : w.rangeAt b o (cellL W 0)) (hq : 0 ≤ W 5 ∧ W 5 < 65536) :
    Calls Tryz.prog 368 #[.pointer (some ⟨b, o, none⟩), .int .i64 5] w (LdPost (W 5) w) := by
  obtain ⟨x, hx⟩ := Int.eq_ofNat_of_zero_le hq.1
  have h0 : w.cell? ⟨b, o + 6, none⟩ = some (.int .u16 (W 5)) := hr 6 _ rfl
  rw [hx] at h0 hq ⊢
  have q1 := hq.2
  clear hr hx hq
  go_enter Tryz.func368, Tryz.ntmps368
  go_wp2_with fail
  go_ret
  exact ⟨rfl, Below.refl _ _⟩

set_option maxHeartbeats 800000 in
theorem store9_5 {b o : Nat} {W : Nat → Int} (hr : w.rangeAt b o (cellL W 0)) (hf : ∀ q, w.frozen? ⟨b, q, none⟩ = false) (v : Nat) (hv : v < 18446744073709551616) :
    Calls Tryz.prog 369 #[.pointer (some ⟨b, o, none⟩), .int .i64 5, .int .u64 (v : Int)] w (SrC b o 5 W v w) := by
  have f0 := hf (o + 6)
  have HS : Hid (∀ w' : World, St1 b (o + 6) 1 w w' → w'.rangeAt b (o + 6) [.int .u16 ((v : Int))] → w'.rangeAt b o (cellL (upd W 5 (v : Int)) 0)) := fun w' a c => rangeAt.splice (l1 := [lo (W 0), hi (W 0), .int .u8 (W 1), .int .u64 (W 2), .int .u32 (W 3), .int .u16 (W 4)]) (m := [.int .u16 (W 5)]) (l2 := [.int .u8 (W 6)]) hr a c rfl
  have h0 : w.cell? ⟨b, o + 6, none⟩ = some (.int .u16 (W 5)) := hr 6 _ rfl
  have HP := hideIt (putU16_walk v 4096 (by omega) hv h0 f0)
  clear hr hf h0 f0
  go_enter Tryz.func369, Tryz.ntmps369
  go_wp2_with fail
  go_at_call 373
  refine HP.out.mono ?_
  rintro e w1 (⟨hlt, rfl, hb⟩ | ⟨hlt, rfl, hs, hm⟩)
  · have HF : Hid (SrC b o 5 W v w (.returned (.bool false)) w1) := Or.inl ⟨fun q => by have h1 : (v : Int) < 65536 := q.1; have h2 := (show cOk 5 (v : Int) from q.2).2.2.2 rfl; have hh := hlt; omega, rfl, hb⟩
    clear hb hlt
    go_wp2_with fail
    exact bodyPost_ret (by simp [results, Tryz.results369]) rfl HF.out
  · have HF : Hid (SrC b o 5 W v w (.returned (.bool true)) w1) := Or.inr ⟨⟨by have hh := hlt; show (v : Int) < 65536; omega, ⟨fun _ => by have hh := hlt; omega, fun _ => by have hh := hlt; omega, fun _ => by have hh := hlt; omega, fun _ => by have hh := hlt; omega⟩⟩, rfl, hs.mono (by omega) (by first | omega | (simp only [nC]; omega) | (simp only [List.length_cons, List.length_nil]; omega) | (simp only [nC, List.length_cons, List.length_nil]; omega)), HS.out w1 hs hm⟩
    clear hlt hs hm
    go_wp2_with fail
    exact bodyPost_ret (by simp [results, Tryz.results369]) rfl HF.out

set_option maxHeartbeats 800000 in
theorem load9_6 {b o : Nat} {W : Nat → Int} (hr : w.rangeAt b o (cellL W 0)) (hq : 0 ≤ W 6 ∧ W 6 < 256) :
    Calls Tryz.prog 368 #[.pointer (some ⟨b, o, none⟩), .int .i64 6] w (LdPost (W 6) w) := by
  obtain ⟨x, hx⟩ := Int.eq_ofNat_of_zero_le hq.1
  have h0 : w.cell? ⟨b, o + 7, none⟩ = some (.int .u8 (W 6)) := hr 7 _ rfl
  rw [hx] at h0 hq ⊢
  have q1 := hq.2
  clear hr hx hq
  go_enter Tryz.func368, Tryz.ntmps368
  go_wp2_with fail
  go_ret
  exact ⟨rfl, Below.refl _ _⟩

set_option maxHeartbeats 800000 in
theorem store9_6 {b o : Nat} {W : Nat → Int} (hr : w.rangeAt b o (cellL W 0)) (hf : ∀ q, w.frozen? ⟨b, q, none⟩ = false) (v : Nat) (hv : v < 18446744073709551616) :
    Calls Tryz.prog 369 #[.pointer (some ⟨b, o, none⟩), .int .i64 6, .int .u64 (v : Int)] w (SrC b o 6 W v w) := by
  have f0 := hf (o + 7)
  have HS : Hid (∀ w' : World, St1 b (o + 7) 1 w w' → w'.rangeAt b (o + 7) [.int .u8 ((v : Int))] → w'.rangeAt b o (cellL (upd W 6 (v : Int)) 0)) := fun w' a c => rangeAt.splice (l1 := [lo (W 0), hi (W 0), .int .u8 (W 1), .int .u64 (W 2), .int .u32 (W 3), .int .u16 (W 4), .int .u16 (W 5)]) (m := [.int .u8 (W 6)]) (l2 := []) hr a c rfl
  have h0 : w.cell? ⟨b, o + 7, none⟩ = some (.int .u8 (W 6)) := hr 7 _ rfl
  have HP := hideIt (putU8_walk v 255 (by omega) hv h0 f0)
  clear hr hf h0 f0
  go_enter Tryz.func369, Tryz.ntmps369
  go_wp2_with fail
  go_at_call 371
  refine HP.out.mono ?_
  rintro e w1 (⟨hlt, rfl, hb⟩ | ⟨hlt, rfl, hs, hm⟩)
  · have HF : Hid (SrC b o 6 W v w (.returned (.bool false)) w1) := Or.inl ⟨fun q => by have h1 : (v : Int) < 256 := q.1; have hh := hlt; omega, rfl, hb⟩
    clear hb hlt
    go_wp2_with fail
    exact bodyPost_ret (by simp [results, Tryz.results369]) rfl HF.out
  · have HF : Hid (SrC b o 6 W v w (.returned (.bool true)) w1) := Or.inr ⟨⟨by have hh := hlt; show (v : Int) < 256; omega, ⟨fun _ => by have hh := hlt; omega, fun _ => by have hh := hlt; omega, fun _ => by have hh := hlt; omega, fun _ => by have hh := hlt; omega⟩⟩, rfl, hs.mono (by omega) (by first | omega | (simp only [nC]; omega) | (simp only [List.length_cons, List.length_nil]; omega) | (simp only [nC, List.length_cons, List.length_nil]; omega)), HS.out w1 hs hm⟩
    clear hlt hs hm
    go_wp2_with fail
    exact bodyPost_ret (by simp [results, Tryz.results369]) rfl HF.out
end
end Go.Proofs.Qxb6500847aGreatDoor.Os
