/-
  Fields of threads.
-/
import Derived.Test.Qxb6500847aGreatDoorOsPb
namespace Go.Proofs.Qxb6500847aGreatDoor.Os
open Go.RowKit FloorA
set_option maxRecDepth 100000
section
variable {w : World}

set_option maxHeartbeats 800000 in
theorem load1_0 {b o : Nat} {W : Nat → Int} (hr : w.rangeAt b o (rowL 1 W)) (hq : 0 ≤ W 0 ∧ W 0 < 256) :
    Calls Tryz.prog 375 #[.pointer (some ⟨b, o, none⟩), .int .i64 0] w (LdPost (W 0) w) := by
  obtain ⟨x, hx⟩ := Int.eq_ofNat_of_zero_le hq.1
  have h0 : w.cell? ⟨b, o, none⟩ = some (.int .u8 (W 0)) := hr 0 _ rfl
  rw [hx] at h0 hq ⊢
  have q1 := hq.2
  clear hr hx hq
  go_enter Tryz.func375, Tryz.ntmps375
  go_wp2_with fail
  go_ret
  exact ⟨rfl, Below.refl _ _⟩

set_option maxHeartbeats 800000 in
theorem store1_0 {b o : Nat} {W : Nat → Int} (hr : w.rangeAt b o (rowL 1 W)) (hf : ∀ q, w.frozen? ⟨b, q, none⟩ = false) (v : Nat) (hv : v < 18446744073709551616) :
    Calls Tryz.prog 376 #[.pointer (some ⟨b, o, none⟩), .int .i64 0, .int .u64 (v : Int)] w (SrPost 1 0 b o W v w) := by
  have f0 := hf o
  have HS : Hid (∀ w' : World, St1 b (o + 0) 1 w w' → w'.rangeAt b (o + 0) [.int .u8 ((v : Int))] → w'.rangeAt b o (rowL 1 (upd W 0 (v : Int)))) := fun w' a c => rangeAt.splice (l1 := []) (m := [.int .u8 (W 0)]) (l2 := [.int .u8 (W 1), lo (W 2), hi (W 2), .int .u16 (W 3), .int .u16 (W 4), lo (W 5), hi (W 5), .int .u32 (W 6), lo (W 7), hi (W 7), lo (W 8), hi (W 8), .int .u64 (W 9), .int .u8 (W 10), .int .u64 (W 11), .int .u64 (W 12), .int .u64 (W 13), .int .u64 (W 14), .int .u8 (W 15), .int .u32 (W 16), .int .u32 (W 17)]) hr a c rfl
  have h0 : w.cell? ⟨b, o, none⟩ = some (.int .u8 (W 0)) := hr 0 _ rfl
  have HP := hideIt (putU8_walk v 6 (by omega) hv h0 f0)
  clear hr hf h0 f0
  go_enter Tryz.func376, Tryz.ntmps376
  go_wp2_with fail
  go_at_call 371
  refine HP.out.mono ?_
  rintro e w1 (⟨hlt, rfl, hb⟩ | ⟨hlt, rfl, hs, hm⟩)
  · have HF : Hid (SrPost 1 0 b o W v w (.returned (.bool false)) w1) := Or.inl ⟨fun q => by have h1 : (v : Int) < 256 := q.1; have h2 := q.2.1 (by omega); have hh := hlt; omega, rfl, hb⟩
    clear hb hlt
    go_wp2_with fail
    exact bodyPost_ret (by simp [results, Tryz.results376]) rfl HF.out
  · have HF : Hid (SrPost 1 0 b o W v w (.returned (.bool true)) w1) := Or.inr ⟨⟨by have hh := hlt; show (v : Int) < 256; omega, ⟨fun _ => by have hh := hlt; omega, fun _ => by have hh := hlt; omega, fun _ => by have hh := hlt; omega, fun _ => by have hh := hlt; omega, fun _ => by have hh := hlt; omega, fun _ => by have hh := hlt; omega⟩⟩, rfl, hs.mono (by omega) (by first | omega | (simp only [nC]; omega) | (simp only [List.length_cons, List.length_nil]; omega) | (simp only [nC, List.length_cons, List.length_nil]; omega)), HS.out w1 hs hm⟩
    clear hlt hs hm
    go_wp2_with fail
    exact bodyPost_ret (by simp [results, Tryz.results376]) rfl HF.out

set_option maxHeartbeats 800000 in
theorem load1_1 {b o : Nat} {W : Nat → Int} (hr : w.rangeAt b o (rowL 1 W)) (hq : 0 ≤ W 1 ∧ W 1 < 256) :
    Calls Tryz.prog 375 #[.pointer (some ⟨b, o, none⟩), .int .i64 1] w (LdPost (W 1) w) := by
  obtain ⟨x, hx⟩ := Int.eq_ofNat_of_zero_le hq.1
  have h0 : w.cell? ⟨b, o + 1, none⟩ = some (.int .u8 (W 1)) := hr 1 _ rfl
  rw [hx] at h0 hq ⊢
  have q1 := hq.2
  clear hr hx hq
  go_enter Tryz.func375, Tryz.ntmps375
  go_wp2_with fail
  go_ret
  exact ⟨rfl, Below.refl _ _⟩

set_option maxHeartbeats 800000 in
theorem store1_1 {b o : Nat} {W : Nat → Int} (hr : w.rangeAt b o (rowL 1 W)) (hf : ∀ q, w.frozen? ⟨b, q, none⟩ = false) (v : Nat) (hv : v < 18446744073709551616) :
    Calls Tryz.prog 376 #[.pointer (some ⟨b, o, none⟩), .int .i64 1, .int .u64 (v : Int)] w (SrPost 1 1 b o W v w) := by
  have f0 := hf (o + 1)
  have HS : Hid (∀ w' : World, St1 b (o + 1) 1 w w' → w'.rangeAt b (o + 1) [.int .u8 ((v : Int))] → w'.rangeAt b o (rowL 1 (upd W 1 (v : Int)))) := fun w' a c => rangeAt.splice (l1 := [.int .u8 (W 0)]) (m := [.int .u8 (W 1)]) (l2 := [lo (W 2), hi (W 2), .int .u16 (W 3), .int .u16 (W 4), lo (W 5), hi (W 5), .int .u32 (W 6), lo (W 7), hi (W 7), lo (W 8), hi (W 8), .int .u64 (W 9), .int .u8 (W 10), .int .u64 (W 11), .int .u64 (W 12), .int .u64 (W 13), .int .u64 (W 14), .int .u8 (W 15), .int .u32 (W 16), .int .u32 (W 17)]) hr a c rfl
  have h0 : w.cell? ⟨b, o + 1, none⟩ = some (.int .u8 (W 1)) := hr 1 _ rfl
  have HP := hideIt (putU8_walk v 7 (by omega) hv h0 f0)
  clear hr hf h0 f0
  go_enter Tryz.func376, Tryz.ntmps376
  go_wp2_with fail
  go_at_call 371
  refine HP.out.mono ?_
  rintro e w1 (⟨hlt, rfl, hb⟩ | ⟨hlt, rfl, hs, hm⟩)
  · have HF : Hid (SrPost 1 1 b o W v w (.returned (.bool false)) w1) := Or.inl ⟨fun q => by have h1 : (v : Int) < 256 := q.1; have h2 := q.2.2.1 (by omega); have hh := hlt; omega, rfl, hb⟩
    clear hb hlt
    go_wp2_with fail
    exact bodyPost_ret (by simp [results, Tryz.results376]) rfl HF.out
  · have HF : Hid (SrPost 1 1 b o W v w (.returned (.bool true)) w1) := Or.inr ⟨⟨by have hh := hlt; show (v : Int) < 256; omega, ⟨fun _ => by have hh := hlt; omega, fun _ => by have hh := hlt; omega, fun _ => by have hh := hlt; omega, fun _ => by have hh := hlt; omega, fun _ => by have hh := hlt; omega, fun _ => by have hh := hlt; omega⟩⟩, rfl, hs.mono (by omega) (by first | omega | (simp only [nC]; omega) | (simp only [List.length_cons, List.length_nil]; omega) | (simp only [nC, List.length_cons, List.length_nil]; omega)), HS.out w1 hs hm⟩
    clear hlt hs hm
    go_wp2_with fail
    exact bodyPost_ret (by simp [results, Tryz.results376]) rfl HF.out

set_option maxHeartbeats 800000 in
theorem load1_2 {b o : Nat} {W : Nat → Int} (hr : w.rangeAt b o (rowL 1 W)) (hq : 0 ≤ W 2 ∧ W 2 < 281474976710656) :
    Calls Tryz.prog 375 #[.pointer (some ⟨b, o, none⟩), .int .i64 2] w (LdPost (W 2) w) := by
  obtain ⟨x, hx⟩ := Int.eq_ofNat_of_zero_le hq.1
  have h0 : w.cell? ⟨b, o + 2, none⟩ = some (lo (W 2)) := hr 2 _ rfl
  have h1 : w.cell? ⟨b, o + 3, none⟩ = some (hi (W 2)) := hr 3 _ rfl
  rw [hx] at h0 h1 hq ⊢
  unfold lo at h0
  unfold hi at h1
  have HP := hideIt (fun W => Pack_walk x (by omega) W)
  clear hr hx
  go_enter Tryz.func375, Tryz.ntmps375
  go_wp2_with (go_at_call 219; refine (HP.out _).mono ?_; rintro e w1 ⟨rfl, hb⟩)
  go_ret
  exact ⟨rfl, hb⟩

set_option maxHeartbeats 800000 in
theorem store1_2 {b o : Nat} {W : Nat → Int} (hr : w.rangeAt b o (rowL 1 W)) (hf : ∀ q, w.frozen? ⟨b, q, none⟩ = false) (v : Nat) (hv : v < 18446744073709551616) :
    Calls Tryz.prog 376 #[.pointer (some ⟨b, o, none⟩), .int .i64 2, .int .u64 (v : Int)] w (SrPost 1 2 b o W v w) := by
  have f0 := hf (o + 2)
  have HS : Hid (∀ w' : World, St1 b (o + 2) 2 w w' → w'.rangeAt b (o + 2) [lo ((v : Int)), hi ((v : Int))] → w'.rangeAt b o (rowL 1 (upd W 2 (v : Int)))) := fun w' a c => rangeAt.splice (l1 := [.int .u8 (W 0), .int .u8 (W 1)]) (m := [lo (W 2), hi (W 2)]) (l2 := [.int .u16 (W 3), .int .u16 (W 4), lo (W 5), hi (W 5), .int .u32 (W 6), lo (W 7), hi (W 7), lo (W 8), hi (W 8), .int .u64 (W 9), .int .u8 (W 10), .int .u64 (W 11), .int .u64 (W 12), .int .u64 (W 13), .int .u64 (W 14), .int .u8 (W 15), .int .u32 (W 16), .int .u32 (W 17)]) hr a c rfl
  have h0 : w.cell? ⟨b, o + 2, none⟩ = some (lo (W 2)) := hr 2 _ rfl
  have h1 : w.cell? ⟨b, o + 3, none⟩ = some (hi (W 2)) := hr 3 _ rfl
  have f1 := hf (o + 3)
  have HP := hideIt (putRef_walk v hv h0 h1 f0 f1)
  clear hr hf h0 f0 h1 f1
  go_enter Tryz.func376, Tryz.ntmps376
  go_wp2_with fail
  go_at_call 370
  refine HP.out.mono ?_
  rintro e w1 (⟨hlt, rfl, hb⟩ | ⟨hlt, rfl, hs, hm⟩)
  · have HF : Hid (SrPost 1 2 b o W v w (.returned (.bool false)) w1) := Or.inl ⟨fun q => by have h1 : (v : Int) < 281474976710656 := q.1; have h2 := q.2.2.2.1 (by omega); have hh := hlt; omega, rfl, hb⟩
    clear hb hlt
    go_wp2_with fail
    exact bodyPost_ret (by simp [results, Tryz.results376]) rfl HF.out
  · have HF : Hid (SrPost 1 2 b o W v w (.returned (.bool true)) w1) := Or.inr ⟨⟨by have hh := hlt; show (v : Int) < 281474976710656; omega, ⟨fun _ => by have hh := hlt; omega, fun _ => by have hh := hlt; omega, fun _ => by have hh := hlt; omega, fun _ => by have hh := hlt; omega, fun _ => by have hh := hlt; omega, fun _ => by have hh := hlt; omega⟩⟩, rfl, hs.mono (by omega) (by first | omega | (simp only [nC]; omega) | (simp only [List.length_cons, List.length_nil]; omega) | (simp only [nC, List.length_cons, List.length_nil]; omega)), HS.out w1 hs hm⟩
    clear hlt hs hm
    go_wp2_with fail
    exact bodyPost_ret (by simp [results, Tryz.results376]) rfl HF.out

set_option maxHeartbeats 800000 in
theorem load1_3 {b o : Nat} {W : Nat → Int} (hr : w.rangeAt b o (rowL 1 W)) (hq : 0 ≤ W 3 ∧ W 3 < 65536) :
    Calls Tryz.prog 375 #[.pointer (some ⟨b, o, none⟩), .int .i64 3] w (LdPost (W 3) w) := by
  obtain ⟨x, hx⟩ := Int.eq_ofNat_of_zero_le hq.1
  have h0 : w.cell? ⟨b, o + 4, none⟩ = some (.int .u16 (W 3)) := hr 4 _ rfl
  rw [hx] at h0 hq ⊢
  have q1 := hq.2
  clear hr hx hq
  go_enter Tryz.func375, Tryz.ntmps375
  go_wp2_with fail
  go_ret
  exact ⟨rfl, Below.refl _ _⟩

set_option maxHeartbeats 800000 in
theorem store1_3 {b o : Nat} {W : Nat → Int} (hr : w.rangeAt b o (rowL 1 W)) (hf : ∀ q, w.frozen? ⟨b, q, none⟩ = false) (v : Nat) (hv : v < 18446744073709551616) :
    Calls Tryz.prog 376 #[.pointer (some ⟨b, o, none⟩), .int .i64 3, .int .u64 (v : Int)] w (SrPost 1 3 b o W v w) := by
  have f0 := hf (o + 4)
  have HS : Hid (∀ w' : World, St1 b (o + 4) 1 w w' → w'.rangeAt b (o + 4) [.int .u16 ((v : Int))] → w'.rangeAt b o (rowL 1 (upd W 3 (v : Int)))) := fun w' a c => rangeAt.splice (l1 := [.int .u8 (W 0), .int .u8 (W 1), lo (W 2), hi (W 2)]) (m := [.int .u16 (W 3)]) (l2 := [.int .u16 (W 4), lo (W 5), hi (W 5), .int .u32 (W 6), lo (W 7), hi (W 7), lo (W 8), hi (W 8), .int .u64 (W 9), .int .u8 (W 10), .int .u64 (W 11), .int .u64 (W 12), .int .u64 (W 13), .int .u64 (W 14), .int .u8 (W 15), .int .u32 (W 16), .int .u32 (W 17)]) hr a c rfl
  have h0 : w.cell? ⟨b, o + 4, none⟩ = some (.int .u16 (W 3)) := hr 4 _ rfl
  have HP := hideIt (putU16_walk v 256 (by omega) hv h0 f0)
  clear hr hf h0 f0
  go_enter Tryz.func376, Tryz.ntmps376
  go_wp2_with fail
  go_at_call 373
  refine HP.out.mono ?_
  rintro e w1 (⟨hlt, rfl, hb⟩ | ⟨hlt, rfl, hs, hm⟩)
  · have HF : Hid (SrPost 1 3 b o W v w (.returned (.bool false)) w1) := Or.inl ⟨fun q => by have h1 : (v : Int) < 65536 := q.1; have h2 := q.2.2.2.2.1 (by omega); have hh := hlt; omega, rfl, hb⟩
    clear hb hlt
    go_wp2_with fail
    exact bodyPost_ret (by simp [results, Tryz.results376]) rfl HF.out
  · have HF : Hid (SrPost 1 3 b o W v w (.returned (.bool true)) w1) := Or.inr ⟨⟨by have hh := hlt; show (v : Int) < 65536; omega, ⟨fun _ => by have hh := hlt; omega, fun _ => by have hh := hlt; omega, fun _ => by have hh := hlt; omega, fun _ => by have hh := hlt; omega, fun _ => by have hh := hlt; omega, fun _ => by have hh := hlt; omega⟩⟩, rfl, hs.mono (by omega) (by first | omega | (simp only [nC]; omega) | (simp only [List.length_cons, List.length_nil]; omega) | (simp only [nC, List.length_cons, List.length_nil]; omega)), HS.out w1 hs hm⟩
    clear hlt hs hm
    go_wp2_with fail
    exact bodyPost_ret (by simp [results, Tryz.results376]) rfl HF.out

set_option maxHeartbeats 800000 in
theorem load1_4 {b o : Nat} {W : Nat → Int} (hr : w.rangeAt b o (rowL 1 W)) (hq : 0 ≤ W 4 ∧ W 4 < 65536) :
    Calls Tryz.prog 375 #[.pointer (some ⟨b, o, none⟩), .int .i64 4] w (LdPost (W 4) w) := by
  obtain ⟨x, hx⟩ := Int.eq_ofNat_of_zero_le hq.1
  have h0 : w.cell? ⟨b, o + 5, none⟩ = some (.int .u16 (W 4)) := hr 5 _ rfl
  rw [hx] at h0 hq ⊢
  have q1 := hq.2
  clear hr hx hq
  go_enter Tryz.func375, Tryz.ntmps375
  go_wp2_with fail
  go_ret
  exact ⟨rfl, Below.refl _ _⟩

set_option maxHeartbeats 800000 in
theorem store1_4 {b o : Nat} {W : Nat → Int} (hr : w.rangeAt b o (rowL 1 W)) (hf : ∀ q, w.frozen? ⟨b, q, none⟩ = false) (v : Nat) (hv : v < 18446744073709551616) :
    Calls Tryz.prog 376 #[.pointer (some ⟨b, o, none⟩), .int .i64 4, .int .u64 (v : Int)] w (SrPost 1 4 b o W v w) := by
  have f0 := hf (o + 5)
  have HS : Hid (∀ w' : World, St1 b (o + 5) 1 w w' → w'.rangeAt b (o + 5) [.int .u16 ((v : Int))] → w'.rangeAt b o (rowL 1 (upd W 4 (v : Int)))) := fun w' a c => rangeAt.splice (l1 := [.int .u8 (W 0), .int .u8 (W 1), lo (W 2), hi (W 2), .int .u16 (W 3)]) (m := [.int .u16 (W 4)]) (l2 := [lo (W 5), hi (W 5), .int .u32 (W 6), lo (W 7), hi (W 7), lo (W 8), hi (W 8), .int .u64 (W 9), .int .u8 (W 10), .int .u64 (W 11), .int .u64 (W 12), .int .u64 (W 13), .int .u64 (W 14), .int .u8 (W 15), .int .u32 (W 16), .int .u32 (W 17)]) hr a c rfl
  have h0 : w.cell? ⟨b, o + 5, none⟩ = some (.int .u16 (W 4)) := hr 5 _ rfl
  have HP := hideIt (putU16_walk v 256 (by omega) hv h0 f0)
  clear hr hf h0 f0
  go_enter Tryz.func376, Tryz.ntmps376
  go_wp2_with fail
  go_at_call 373
  refine HP.out.mono ?_
  rintro e w1 (⟨hlt, rfl, hb⟩ | ⟨hlt, rfl, hs, hm⟩)
  · have HF : Hid (SrPost 1 4 b o W v w (.returned (.bool false)) w1) := Or.inl ⟨fun q => by have h1 : (v : Int) < 65536 := q.1; have h2 := q.2.2.2.2.1 (by omega); have hh := hlt; omega, rfl, hb⟩
    clear hb hlt
    go_wp2_with fail
    exact bodyPost_ret (by simp [results, Tryz.results376]) rfl HF.out
  · have HF : Hid (SrPost 1 4 b o W v w (.returned (.bool true)) w1) := Or.inr ⟨⟨by have hh := hlt; show (v : Int) < 65536; omega, ⟨fun _ => by have hh := hlt; omega, fun _ => by have hh := hlt; omega, fun _ => by have hh := hlt; omega, fun _ => by have hh := hlt; omega, fun _ => by have hh := hlt; omega, fun _ => by have hh := hlt; omega⟩⟩, rfl, hs.mono (by omega) (by first | omega | (simp only [nC]; omega) | (simp only [List.length_cons, List.length_nil]; omega) | (simp only [nC, List.length_cons, List.length_nil]; omega)), HS.out w1 hs hm⟩
    clear hlt hs hm
    go_wp2_with fail
    exact bodyPost_ret (by simp [results, Tryz.results376]) rfl HF.out

set_option maxHeartbeats 800000 in
theorem load1_5 {b o : Nat} {W : Nat → Int} (hr : w.rangeAt b o (rowL 1 W)) (hq : 0 ≤ W 5 ∧ W 5 < 281474976710656) :
    Calls Tryz.prog 375 #[.pointer (some ⟨b, o, none⟩), .int .i64 5] w (LdPost (W 5) w) := by
  obtain ⟨x, hx⟩ := Int.eq_ofNat_of_zero_le hq.1
  have h0 : w.cell? ⟨b, o + 6, none⟩ = some (lo (W 5)) := hr 6 _ rfl
  have h1 : w.cell? ⟨b, o + 7, none⟩ = some (hi (W 5)) := hr 7 _ rfl
  rw [hx] at h0 h1 hq ⊢
  unfold lo at h0
  unfold hi at h1
  have HP := hideIt (fun W => Pack_walk x (by omega) W)
  clear hr hx
  go_enter Tryz.func375, Tryz.ntmps375
  go_wp2_with (go_at_call 219; refine (HP.out _).mono ?_; rintro e w1 ⟨rfl, hb⟩)
  go_ret
  exact ⟨rfl, hb⟩

set_option maxHeartbeats 800000 in
theorem store1_5 {b o : Nat} {W : Nat → Int} (hr : w.rangeAt b o (rowL 1 W)) (hf : ∀ q, w.frozen? ⟨b, q, none⟩ = false) (v : Nat) (hv : v < 18446744073709551616) :
    Calls Tryz.prog 376 #[.pointer (some ⟨b, o, none⟩), .int .i64 5, .int .u64 (v : Int)] w (SrPost 1 5 b o W v w) := by
  have f0 := hf (o + 6)
  have HS : Hid (∀ w' : World, St1 b (o + 6) 2 w w' → w'.rangeAt b (o + 6) [lo ((v : Int)), hi ((v : Int))] → w'.rangeAt b o (rowL 1 (upd W 5 (v : Int)))) := fun w' a c => rangeAt.splice (l1 := [.int .u8 (W 0), .int .u8 (W 1), lo (W 2), hi (W 2), .int .u16 (W 3), .int .u16 (W 4)]) (m := [lo (W 5), hi (W 5)]) (l2 := [.int .u32 (W 6), lo (W 7), hi (W 7), lo (W 8), hi (W 8), .int .u64 (W 9), .int .u8 (W 10), .int .u64 (W 11), .int .u64 (W 12), .int .u64 (W 13), .int .u64 (W 14), .int .u8 (W 15), .int .u32 (W 16), .int .u32 (W 17)]) hr a c rfl
  have h0 : w.cell? ⟨b, o + 6, none⟩ = some (lo (W 5)) := hr 6 _ rfl
  have h1 : w.cell? ⟨b, o + 7, none⟩ = some (hi (W 5)) := hr 7 _ rfl
  have f1 := hf (o + 7)
  have HP := hideIt (putRef_walk v hv h0 h1 f0 f1)
  clear hr hf h0 f0 h1 f1
  go_enter Tryz.func376, Tryz.ntmps376
  go_wp2_with fail
  go_at_call 370
  refine HP.out.mono ?_
  rintro e w1 (⟨hlt, rfl, hb⟩ | ⟨hlt, rfl, hs, hm⟩)
  · have HF : Hid (SrPost 1 5 b o W v w (.returned (.bool false)) w1) := Or.inl ⟨fun q => by have h1 : (v : Int) < 281474976710656 := q.1; have h2 := q.2.2.2.1 (by omega); have hh := hlt; omega, rfl, hb⟩
    clear hb hlt
    go_wp2_with fail
    exact bodyPost_ret (by simp [results, Tryz.results376]) rfl HF.out
  · have HF : Hid (SrPost 1 5 b o W v w (.returned (.bool true)) w1) := Or.inr ⟨⟨by have hh := hlt; show (v : Int) < 281474976710656; omega, ⟨fun _ => by have hh := hlt; omega, fun _ => by have hh := hlt; omega, fun _ => by have hh := hlt; omega, fun _ => by have hh := hlt; omega, fun _ => by have hh := hlt; omega, fun _ => by have hh := hlt; omega⟩⟩, rfl, hs.mono (by omega) (by first | omega | (simp only [nC]; omega) | (simp only [List.length_cons, List.length_nil]; omega) | (simp only [nC, List.length_cons, List.length_nil]; omega)), HS.out w1 hs hm⟩
    clear hlt hs hm
    go_wp2_with fail
    exact bodyPost_ret (by simp [results, Tryz.results376]) rfl HF.out

set_option maxHeartbeats 800000 in
theorem load1_6 {b o : Nat} {W : Nat → Int} (hr : w.rangeAt b o (rowL 1 W)) (hq : 0 ≤ W 6 ∧ W 6 < 4294967296) :
    Calls Tryz.prog 375 #[.pointer (some ⟨b, o, none⟩), .int .i64 6] w (LdPost (W 6) w) := by
  obtain ⟨x, hx⟩ := Int.eq_ofNat_of_zero_le hq.1
  have h0 : w.cell? ⟨b, o + 8, none⟩ = some (.int .u32 (W 6)) := hr 8 _ rfl
  rw [hx] at h0 hq ⊢
  have q1 := hq.2
  clear hr hx hq
  go_enter Tryz.func375, Tryz.ntmps375
  go_wp2_with fail
  go_ret
  exact ⟨rfl, Below.refl _ _⟩

set_option maxHeartbeats 800000 in
theorem store1_6 {b o : Nat} {W : Nat → Int} (hr : w.rangeAt b o (rowL 1 W)) (hf : ∀ q, w.frozen? ⟨b, q, none⟩ = false) (v : Nat) (hv : v < 18446744073709551616) :
    Calls Tryz.prog 376 #[.pointer (some ⟨b, o, none⟩), .int .i64 6, .int .u64 (v : Int)] w (SrPost 1 6 b o W v w) := by
  have f0 := hf (o + 8)
  have HS : Hid (∀ w' : World, St1 b (o + 8) 1 w w' → w'.rangeAt b (o + 8) [.int .u32 ((v : Int))] → w'.rangeAt b o (rowL 1 (upd W 6 (v : Int)))) := fun w' a c => rangeAt.splice (l1 := [.int .u8 (W 0), .int .u8 (W 1), lo (W 2), hi (W 2), .int .u16 (W 3), .int .u16 (W 4), lo (W 5), hi (W 5)]) (m := [.int .u32 (W 6)]) (l2 := [lo (W 7), hi (W 7), lo (W 8), hi (W 8), .int .u64 (W 9), .int .u8 (W 10), .int .u64 (W 11), .int .u64 (W 12), .int .u64 (W 13), .int .u64 (W 14), .int .u8 (W 15), .int .u32 (W 16), .int .u32 (W 17)]) hr a c rfl
  have h0 : w.cell? ⟨b, o + 8, none⟩ = some (.int .u32 (W 6)) := hr 8 _ rfl
  have HP := hideIt (putU32_walk v hv h0 f0)
  clear hr hf h0 f0
  go_enter Tryz.func376, Tryz.ntmps376
  go_wp2_with fail
  go_at_call 372
  refine HP.out.mono ?_
  rintro e w1 (⟨hlt, rfl, hb⟩ | ⟨hlt, rfl, hs, hm⟩)
  · have HF : Hid (SrPost 1 6 b o W v w (.returned (.bool false)) w1) := Or.inl ⟨fun q => by have h1 : (v : Int) < 4294967296 := q.1; have hh := hlt; omega, rfl, hb⟩
    clear hb hlt
    go_wp2_with fail
    exact bodyPost_ret (by simp [results, Tryz.results376]) rfl HF.out
  · have HF : Hid (SrPost 1 6 b o W v w (.returned (.bool true)) w1) := Or.inr ⟨⟨by have hh := hlt; show (v : Int) < 4294967296; omega, ⟨fun _ => by have hh := hlt; omega, fun _ => by have hh := hlt; omega, fun _ => by have hh := hlt; omega, fun _ => by have hh := hlt; omega, fun _ => by have hh := hlt; omega, fun _ => by have hh := hlt; omega⟩⟩, rfl, hs.mono (by omega) (by first | omega | (simp only [nC]; omega) | (simp only [List.length_cons, List.length_nil]; omega) | (simp only [nC, List.length_cons, List.length_nil]; omega)), HS.out w1 hs hm⟩
    clear hlt hs hm
    go_wp2_with fail
    exact bodyPost_ret (by simp [results, Tryz.results376]) rfl HF.out

set_option maxHeartbeats 800000 in
theorem load1_7 {b o : Nat} {W : Nat → Int} (hr : w.rangeAt b o (rowL 1 W)) (hq : 0 ≤ W 7 ∧ W 7 < 281474976710656) :
    Calls Tryz.prog 375 #[.pointer (some ⟨b, o, none⟩), .int .i64 7] w (LdPost (W 7) w) := by
  obtain ⟨x, hx⟩ := Int.eq_ofNat_of_zero_le hq.1
  have h0 : w.cell? ⟨b, o + 9, none⟩ = some (lo (W 7)) := hr 9 _ rfl
  have h1 : w.cell? ⟨b, o + 10, none⟩ = some (hi (W 7)) := hr 10 _ rfl
  rw [hx] at h0 h1 hq ⊢
  unfold lo at h0
  unfold hi at h1
  have HP := hideIt (fun W => Pack_walk x (by omega) W)
  clear hr hx
  go_enter Tryz.func375, Tryz.ntmps375
  go_wp2_with (go_at_call 219; refine (HP.out _).mono ?_; rintro e w1 ⟨rfl, hb⟩)
  go_ret
  exact ⟨rfl, hb⟩

set_option maxHeartbeats 800000 in
theorem store1_7 {b o : Nat} {W : Nat → Int} (hr : w.rangeAt b o (rowL 1 W)) (hf : ∀ q, w.frozen? ⟨b, q, none⟩ = false) (v : Nat) (hv : v < 18446744073709551616) :
    Calls Tryz.prog 376 #[.pointer (some ⟨b, o, none⟩), .int .i64 7, .int .u64 (v : Int)] w (SrPost 1 7 b o W v w) := by
  have f0 := hf (o + 9)
  have HS : Hid (∀ w' : World, St1 b (o + 9) 2 w w' → w'.rangeAt b (o + 9) [lo ((v : Int)), hi ((v : Int))] → w'.rangeAt b o (rowL 1 (upd W 7 (v : Int)))) := fun w' a c => rangeAt.splice (l1 := [.int .u8 (W 0), .int .u8 (W 1), lo (W 2), hi (W 2), .int .u16 (W 3), .int .u16 (W 4), lo (W 5), hi (W 5), .int .u32 (W 6)]) (m := [lo (W 7), hi (W 7)]) (l2 := [lo (W 8), hi (W 8), .int .u64 (W 9), .int .u8 (W 10), .int .u64 (W 11), .int .u64 (W 12), .int .u64 (W 13), .int .u64 (W 14), .int .u8 (W 15), .int .u32 (W 16), .int .u32 (W 17)]) hr a c rfl
  have h0 : w.cell? ⟨b, o + 9, none⟩ = some (lo (W 7)) := hr 9 _ rfl
  have h1 : w.cell? ⟨b, o + 10, none⟩ = some (hi (W 7)) := hr 10 _ rfl
  have f1 := hf (o + 10)
  have HP := hideIt (putRef_walk v hv h0 h1 f0 f1)
  clear hr hf h0 f0 h1 f1
  go_enter Tryz.func376, Tryz.ntmps376
  go_wp2_with fail
  go_at_call 370
  refine HP.out.mono ?_
  rintro e w1 (⟨hlt, rfl, hb⟩ | ⟨hlt, rfl, hs, hm⟩)
  · have HF : Hid (SrPost 1 7 b o W v w (.returned (.bool false)) w1) := Or.inl ⟨fun q => by have h1 : (v : Int) < 281474976710656 := q.1; have h2 := q.2.2.2.1 (by omega); have hh := hlt; omega, rfl, hb⟩
    clear hb hlt
    go_wp2_with fail
    exact bodyPost_ret (by simp [results, Tryz.results376]) rfl HF.out
  · have HF : Hid (SrPost 1 7 b o W v w (.returned (.bool true)) w1) := Or.inr ⟨⟨by have hh := hlt; show (v : Int) < 281474976710656; omega, ⟨fun _ => by have hh := hlt; omega, fun _ => by have hh := hlt; omega, fun _ => by have hh := hlt; omega, fun _ => by have hh := hlt; omega, fun _ => by have hh := hlt; omega, fun _ => by have hh := hlt; omega⟩⟩, rfl, hs.mono (by omega) (by first | omega | (simp only [nC]; omega) | (simp only [List.length_cons, List.length_nil]; omega) | (simp only [nC, List.length_cons, List.length_nil]; omega)), HS.out w1 hs hm⟩
    clear hlt hs hm
    go_wp2_with fail
    exact bodyPost_ret (by simp [results, Tryz.results376]) rfl HF.out

set_option maxHeartbeats 800000 in
theorem load1_8 {b o : Nat} {W : Nat → Int} (hr : w.rangeAt b o (rowL 1 W)) (hq : 0 ≤ W 8 ∧ W 8 < 281474976710656) :
    Calls Tryz.prog 375 #[.pointer (some ⟨b, o, none⟩), .int .i64 8] w (LdPost (W 8) w) := by
  obtain ⟨x, hx⟩ := Int.eq_ofNat_of_zero_le hq.1
  have h0 : w.cell? ⟨b, o + 11, none⟩ = some (lo (W 8)) := hr 11 _ rfl
  have h1 : w.cell? ⟨b, o + 12, none⟩ = some (hi (W 8)) := hr 12 _ rfl
  rw [hx] at h0 h1 hq ⊢
  unfold lo at h0
  unfold hi at h1
  have HP := hideIt (fun W => Pack_walk x (by omega) W)
  clear hr hx
  go_enter Tryz.func375, Tryz.ntmps375
  go_wp2_with (go_at_call 219; refine (HP.out _).mono ?_; rintro e w1 ⟨rfl, hb⟩)
  go_ret
  exact ⟨rfl, hb⟩

set_option maxHeartbeats 800000 in
theorem store1_8 {b o : Nat} {W : Nat → Int} (hr : w.rangeAt b o (rowL 1 W)) (hf : ∀ q, w.frozen? ⟨b, q, none⟩ = false) (v : Nat) (hv : v < 18446744073709551616) :
    Calls Tryz.prog 376 #[.pointer (some ⟨b, o, none⟩), .int .i64 8, .int .u64 (v : Int)] w (SrPost 1 8 b o W v w) := by
  have f0 := hf (o + 11)
  have HS : Hid (∀ w' : World, St1 b (o + 11) 2 w w' → w'.rangeAt b (o + 11) [lo ((v : Int)), hi ((v : Int))] → w'.rangeAt b o (rowL 1 (upd W 8 (v : Int)))) := fun w' a c => rangeAt.splice (l1 := [.int .u8 (W 0), .int .u8 (W 1), lo (W 2), hi (W 2), .int .u16 (W 3), .int .u16 (W 4), lo (W 5), hi (W 5), .int .u32 (W 6), lo (W 7), hi (W 7)]) (m := [lo (W 8), hi (W 8)]) (l2 := [.int .u64 (W 9), .int .u8 (W 10), .int .u64 (W 11), .int .u64 (W 12), .int .u64 (W 13), .int .u64 (W 14), .int .u8 (W 15), .int .u32 (W 16), .int .u32 (W 17)]) hr a c rfl
  have h0 : w.cell? ⟨b, o + 11, none⟩ = some (lo (W 8)) := hr 11 _ rfl
  have h1 : w.cell? ⟨b, o + 12, none⟩ = some (hi (W 8)) := hr 12 _ rfl
  have f1 := hf (o + 12)
  have HP := hideIt (putRef_walk v hv h0 h1 f0 f1)
  clear hr hf h0 f0 h1 f1
  go_enter Tryz.func376, Tryz.ntmps376
  go_wp2_with fail
  go_at_call 370
  refine HP.out.mono ?_
  rintro e w1 (⟨hlt, rfl, hb⟩ | ⟨hlt, rfl, hs, hm⟩)
  · have HF : Hid (SrPost 1 8 b o W v w (.returned (.bool false)) w1) := Or.inl ⟨fun q => by have h1 : (v : Int) < 281474976710656 := q.1; have h2 := q.2.2.2.1 (by omega); have hh := hlt; omega, rfl, hb⟩
    clear hb hlt
    go_wp2_with fail
    exact bodyPost_ret (by simp [results, Tryz.results376]) rfl HF.out
  · have HF : Hid (SrPost 1 8 b o W v w (.returned (.bool true)) w1) := Or.inr ⟨⟨by have hh := hlt; show (v : Int) < 281474976710656; omega, ⟨fun _ => by have hh := hlt; omega, fun _ => by have hh := hlt; omega, fun _ => by have hh := hlt; omega, fun _ => by have hh := hlt; omega, fun _ => by have hh := hlt; omega, fun _ => by have hh := hlt; omega⟩⟩, rfl, hs.mono (by omega) (by first | omega | (simp only [nC]; omega) | (simp only [List.length_cons, List.length_nil]; omega) | (simp only [nC, List.length_cons, List.length_nil]; omega)), HS.out w1 hs hm⟩
    clear hlt hs hm
    go_wp2_with fail
    exact bodyPost_ret (by simp [results, Tryz.results376]) rfl HF.out

set_option maxHeartbeats 800000 in
theorem load1_9 {b o : Nat} {W : Nat → Int} (hr : w.rangeAt b o (rowL 1 W)) (hq : 0 ≤ W 9 ∧ W 9 < 18446744073709551616) :
    Calls Tryz.prog 375 #[.pointer (some ⟨b, o, none⟩), .int .i64 9] w (LdPost (W 9) w) := by
  obtain ⟨x, hx⟩ := Int.eq_ofNat_of_zero_le hq.1
  have h0 : w.cell? ⟨b, o + 13, none⟩ = some (.int .u64 (W 9)) := hr 13 _ rfl
  rw [hx] at h0 hq ⊢
  have q1 := hq.2
  clear hr hx hq
  go_enter Tryz.func375, Tryz.ntmps375
  go_wp2_with fail
  go_ret
  exact ⟨rfl, Below.refl _ _⟩

set_option maxHeartbeats 800000 in
theorem store1_9 {b o : Nat} {W : Nat → Int} (hr : w.rangeAt b o (rowL 1 W)) (hf : ∀ q, w.frozen? ⟨b, q, none⟩ = false) (v : Nat) (hv : v < 18446744073709551616) :
    Calls Tryz.prog 376 #[.pointer (some ⟨b, o, none⟩), .int .i64 9, .int .u64 (v : Int)] w (SrPost 1 9 b o W v w) := by
  have f0 := hf (o + 13)
  have HS : Hid (∀ w' : World, St1 b (o + 13) 1 w w' → w'.rangeAt b (o + 13) [.int .u64 ((v : Int))] → w'.rangeAt b o (rowL 1 (upd W 9 (v : Int)))) := fun w' a c => rangeAt.splice (l1 := [.int .u8 (W 0), .int .u8 (W 1), lo (W 2), hi (W 2), .int .u16 (W 3), .int .u16 (W 4), lo (W 5), hi (W 5), .int .u32 (W 6), lo (W 7), hi (W 7), lo (W 8), hi (W 8)]) (m := [.int .u64 (W 9)]) (l2 := [.int .u8 (W 10), .int .u64 (W 11), .int .u64 (W 12), .int .u64 (W 13), .int .u64 (W 14), .int .u8 (W 15), .int .u32 (W 16), .int .u32 (W 17)]) hr a c rfl
  have h0 : w.cell? ⟨b, o + 13, none⟩ = some (.int .u64 (W 9)) := hr 13 _ rfl
  have H0 := hideIt h0
  have hv' : (v : Int) < 18446744073709551616 := by omega
  clear hr hf
  go_enter Tryz.func376, Tryz.ntmps376
  go_wp2_with fail
  exact bodyPost_ret (by simp [results, Tryz.results376]) rfl (Or.inr ⟨⟨by have hh := hv'; show (v : Int) < 18446744073709551616; omega, ⟨fun _ => by have hh := hv'; omega, fun _ => by have hh := hv'; omega, fun _ => by have hh := hv'; omega, fun _ => by have hh := hv'; omega, fun _ => by have hh := hv'; omega, fun _ => by have hh := hv'; omega⟩⟩, rfl, (St1.one _ _ _ _).mono (by omega) (by first | omega | (simp only [nC]; omega) | (simp only [List.length_cons, List.length_nil]; omega) | (simp only [nC, List.length_cons, List.length_nil]; omega)), HS.out _ (St1.one _ _ _ _) (one_range H0.out)⟩)

set_option maxHeartbeats 800000 in
theorem load1_10 {b o : Nat} {W : Nat → Int} (hr : w.rangeAt b o (rowL 1 W)) (hq : 0 ≤ W 10 ∧ W 10 < 256) :
    Calls Tryz.prog 375 #[.pointer (some ⟨b, o, none⟩), .int .i64 10] w (LdPost (W 10) w) := by
  obtain ⟨x, hx⟩ := Int.eq_ofNat_of_zero_le hq.1
  have h0 : w.cell? ⟨b, o + 14, none⟩ = some (.int .u8 (W 10)) := hr 14 _ rfl
  rw [hx] at h0 hq ⊢
  have q1 := hq.2
  clear hr hx hq
  go_enter Tryz.func375, Tryz.ntmps375
  go_wp2_with fail
  go_ret
  exact ⟨rfl, Below.refl _ _⟩

set_option maxHeartbeats 800000 in
theorem store1_10 {b o : Nat} {W : Nat → Int} (hr : w.rangeAt b o (rowL 1 W)) (hf : ∀ q, w.frozen? ⟨b, q, none⟩ = false) (v : Nat) (hv : v < 18446744073709551616) :
    Calls Tryz.prog 376 #[.pointer (some ⟨b, o, none⟩), .int .i64 10, .int .u64 (v : Int)] w (SrPost 1 10 b o W v w) := by
  have f0 := hf (o + 14)
  have HS : Hid (∀ w' : World, St1 b (o + 14) 1 w w' → w'.rangeAt b (o + 14) [.int .u8 ((v : Int))] → w'.rangeAt b o (rowL 1 (upd W 10 (v : Int)))) := fun w' a c => rangeAt.splice (l1 := [.int .u8 (W 0), .int .u8 (W 1), lo (W 2), hi (W 2), .int .u16 (W 3), .int .u16 (W 4), lo (W 5), hi (W 5), .int .u32 (W 6), lo (W 7), hi (W 7), lo (W 8), hi (W 8), .int .u64 (W 9)]) (m := [.int .u8 (W 10)]) (l2 := [.int .u64 (W 11), .int .u64 (W 12), .int .u64 (W 13), .int .u64 (W 14), .int .u8 (W 15), .int .u32 (W 16), .int .u32 (W 17)]) hr a c rfl
  have h0 : w.cell? ⟨b, o + 14, none⟩ = some (.int .u8 (W 10)) := hr 14 _ rfl
  have HP := hideIt (putU8_walk v 4 (by omega) hv h0 f0)
  clear hr hf h0 f0
  go_enter Tryz.func376, Tryz.ntmps376
  go_wp2_with fail
  go_at_call 371
  refine HP.out.mono ?_
  rintro e w1 (⟨hlt, rfl, hb⟩ | ⟨hlt, rfl, hs, hm⟩)
  · have HF : Hid (SrPost 1 10 b o W v w (.returned (.bool false)) w1) := Or.inl ⟨fun q => by have h1 : (v : Int) < 256 := q.1; have h2 := q.2.2.2.2.2.1 (by omega); have hh := hlt; omega, rfl, hb⟩
    clear hb hlt
    go_wp2_with fail
    exact bodyPost_ret (by simp [results, Tryz.results376]) rfl HF.out
  · have HF : Hid (SrPost 1 10 b o W v w (.returned (.bool true)) w1) := Or.inr ⟨⟨by have hh := hlt; show (v : Int) < 256; omega, ⟨fun _ => by have hh := hlt; omega, fun _ => by have hh := hlt; omega, fun _ => by have hh := hlt; omega, fun _ => by have hh := hlt; omega, fun _ => by have hh := hlt; omega, fun _ => by have hh := hlt; omega⟩⟩, rfl, hs.mono (by omega) (by first | omega | (simp only [nC]; omega) | (simp only [List.length_cons, List.length_nil]; omega) | (simp only [nC, List.length_cons, List.length_nil]; omega)), HS.out w1 hs hm⟩
    clear hlt hs hm
    go_wp2_with fail
    exact bodyPost_ret (by simp [results, Tryz.results376]) rfl HF.out

set_option maxHeartbeats 800000 in
theorem load1_11 {b o : Nat} {W : Nat → Int} (hr : w.rangeAt b o (rowL 1 W)) (hq : 0 ≤ W 11 ∧ W 11 < 18446744073709551616) :
    Calls Tryz.prog 375 #[.pointer (some ⟨b, o, none⟩), .int .i64 11] w (LdPost (W 11) w) := by
  obtain ⟨x, hx⟩ := Int.eq_ofNat_of_zero_le hq.1
  have h0 : w.cell? ⟨b, o + 15, none⟩ = some (.int .u64 (W 11)) := hr 15 _ rfl
  rw [hx] at h0 hq ⊢
  have q1 := hq.2
  clear hr hx hq
  go_enter Tryz.func375, Tryz.ntmps375
  go_wp2_with fail
  go_ret
  exact ⟨rfl, Below.refl _ _⟩

set_option maxHeartbeats 800000 in
theorem store1_11 {b o : Nat} {W : Nat → Int} (hr : w.rangeAt b o (rowL 1 W)) (hf : ∀ q, w.frozen? ⟨b, q, none⟩ = false) (v : Nat) (hv : v < 18446744073709551616) :
    Calls Tryz.prog 376 #[.pointer (some ⟨b, o, none⟩), .int .i64 11, .int .u64 (v : Int)] w (SrPost 1 11 b o W v w) := by
  have f0 := hf (o + 15)
  have HS : Hid (∀ w' : World, St1 b (o + 15) 1 w w' → w'.rangeAt b (o + 15) [.int .u64 ((v : Int))] → w'.rangeAt b o (rowL 1 (upd W 11 (v : Int)))) := fun w' a c => rangeAt.splice (l1 := [.int .u8 (W 0), .int .u8 (W 1), lo (W 2), hi (W 2), .int .u16 (W 3), .int .u16 (W 4), lo (W 5), hi (W 5), .int .u32 (W 6), lo (W 7), hi (W 7), lo (W 8), hi (W 8), .int .u64 (W 9), .int .u8 (W 10)]) (m := [.int .u64 (W 11)]) (l2 := [.int .u64 (W 12), .int .u64 (W 13), .int .u64 (W 14), .int .u8 (W 15), .int .u32 (W 16), .int .u32 (W 17)]) hr a c rfl
  have h0 : w.cell? ⟨b, o + 15, none⟩ = some (.int .u64 (W 11)) := hr 15 _ rfl
  have H0 := hideIt h0
  have hv' : (v : Int) < 18446744073709551616 := by omega
  clear hr hf
  go_enter Tryz.func376, Tryz.ntmps376
  go_wp2_with fail
  exact bodyPost_ret (by simp [results, Tryz.results376]) rfl (Or.inr ⟨⟨by have hh := hv'; show (v : Int) < 18446744073709551616; omega, ⟨fun _ => by have hh := hv'; omega, fun _ => by have hh := hv'; omega, fun _ => by have hh := hv'; omega, fun _ => by have hh := hv'; omega, fun _ => by have hh := hv'; omega, fun _ => by have hh := hv'; omega⟩⟩, rfl, (St1.one _ _ _ _).mono (by omega) (by first | omega | (simp only [nC]; omega) | (simp only [List.length_cons, List.length_nil]; omega) | (simp only [nC, List.length_cons, List.length_nil]; omega)), HS.out _ (St1.one _ _ _ _) (one_range H0.out)⟩)

set_option maxHeartbeats 800000 in
theorem load1_12 {b o : Nat} {W : Nat → Int} (hr : w.rangeAt b o (rowL 1 W)) (hq : 0 ≤ W 12 ∧ W 12 < 18446744073709551616) :
    Calls Tryz.prog 375 #[.pointer (some ⟨b, o, none⟩), .int .i64 12] w (LdPost (W 12) w) := by
  obtain ⟨x, hx⟩ := Int.eq_ofNat_of_zero_le hq.1
  have h0 : w.cell? ⟨b, o + 16, none⟩ = some (.int .u64 (W 12)) := hr 16 _ rfl
  rw [hx] at h0 hq ⊢
  have q1 := hq.2
  clear hr hx hq
  go_enter Tryz.func375, Tryz.ntmps375
  go_wp2_with fail
  go_ret
  exact ⟨rfl, Below.refl _ _⟩

set_option maxHeartbeats 800000 in
theorem store1_12 {b o : Nat} {W : Nat → Int} (hr : w.rangeAt b o (rowL 1 W)) (hf : ∀ q, w.frozen? ⟨b, q, none⟩ = false) (v : Nat) (hv : v < 18446744073709551616) :
    Calls Tryz.prog 376 #[.pointer (some ⟨b, o, none⟩), .int .i64 12, .int .u64 (v : Int)] w (SrPost 1 12 b o W v w) := by
  have f0 := hf (o + 16)
  have HS : Hid (∀ w' : World, St1 b (o + 16) 1 w w' → w'.rangeAt b (o + 16) [.int .u64 ((v : Int))] → w'.rangeAt b o (rowL 1 (upd W 12 (v : Int)))) := fun w' a c => rangeAt.splice (l1 := [.int .u8 (W 0), .int .u8 (W 1), lo (W 2), hi (W 2), .int .u16 (W 3), .int .u16 (W 4), lo (W 5), hi (W 5), .int .u32 (W 6), lo (W 7), hi (W 7), lo (W 8), hi (W 8), .int .u64 (W 9), .int .u8 (W 10), .int .u64 (W 11)]) (m := [.int .u64 (W 12)]) (l2 := [.int .u64 (W 13), .int .u64 (W 14), .int .u8 (W 15), .int .u32 (W 16), .int .u32 (W 17)]) hr a c rfl
  have h0 : w.cell? ⟨b, o + 16, none⟩ = some (.int .u64 (W 12)) := hr 16 _ rfl
  have H0 := hideIt h0
  have hv' : (v : Int) < 18446744073709551616 := by omega
  clear hr hf
  go_enter Tryz.func376, Tryz.ntmps376
  go_wp2_with fail
  exact bodyPost_ret (by simp [results, Tryz.results376]) rfl (Or.inr ⟨⟨by have hh := hv'; show (v : Int) < 18446744073709551616; omega, ⟨fun _ => by have hh := hv'; omega, fun _ => by have hh := hv'; omega, fun _ => by have hh := hv'; omega, fun _ => by have hh := hv'; omega, fun _ => by have hh := hv'; omega, fun _ => by have hh := hv'; omega⟩⟩, rfl, (St1.one _ _ _ _).mono (by omega) (by first | omega | (simp only [nC]; omega) | (simp only [List.length_cons, List.length_nil]; omega) | (simp only [nC, List.length_cons, List.length_nil]; omega)), HS.out _ (St1.one _ _ _ _) (one_range H0.out)⟩)

set_option maxHeartbeats 800000 in
theorem load1_13 {b o : Nat} {W : Nat → Int} (hr : w.rangeAt b o (rowL 1 W)) (hq : 0 ≤ W 13 ∧ W 13 < 18446744073709551616) :
    Calls Tryz.prog 375 #[.pointer (some ⟨b, o, none⟩), .int .i64 13] w (LdPost (W 13) w) := by
  obtain ⟨x, hx⟩ := Int.eq_ofNat_of_zero_le hq.1
  have h0 : w.cell? ⟨b, o + 17, none⟩ = some (.int .u64 (W 13)) := hr 17 _ rfl
  rw [hx] at h0 hq ⊢
  have q1 := hq.2
  clear hr hx hq
  go_enter Tryz.func375, Tryz.ntmps375
  go_wp2_with fail
  go_ret
  exact ⟨rfl, Below.refl _ _⟩

set_option maxHeartbeats 800000 in
theorem store1_13 {b o : Nat} {W : Nat → Int} (hr : w.rangeAt b o (rowL 1 W)) (hf : ∀ q, w.frozen? ⟨b, q, none⟩ = false) (v : Nat) (hv : v < 18446744073709551616) :
    Calls Tryz.prog 376 #[.pointer (some ⟨b, o, none⟩), .int .i64 13, .int .u64 (v : Int)] w (SrPost 1 13 b o W v w) := by
  have f0 := hf (o + 17)
  have HS : Hid (∀ w' : World, St1 b (o + 17) 1 w w' → w'.rangeAt b (o + 17) [.int .u64 ((v : Int))] → w'.rangeAt b o (rowL 1 (upd W 13 (v : Int)))) := fun w' a c => rangeAt.splice (l1 := [.int .u8 (W 0), .int .u8 (W 1), lo (W 2), hi (W 2), .int .u16 (W 3), .int .u16 (W 4), lo (W 5), hi (W 5), .int .u32 (W 6), lo (W 7), hi (W 7), lo (W 8), hi (W 8), .int .u64 (W 9), .int .u8 (W 10), .int .u64 (W 11), .int .u64 (W 12)]) (m := [.int .u64 (W 13)]) (l2 := [.int .u64 (W 14), .int .u8 (W 15), .int .u32 (W 16), .int .u32 (W 17)]) hr a c rfl
  have h0 : w.cell? ⟨b, o + 17, none⟩ = some (.int .u64 (W 13)) := hr 17 _ rfl
  have H0 := hideIt h0
  have hv' : (v : Int) < 18446744073709551616 := by omega
  clear hr hf
  go_enter Tryz.func376, Tryz.ntmps376
  go_wp2_with fail
  exact bodyPost_ret (by simp [results, Tryz.results376]) rfl (Or.inr ⟨⟨by have hh := hv'; show (v : Int) < 18446744073709551616; omega, ⟨fun _ => by have hh := hv'; omega, fun _ => by have hh := hv'; omega, fun _ => by have hh := hv'; omega, fun _ => by have hh := hv'; omega, fun _ => by have hh := hv'; omega, fun _ => by have hh := hv'; omega⟩⟩, rfl, (St1.one _ _ _ _).mono (by omega) (by first | omega | (simp only [nC]; omega) | (simp only [List.length_cons, List.length_nil]; omega) | (simp only [nC, List.length_cons, List.length_nil]; omega)), HS.out _ (St1.one _ _ _ _) (one_range H0.out)⟩)

set_option maxHeartbeats 800000 in
theorem load1_14 {b o : Nat} {W : Nat → Int} (hr : w.rangeAt b o (rowL 1 W)) (hq : 0 ≤ W 14 ∧ W 14 < 18446744073709551616) :
    Calls Tryz.prog 375 #[.pointer (some ⟨b, o, none⟩), .int .i64 14] w (LdPost (W 14) w) := by
  obtain ⟨x, hx⟩ := Int.eq_ofNat_of_zero_le hq.1
  have h0 : w.cell? ⟨b, o + 18, none⟩ = some (.int .u64 (W 14)) := hr 18 _ rfl
  rw [hx] at h0 hq ⊢
  have q1 := hq.2
  clear hr hx hq
  go_enter Tryz.func375, Tryz.ntmps375
  go_wp2_with fail
  go_ret
  exact ⟨rfl, Below.refl _ _⟩

set_option maxHeartbeats 800000 in
theorem store1_14 {b o : Nat} {W : Nat → Int} (hr : w.rangeAt b o (rowL 1 W)) (hf : ∀ q, w.frozen? ⟨b, q, none⟩ = false) (v : Nat) (hv : v < 18446744073709551616) :
    Calls Tryz.prog 376 #[.pointer (some ⟨b, o, none⟩), .int .i64 14, .int .u64 (v : Int)] w (SrPost 1 14 b o W v w) := by
  have f0 := hf (o + 18)
  have HS : Hid (∀ w' : World, St1 b (o + 18) 1 w w' → w'.rangeAt b (o + 18) [.int .u64 ((v : Int))] → w'.rangeAt b o (rowL 1 (upd W 14 (v : Int)))) := fun w' a c => rangeAt.splice (l1 := [.int .u8 (W 0), .int .u8 (W 1), lo (W 2), hi (W 2), .int .u16 (W 3), .int .u16 (W 4), lo (W 5), hi (W 5), .int .u32 (W 6), lo (W 7), hi (W 7), lo (W 8), hi (W 8), .int .u64 (W 9), .int .u8 (W 10), .int .u64 (W 11), .int .u64 (W 12), .int .u64 (W 13)]) (m := [.int .u64 (W 14)]) (l2 := [.int .u8 (W 15), .int .u32 (W 16), .int .u32 (W 17)]) hr a c rfl
  have h0 : w.cell? ⟨b, o + 18, none⟩ = some (.int .u64 (W 14)) := hr 18 _ rfl
  have H0 := hideIt h0
  have hv' : (v : Int) < 18446744073709551616 := by omega
  clear hr hf
  go_enter Tryz.func376, Tryz.ntmps376
  go_wp2_with fail
  exact bodyPost_ret (by simp [results, Tryz.results376]) rfl (Or.inr ⟨⟨by have hh := hv'; show (v : Int) < 18446744073709551616; omega, ⟨fun _ => by have hh := hv'; omega, fun _ => by have hh := hv'; omega, fun _ => by have hh := hv'; omega, fun _ => by have hh := hv'; omega, fun _ => by have hh := hv'; omega, fun _ => by have hh := hv'; omega⟩⟩, rfl, (St1.one _ _ _ _).mono (by omega) (by first | omega | (simp only [nC]; omega) | (simp only [List.length_cons, List.length_nil]; omega) | (simp only [nC, List.length_cons, List.length_nil]; omega)), HS.out _ (St1.one _ _ _ _) (one_range H0.out)⟩)

set_option maxHeartbeats 800000 in
theorem load1_15 {b o : Nat} {W : Nat → Int} (hr : w.rangeAt b o (rowL 1 W)) (hq : 0 ≤ W 15 ∧ W 15 < 256) :
    Calls Tryz.prog 375 #[.pointer (some ⟨b, o, none⟩), .int .i64 15] w (LdPost (W 15) w) := by
  obtain ⟨x, hx⟩ := Int.eq_ofNat_of_zero_le hq.1
  have h0 : w.cell? ⟨b, o + 19, none⟩ = some (.int .u8 (W 15)) := hr 19 _ rfl
  rw [hx] at h0 hq ⊢
  have q1 := hq.2
  clear hr hx hq
  go_enter Tryz.func375, Tryz.ntmps375
  go_wp2_with fail
  go_ret
  exact ⟨rfl, Below.refl _ _⟩

set_option maxHeartbeats 800000 in
theorem store1_15 {b o : Nat} {W : Nat → Int} (hr : w.rangeAt b o (rowL 1 W)) (hf : ∀ q, w.frozen? ⟨b, q, none⟩ = false) (v : Nat) (hv : v < 18446744073709551616) :
    Calls Tryz.prog 376 #[.pointer (some ⟨b, o, none⟩), .int .i64 15, .int .u64 (v : Int)] w (SrPost 1 15 b o W v w) := by
  have f0 := hf (o + 19)
  have HS : Hid (∀ w' : World, St1 b (o + 19) 1 w w' → w'.rangeAt b (o + 19) [.int .u8 ((v : Int))] → w'.rangeAt b o (rowL 1 (upd W 15 (v : Int)))) := fun w' a c => rangeAt.splice (l1 := [.int .u8 (W 0), .int .u8 (W 1), lo (W 2), hi (W 2), .int .u16 (W 3), .int .u16 (W 4), lo (W 5), hi (W 5), .int .u32 (W 6), lo (W 7), hi (W 7), lo (W 8), hi (W 8), .int .u64 (W 9), .int .u8 (W 10), .int .u64 (W 11), .int .u64 (W 12), .int .u64 (W 13), .int .u64 (W 14)]) (m := [.int .u8 (W 15)]) (l2 := [.int .u32 (W 16), .int .u32 (W 17)]) hr a c rfl
  have h0 : w.cell? ⟨b, o + 19, none⟩ = some (.int .u8 (W 15)) := hr 19 _ rfl
  have HP := hideIt (putU8_walk v 2 (by omega) hv h0 f0)
  clear hr hf h0 f0
  go_enter Tryz.func376, Tryz.ntmps376
  go_wp2_with fail
  go_at_call 371
  refine HP.out.mono ?_
  rintro e w1 (⟨hlt, rfl, hb⟩ | ⟨hlt, rfl, hs, hm⟩)
  · have HF : Hid (SrPost 1 15 b o W v w (.returned (.bool false)) w1) := Or.inl ⟨fun q => by have h1 : (v : Int) < 256 := q.1; have h2 := q.2.2.2.2.2.2 (by omega); have hh := hlt; omega, rfl, hb⟩
    clear hb hlt
    go_wp2_with fail
    exact bodyPost_ret (by simp [results, Tryz.results376]) rfl HF.out
  · have HF : Hid (SrPost 1 15 b o W v w (.returned (.bool true)) w1) := Or.inr ⟨⟨by have hh := hlt; show (v : Int) < 256; omega, ⟨fun _ => by have hh := hlt; omega, fun _ => by have hh := hlt; omega, fun _ => by have hh := hlt; omega, fun _ => by have hh := hlt; omega, fun _ => by have hh := hlt; omega, fun _ => by have hh := hlt; omega⟩⟩, rfl, hs.mono (by omega) (by first | omega | (simp only [nC]; omega) | (simp only [List.length_cons, List.length_nil]; omega) | (simp only [nC, List.length_cons, List.length_nil]; omega)), HS.out w1 hs hm⟩
    clear hlt hs hm
    go_wp2_with fail
    exact bodyPost_ret (by simp [results, Tryz.results376]) rfl HF.out

set_option maxHeartbeats 800000 in
theorem load1_16 {b o : Nat} {W : Nat → Int} (hr : w.rangeAt b o (rowL 1 W)) (hq : 0 ≤ W 16 ∧ W 16 < 4294967296) :
    Calls Tryz.prog 375 #[.pointer (some ⟨b, o, none⟩), .int .i64 16] w (LdPost (W 16) w) := by
  obtain ⟨x, hx⟩ := Int.eq_ofNat_of_zero_le hq.1
  have h0 : w.cell? ⟨b, o + 20, none⟩ = some (.int .u32 (W 16)) := hr 20 _ rfl
  rw [hx] at h0 hq ⊢
  have q1 := hq.2
  clear hr hx hq
  go_enter Tryz.func375, Tryz.ntmps375
  go_wp2_with fail
  go_ret
  exact ⟨rfl, Below.refl _ _⟩

set_option maxHeartbeats 800000 in
theorem store1_16 {b o : Nat} {W : Nat → Int} (hr : w.rangeAt b o (rowL 1 W)) (hf : ∀ q, w.frozen? ⟨b, q, none⟩ = false) (v : Nat) (hv : v < 18446744073709551616) :
    Calls Tryz.prog 376 #[.pointer (some ⟨b, o, none⟩), .int .i64 16, .int .u64 (v : Int)] w (SrPost 1 16 b o W v w) := by
  have f0 := hf (o + 20)
  have HS : Hid (∀ w' : World, St1 b (o + 20) 1 w w' → w'.rangeAt b (o + 20) [.int .u32 ((v : Int))] → w'.rangeAt b o (rowL 1 (upd W 16 (v : Int)))) := fun w' a c => rangeAt.splice (l1 := [.int .u8 (W 0), .int .u8 (W 1), lo (W 2), hi (W 2), .int .u16 (W 3), .int .u16 (W 4), lo (W 5), hi (W 5), .int .u32 (W 6), lo (W 7), hi (W 7), lo (W 8), hi (W 8), .int .u64 (W 9), .int .u8 (W 10), .int .u64 (W 11), .int .u64 (W 12), .int .u64 (W 13), .int .u64 (W 14), .int .u8 (W 15)]) (m := [.int .u32 (W 16)]) (l2 := [.int .u32 (W 17)]) hr a c rfl
  have h0 : w.cell? ⟨b, o + 20, none⟩ = some (.int .u32 (W 16)) := hr 20 _ rfl
  have HP := hideIt (putU32_walk v hv h0 f0)
  clear hr hf h0 f0
  go_enter Tryz.func376, Tryz.ntmps376
  go_wp2_with fail
  go_at_call 372
  refine HP.out.mono ?_
  rintro e w1 (⟨hlt, rfl, hb⟩ | ⟨hlt, rfl, hs, hm⟩)
  · have HF : Hid (SrPost 1 16 b o W v w (.returned (.bool false)) w1) := Or.inl ⟨fun q => by have h1 : (v : Int) < 4294967296 := q.1; have hh := hlt; omega, rfl, hb⟩
    clear hb hlt
    go_wp2_with fail
    exact bodyPost_ret (by simp [results, Tryz.results376]) rfl HF.out
  · have HF : Hid (SrPost 1 16 b o W v w (.returned (.bool true)) w1) := Or.inr ⟨⟨by have hh := hlt; show (v : Int) < 4294967296; omega, ⟨fun _ => by have hh := hlt; omega, fun _ => by have hh := hlt; omega, fun _ => by have hh := hlt; omega, fun _ => by have hh := hlt; omega, fun _ => by have hh := hlt; omega, fun _ => by have hh := hlt; omega⟩⟩, rfl, hs.mono (by omega) (by first | omega | (simp only [nC]; omega) | (simp only [List.length_cons, List.length_nil]; omega) | (simp only [nC, List.length_cons, List.length_nil]; omega)), HS.out w1 hs hm⟩
    clear hlt hs hm
    go_wp2_with fail
    exact bodyPost_ret (by simp [results, Tryz.results376]) rfl HF.out

set_option maxHeartbeats 800000 in
theorem load1_17 {b o : Nat} {W : Nat → Int} (hr : w.rangeAt b o (rowL 1 W)) (hq : 0 ≤ W 17 ∧ W 17 < 4294967296) :
    Calls Tryz.prog 375 #[.pointer (some ⟨b, o, none⟩), .int .i64 17] w (LdPost (W 17) w) := by
  obtain ⟨x, hx⟩ := Int.eq_ofNat_of_zero_le hq.1
  have h0 : w.cell? ⟨b, o + 21, none⟩ = some (.int .u32 (W 17)) := hr 21 _ rfl
  rw [hx] at h0 hq ⊢
  have q1 := hq.2
  clear hr hx hq
  go_enter Tryz.func375, Tryz.ntmps375
  go_wp2_with fail
  go_ret
  exact ⟨rfl, Below.refl _ _⟩

set_option maxHeartbeats 800000 in
theorem store1_17 {b o : Nat} {W : Nat → Int} (hr : w.rangeAt b o (rowL 1 W)) (hf : ∀ q, w.frozen? ⟨b, q, none⟩ = false) (v : Nat) (hv : v < 18446744073709551616) :
    Calls Tryz.prog 376 #[.pointer (some ⟨b, o, none⟩), .int .i64 17, .int .u64 (v : Int)] w (SrPost 1 17 b o W v w) := by
  have f0 := hf (o + 21)
  have HS : Hid (∀ w' : World, St1 b (o + 21) 1 w w' → w'.rangeAt b (o + 21) [.int .u32 ((v : Int))] → w'.rangeAt b o (rowL 1 (upd W 17 (v : Int)))) := fun w' a c => rangeAt.splice (l1 := [.int .u8 (W 0), .int .u8 (W 1), lo (W 2), hi (W 2), .int .u16 (W 3), .int .u16 (W 4), lo (W 5), hi (W 5), .int .u32 (W 6), lo (W 7), hi (W 7), lo (W 8), hi (W 8), .int .u64 (W 9), .int .u8 (W 10), .int .u64 (W 11), .int .u64 (W 12), .int .u64 (W 13), .int .u64 (W 14), .int .u8 (W 15), .int .u32 (W 16)]) (m := [.int .u32 (W 17)]) (l2 := []) hr a c rfl
  have h0 : w.cell? ⟨b, o + 21, none⟩ = some (.int .u32 (W 17)) := hr 21 _ rfl
  have HP := hideIt (putU32_walk v hv h0 f0)
  clear hr hf h0 f0
  go_enter Tryz.func376, Tryz.ntmps376
  go_wp2_with fail
  go_at_call 372
  refine HP.out.mono ?_
  rintro e w1 (⟨hlt, rfl, hb⟩ | ⟨hlt, rfl, hs, hm⟩)
  · have HF : Hid (SrPost 1 17 b o W v w (.returned (.bool false)) w1) := Or.inl ⟨fun q => by have h1 : (v : Int) < 4294967296 := q.1; have hh := hlt; omega, rfl, hb⟩
    clear hb hlt
    go_wp2_with fail
    exact bodyPost_ret (by simp [results, Tryz.results376]) rfl HF.out
  · have HF : Hid (SrPost 1 17 b o W v w (.returned (.bool true)) w1) := Or.inr ⟨⟨by have hh := hlt; show (v : Int) < 4294967296; omega, ⟨fun _ => by have hh := hlt; omega, fun _ => by have hh := hlt; omega, fun _ => by have hh := hlt; omega, fun _ => by have hh := hlt; omega, fun _ => by have hh := hlt; omega, fun _ => by have hh := hlt; omega⟩⟩, rfl, hs.mono (by omega) (by first | omega | (simp only [nC]; omega) | (simp only [List.length_cons, List.length_nil]; omega) | (simp only [nC, List.length_cons, List.length_nil]; omega)), HS.out w1 hs hm⟩
    clear hlt hs hm
    go_wp2_with fail
    exact bodyPost_ret (by simp [results, Tryz.results376]) rfl HF.out
end
end Go.Proofs.Qxb6500847aGreatDoor.Os
