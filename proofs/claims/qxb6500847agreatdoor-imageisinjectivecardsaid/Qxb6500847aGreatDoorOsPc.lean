/-
  Fields of the small payloads.
-/
import Derived.Test.Qxb6500847aGreatDoorOsPb
namespace Go.Proofs.Qxb6500847aGreatDoor.Os
open Go.RowKit FloorA
set_option maxRecDepth 100000
section
variable {w : World}

set_option maxHeartbeats 800000 in
theorem load2_0 {b o : Nat} {W : Nat → Int} (hr : w.rangeAt b o (rowL 2 W)) (hq : 0 ≤ W 0 ∧ W 0 < 256) :
    Calls Tryz.prog 377 #[.pointer (some ⟨b, o, none⟩), .int .i64 0] w (LdPost (W 0) w) := by
  obtain ⟨x, hx⟩ := Int.eq_ofNat_of_zero_le hq.1
  have h0 : w.cell? ⟨b, o, none⟩ = some (.int .u8 (W 0)) := hr 0 _ rfl
  rw [hx] at h0 hq ⊢
  have q1 := hq.2
  clear hr hx hq
  go_enter Tryz.func377, Tryz.ntmps377
  go_wp2_with fail
  go_ret
  exact ⟨rfl, Below.refl _ _⟩

set_option maxHeartbeats 800000 in
theorem store2_0 {b o : Nat} {W : Nat → Int} (hr : w.rangeAt b o (rowL 2 W)) (hf : ∀ q, w.frozen? ⟨b, q, none⟩ = false) (v : Nat) (hv : v < 18446744073709551616) :
    Calls Tryz.prog 378 #[.pointer (some ⟨b, o, none⟩), .int .i64 0, .int .u64 (v : Int)] w (SrPost 2 0 b o W v w) := by
  have f0 := hf o
  have HS : Hid (∀ w' : World, St1 b (o + 0) 1 w w' → w'.rangeAt b (o + 0) [.int .u8 ((v : Int))] → w'.rangeAt b o (rowL 2 (upd W 0 (v : Int)))) := fun w' a c => rangeAt.splice (l1 := []) (m := [.int .u8 (W 0)]) (l2 := [.int .u16 (W 1), .int .u16 (W 2)]) hr a c rfl
  have h0 : w.cell? ⟨b, o, none⟩ = some (.int .u8 (W 0)) := hr 0 _ rfl
  have HP := hideIt (putU8_walk v 2 (by omega) hv h0 f0)
  clear hr hf h0 f0
  go_enter Tryz.func378, Tryz.ntmps378
  go_wp2_with fail
  go_at_call 371
  refine HP.out.mono ?_
  rintro e w1 (⟨hlt, rfl, hb⟩ | ⟨hlt, rfl, hs, hm⟩)
  · have HF : Hid (SrPost 2 0 b o W v w (.returned (.bool false)) w1) := Or.inl ⟨fun q => by have h1 : (v : Int) < 256 := q.1; have h2 := q.2.1 (by omega); have hh := hlt; omega, rfl, hb⟩
    clear hb hlt
    go_wp2_with fail
    exact bodyPost_ret (by simp [results, Tryz.results378]) rfl HF.out
  · have HF : Hid (SrPost 2 0 b o W v w (.returned (.bool true)) w1) := Or.inr ⟨⟨by have hh := hlt; show (v : Int) < 256; omega, ⟨fun _ => by have hh := hlt; omega, fun _ => by have hh := hlt; omega⟩⟩, rfl, hs.mono (by omega) (by first | omega | (simp only [nC]; omega) | (simp only [List.length_cons, List.length_nil]; omega) | (simp only [nC, List.length_cons, List.length_nil]; omega)), HS.out w1 hs hm⟩
    clear hlt hs hm
    go_wp2_with fail
    exact bodyPost_ret (by simp [results, Tryz.results378]) rfl HF.out

set_option maxHeartbeats 800000 in
theorem load2_1 {b o : Nat} {W : Nat → Int} (hr : w.rangeAt b o (rowL 2 W)) (hq : 0 ≤ W 1 ∧ W 1 < 65536) :
    Calls Tryz.prog 377 #[.pointer (some ⟨b, o, none⟩), .int .i64 1] w (LdPost (W 1) w) := by
  obtain ⟨x, hx⟩ := Int.eq_ofNat_of_zero_le hq.1
  have h0 : w.cell? ⟨b, o + 1, none⟩ = some (.int .u16 (W 1)) := hr 1 _ rfl
  rw [hx] at h0 hq ⊢
  have q1 := hq.2
  clear hr hx hq
  go_enter Tryz.func377, Tryz.ntmps377
  go_wp2_with fail
  go_ret
  exact ⟨rfl, Below.refl _ _⟩

set_option maxHeartbeats 800000 in
theorem store2_1 {b o : Nat} {W : Nat → Int} (hr : w.rangeAt b o (rowL 2 W)) (hf : ∀ q, w.frozen? ⟨b, q, none⟩ = false) (v : Nat) (hv : v < 18446744073709551616) :
    Calls Tryz.prog 378 #[.pointer (some ⟨b, o, none⟩), .int .i64 1, .int .u64 (v : Int)] w (SrPost 2 1 b o W v w) := by
  have f0 := hf (o + 1)
  have HS : Hid (∀ w' : World, St1 b (o + 1) 1 w w' → w'.rangeAt b (o + 1) [.int .u16 ((v : Int))] → w'.rangeAt b o (rowL 2 (upd W 1 (v : Int)))) := fun w' a c => rangeAt.splice (l1 := [.int .u8 (W 0)]) (m := [.int .u16 (W 1)]) (l2 := [.int .u16 (W 2)]) hr a c rfl
  have h0 : w.cell? ⟨b, o + 1, none⟩ = some (.int .u16 (W 1)) := hr 1 _ rfl
  have HP := hideIt (putU16_walk v 256 (by omega) hv h0 f0)
  clear hr hf h0 f0
  go_enter Tryz.func378, Tryz.ntmps378
  go_wp2_with fail
  go_at_call 373
  refine HP.out.mono ?_
  rintro e w1 (⟨hlt, rfl, hb⟩ | ⟨hlt, rfl, hs, hm⟩)
  · have HF : Hid (SrPost 2 1 b o W v w (.returned (.bool false)) w1) := Or.inl ⟨fun q => by have h1 : (v : Int) < 65536 := q.1; have h2 := q.2.2 (by omega); have hh := hlt; omega, rfl, hb⟩
    clear hb hlt
    go_wp2_with fail
    exact bodyPost_ret (by simp [results, Tryz.results378]) rfl HF.out
  · have HF : Hid (SrPost 2 1 b o W v w (.returned (.bool true)) w1) := Or.inr ⟨⟨by have hh := hlt; show (v : Int) < 65536; omega, ⟨fun _ => by have hh := hlt; omega, fun _ => by have hh := hlt; omega⟩⟩, rfl, hs.mono (by omega) (by first | omega | (simp only [nC]; omega) | (simp only [List.length_cons, List.length_nil]; omega) | (simp only [nC, List.length_cons, List.length_nil]; omega)), HS.out w1 hs hm⟩
    clear hlt hs hm
    go_wp2_with fail
    exact bodyPost_ret (by simp [results, Tryz.results378]) rfl HF.out

set_option maxHeartbeats 800000 in
theorem load2_2 {b o : Nat} {W : Nat → Int} (hr : w.rangeAt b o (rowL 2 W)) (hq : 0 ≤ W 2 ∧ W 2 < 65536) :
    Calls Tryz.prog 377 #[.pointer (some ⟨b, o, none⟩), .int .i64 2] w (LdPost (W 2) w) := by
  obtain ⟨x, hx⟩ := Int.eq_ofNat_of_zero_le hq.1
  have h0 : w.cell? ⟨b, o + 2, none⟩ = some (.int .u16 (W 2)) := hr 2 _ rfl
  rw [hx] at h0 hq ⊢
  have q1 := hq.2
  clear hr hx hq
  go_enter Tryz.func377, Tryz.ntmps377
  go_wp2_with fail
  go_ret
  exact ⟨rfl, Below.refl _ _⟩

set_option maxHeartbeats 800000 in
theorem store2_2 {b o : Nat} {W : Nat → Int} (hr : w.rangeAt b o (rowL 2 W)) (hf : ∀ q, w.frozen? ⟨b, q, none⟩ = false) (v : Nat) (hv : v < 18446744073709551616) :
    Calls Tryz.prog 378 #[.pointer (some ⟨b, o, none⟩), .int .i64 2, .int .u64 (v : Int)] w (SrPost 2 2 b o W v w) := by
  have f0 := hf (o + 2)
  have HS : Hid (∀ w' : World, St1 b (o + 2) 1 w w' → w'.rangeAt b (o + 2) [.int .u16 ((v : Int))] → w'.rangeAt b o (rowL 2 (upd W 2 (v : Int)))) := fun w' a c => rangeAt.splice (l1 := [.int .u8 (W 0), .int .u16 (W 1)]) (m := [.int .u16 (W 2)]) (l2 := []) hr a c rfl
  have h0 : w.cell? ⟨b, o + 2, none⟩ = some (.int .u16 (W 2)) := hr 2 _ rfl
  have HP := hideIt (putU16_walk v 256 (by omega) hv h0 f0)
  clear hr hf h0 f0
  go_enter Tryz.func378, Tryz.ntmps378
  go_wp2_with fail
  go_at_call 373
  refine HP.out.mono ?_
  rintro e w1 (⟨hlt, rfl, hb⟩ | ⟨hlt, rfl, hs, hm⟩)
  · have HF : Hid (SrPost 2 2 b o W v w (.returned (.bool false)) w1) := Or.inl ⟨fun q => by have h1 : (v : Int) < 65536 := q.1; have h2 := q.2.2 (by omega); have hh := hlt; omega, rfl, hb⟩
    clear hb hlt
    go_wp2_with fail
    exact bodyPost_ret (by simp [results, Tryz.results378]) rfl HF.out
  · have HF : Hid (SrPost 2 2 b o W v w (.returned (.bool true)) w1) := Or.inr ⟨⟨by have hh := hlt; show (v : Int) < 65536; omega, ⟨fun _ => by have hh := hlt; omega, fun _ => by have hh := hlt; omega⟩⟩, rfl, hs.mono (by omega) (by first | omega | (simp only [nC]; omega) | (simp only [List.length_cons, List.length_nil]; omega) | (simp only [nC, List.length_cons, List.length_nil]; omega)), HS.out w1 hs hm⟩
    clear hlt hs hm
    go_wp2_with fail
    exact bodyPost_ret (by simp [results, Tryz.results378]) rfl HF.out

set_option maxHeartbeats 800000 in
theorem load3_0 {b o : Nat} {W : Nat → Int} (hr : w.rangeAt b o (rowL 3 W)) (hq : 0 ≤ W 0 ∧ W 0 < 18446744073709551616) :
    Calls Tryz.prog 379 #[.pointer (some ⟨b, o, none⟩), .int .i64 0] w (LdPost (W 0) w) := by
  obtain ⟨x, hx⟩ := Int.eq_ofNat_of_zero_le hq.1
  have h0 : w.cell? ⟨b, o, none⟩ = some (.int .u64 (W 0)) := hr 0 _ rfl
  rw [hx] at h0 hq ⊢
  have q1 := hq.2
  clear hr hx hq
  go_enter Tryz.func379, Tryz.ntmps379
  go_wp2_with fail
  go_ret
  exact ⟨rfl, Below.refl _ _⟩

set_option maxHeartbeats 800000 in
theorem store3_0 {b o : Nat} {W : Nat → Int} (hr : w.rangeAt b o (rowL 3 W)) (hf : ∀ q, w.frozen? ⟨b, q, none⟩ = false) (v : Nat) (hv : v < 18446744073709551616) :
    Calls Tryz.prog 380 #[.pointer (some ⟨b, o, none⟩), .int .i64 0, .int .u64 (v : Int)] w (SrPost 3 0 b o W v w) := by
  have f0 := hf o
  have HS : Hid (∀ w' : World, St1 b (o + 0) 1 w w' → w'.rangeAt b (o + 0) [.int .u64 ((v : Int))] → w'.rangeAt b o (rowL 3 (upd W 0 (v : Int)))) := fun w' a c => rangeAt.splice (l1 := []) (m := [.int .u64 (W 0)]) (l2 := [.int .u16 (W 1), .int .u16 (W 2), lo (W 3), hi (W 3)]) hr a c rfl
  have h0 : w.cell? ⟨b, o, none⟩ = some (.int .u64 (W 0)) := hr 0 _ rfl
  have H0 := hideIt h0
  have hv' : (v : Int) < 18446744073709551616 := by omega
  clear hr hf
  go_enter Tryz.func380, Tryz.ntmps380
  go_wp2_with fail
  exact bodyPost_ret (by simp [results, Tryz.results380]) rfl (Or.inr ⟨⟨by have hh := hv'; show (v : Int) < 18446744073709551616; omega, ⟨fun _ => by have hh := hv'; omega, fun _ => by have hh := hv'; omega⟩⟩, rfl, (St1.one _ _ _ _).mono (by omega) (by first | omega | (simp only [nC]; omega) | (simp only [List.length_cons, List.length_nil]; omega) | (simp only [nC, List.length_cons, List.length_nil]; omega)), HS.out _ (St1.one _ _ _ _) (one_range H0.out)⟩)

set_option maxHeartbeats 800000 in
theorem load3_1 {b o : Nat} {W : Nat → Int} (hr : w.rangeAt b o (rowL 3 W)) (hq : 0 ≤ W 1 ∧ W 1 < 65536) :
    Calls Tryz.prog 379 #[.pointer (some ⟨b, o, none⟩), .int .i64 1] w (LdPost (W 1) w) := by
  obtain ⟨x, hx⟩ := Int.eq_ofNat_of_zero_le hq.1
  have h0 : w.cell? ⟨b, o + 1, none⟩ = some (.int .u16 (W 1)) := hr 1 _ rfl
  rw [hx] at h0 hq ⊢
  have q1 := hq.2
  clear hr hx hq
  go_enter Tryz.func379, Tryz.ntmps379
  go_wp2_with fail
  go_ret
  exact ⟨rfl, Below.refl _ _⟩

set_option maxHeartbeats 800000 in
theorem store3_1 {b o : Nat} {W : Nat → Int} (hr : w.rangeAt b o (rowL 3 W)) (hf : ∀ q, w.frozen? ⟨b, q, none⟩ = false) (v : Nat) (hv : v < 18446744073709551616) :
    Calls Tryz.prog 380 #[.pointer (some ⟨b, o, none⟩), .int .i64 1, .int .u64 (v : Int)] w (SrPost 3 1 b o W v w) := by
  have f0 := hf (o + 1)
  have HS : Hid (∀ w' : World, St1 b (o + 1) 1 w w' → w'.rangeAt b (o + 1) [.int .u16 ((v : Int))] → w'.rangeAt b o (rowL 3 (upd W 1 (v : Int)))) := fun w' a c => rangeAt.splice (l1 := [.int .u64 (W 0)]) (m := [.int .u16 (W 1)]) (l2 := [.int .u16 (W 2), lo (W 3), hi (W 3)]) hr a c rfl
  have h0 : w.cell? ⟨b, o + 1, none⟩ = some (.int .u16 (W 1)) := hr 1 _ rfl
  have HP := hideIt (putU16_walk v 256 (by omega) hv h0 f0)
  clear hr hf h0 f0
  go_enter Tryz.func380, Tryz.ntmps380
  go_wp2_with fail
  go_at_call 373
  refine HP.out.mono ?_
  rintro e w1 (⟨hlt, rfl, hb⟩ | ⟨hlt, rfl, hs, hm⟩)
  · have HF : Hid (SrPost 3 1 b o W v w (.returned (.bool false)) w1) := Or.inl ⟨fun q => by have h1 : (v : Int) < 65536 := q.1; have h2 := q.2.1 (by omega); have hh := hlt; omega, rfl, hb⟩
    clear hb hlt
    go_wp2_with fail
    exact bodyPost_ret (by simp [results, Tryz.results380]) rfl HF.out
  · have HF : Hid (SrPost 3 1 b o W v w (.returned (.bool true)) w1) := Or.inr ⟨⟨by have hh := hlt; show (v : Int) < 65536; omega, ⟨fun _ => by have hh := hlt; omega, fun _ => by have hh := hlt; omega⟩⟩, rfl, hs.mono (by omega) (by first | omega | (simp only [nC]; omega) | (simp only [List.length_cons, List.length_nil]; omega) | (simp only [nC, List.length_cons, List.length_nil]; omega)), HS.out w1 hs hm⟩
    clear hlt hs hm
    go_wp2_with fail
    exact bodyPost_ret (by simp [results, Tryz.results380]) rfl HF.out

set_option maxHeartbeats 800000 in
theorem load3_2 {b o : Nat} {W : Nat → Int} (hr : w.rangeAt b o (rowL 3 W)) (hq : 0 ≤ W 2 ∧ W 2 < 65536) :
    Calls Tryz.prog 379 #[.pointer (some ⟨b, o, none⟩), .int .i64 2] w (LdPost (W 2) w) := by
  obtain ⟨x, hx⟩ := Int.eq_ofNat_of_zero_le hq.1
  have h0 : w.cell? ⟨b, o + 2, none⟩ = some (.int .u16 (W 2)) := hr 2 _ rfl
  rw [hx] at h0 hq ⊢
  have q1 := hq.2
  clear hr hx hq
  go_enter Tryz.func379, Tryz.ntmps379
  go_wp2_with fail
  go_ret
  exact ⟨rfl, Below.refl _ _⟩

set_option maxHeartbeats 800000 in
theorem store3_2 {b o : Nat} {W : Nat → Int} (hr : w.rangeAt b o (rowL 3 W)) (hf : ∀ q, w.frozen? ⟨b, q, none⟩ = false) (v : Nat) (hv : v < 18446744073709551616) :
    Calls Tryz.prog 380 #[.pointer (some ⟨b, o, none⟩), .int .i64 2, .int .u64 (v : Int)] w (SrPost 3 2 b o W v w) := by
  have f0 := hf (o + 2)
  have HS : Hid (∀ w' : World, St1 b (o + 2) 1 w w' → w'.rangeAt b (o + 2) [.int .u16 ((v : Int))] → w'.rangeAt b o (rowL 3 (upd W 2 (v : Int)))) := fun w' a c => rangeAt.splice (l1 := [.int .u64 (W 0), .int .u16 (W 1)]) (m := [.int .u16 (W 2)]) (l2 := [lo (W 3), hi (W 3)]) hr a c rfl
  have h0 : w.cell? ⟨b, o + 2, none⟩ = some (.int .u16 (W 2)) := hr 2 _ rfl
  have HP := hideIt (putU16_walk v 256 (by omega) hv h0 f0)
  clear hr hf h0 f0
  go_enter Tryz.func380, Tryz.ntmps380
  go_wp2_with fail
  go_at_call 373
  refine HP.out.mono ?_
  rintro e w1 (⟨hlt, rfl, hb⟩ | ⟨hlt, rfl, hs, hm⟩)
  · have HF : Hid (SrPost 3 2 b o W v w (.returned (.bool false)) w1) := Or.inl ⟨fun q => by have h1 : (v : Int) < 65536 := q.1; have h2 := q.2.1 (by omega); have hh := hlt; omega, rfl, hb⟩
    clear hb hlt
    go_wp2_with fail
    exact bodyPost_ret (by simp [results, Tryz.results380]) rfl HF.out
  · have HF : Hid (SrPost 3 2 b o W v w (.returned (.bool true)) w1) := Or.inr ⟨⟨by have hh := hlt; show (v : Int) < 65536; omega, ⟨fun _ => by have hh := hlt; omega, fun _ => by have hh := hlt; omega⟩⟩, rfl, hs.mono (by omega) (by first | omega | (simp only [nC]; omega) | (simp only [List.length_cons, List.length_nil]; omega) | (simp only [nC, List.length_cons, List.length_nil]; omega)), HS.out w1 hs hm⟩
    clear hlt hs hm
    go_wp2_with fail
    exact bodyPost_ret (by simp [results, Tryz.results380]) rfl HF.out

set_option maxHeartbeats 800000 in
theorem load3_3 {b o : Nat} {W : Nat → Int} (hr : w.rangeAt b o (rowL 3 W)) (hq : 0 ≤ W 3 ∧ W 3 < 281474976710656) :
    Calls Tryz.prog 379 #[.pointer (some ⟨b, o, none⟩), .int .i64 3] w (LdPost (W 3) w) := by
  obtain ⟨x, hx⟩ := Int.eq_ofNat_of_zero_le hq.1
  have h0 : w.cell? ⟨b, o + 3, none⟩ = some (lo (W 3)) := hr 3 _ rfl
  have h1 : w.cell? ⟨b, o + 4, none⟩ = some (hi (W 3)) := hr 4 _ rfl
  rw [hx] at h0 h1 hq ⊢
  unfold lo at h0
  unfold hi at h1
  have HP := hideIt (fun W => Pack_walk x (by omega) W)
  clear hr hx
  go_enter Tryz.func379, Tryz.ntmps379
  go_wp2_with (go_at_call 219; refine (HP.out _).mono ?_; rintro e w1 ⟨rfl, hb⟩)
  go_ret
  exact ⟨rfl, hb⟩

set_option maxHeartbeats 800000 in
theorem store3_3 {b o : Nat} {W : Nat → Int} (hr : w.rangeAt b o (rowL 3 W)) (hf : ∀ q, w.frozen? ⟨b, q, none⟩ = false) (v : Nat) (hv : v < 18446744073709551616) :
    Calls Tryz.prog 380 #[.pointer (some ⟨b, o, none⟩), .int .i64 3, .int .u64 (v : Int)] w (SrPost 3 3 b o W v w) := by
  have f0 := hf (o + 3)
  have HS : Hid (∀ w' : World, St1 b (o + 3) 2 w w' → w'.rangeAt b (o + 3) [lo ((v : Int)), hi ((v : Int))] → w'.rangeAt b o (rowL 3 (upd W 3 (v : Int)))) := fun w' a c => rangeAt.splice (l1 := [.int .u64 (W 0), .int .u16 (W 1), .int .u16 (W 2)]) (m := [lo (W 3), hi (W 3)]) (l2 := []) hr a c rfl
  have h0 : w.cell? ⟨b, o + 3, none⟩ = some (lo (W 3)) := hr 3 _ rfl
  have h1 : w.cell? ⟨b, o + 4, none⟩ = some (hi (W 3)) := hr 4 _ rfl
  have f1 := hf (o + 4)
  have HP := hideIt (putRef_walk v hv h0 h1 f0 f1)
  clear hr hf h0 f0 h1 f1
  go_enter Tryz.func380, Tryz.ntmps380
  go_wp2_with fail
  go_at_call 370
  refine HP.out.mono ?_
  rintro e w1 (⟨hlt, rfl, hb⟩ | ⟨hlt, rfl, hs, hm⟩)
  · have HF : Hid (SrPost 3 3 b o W v w (.returned (.bool false)) w1) := Or.inl ⟨fun q => by have h1 : (v : Int) < 281474976710656 := q.1; have h2 := q.2.2 (by omega); have hh := hlt; omega, rfl, hb⟩
    clear hb hlt
    go_wp2_with fail
    exact bodyPost_ret (by simp [results, Tryz.results380]) rfl HF.out
  · have HF : Hid (SrPost 3 3 b o W v w (.returned (.bool true)) w1) := Or.inr ⟨⟨by have hh := hlt; show (v : Int) < 281474976710656; omega, ⟨fun _ => by have hh := hlt; omega, fun _ => by have hh := hlt; omega⟩⟩, rfl, hs.mono (by omega) (by first | omega | (simp only [nC]; omega) | (simp only [List.length_cons, List.length_nil]; omega) | (simp only [nC, List.length_cons, List.length_nil]; omega)), HS.out w1 hs hm⟩
    clear hlt hs hm
    go_wp2_with fail
    exact bodyPost_ret (by simp [results, Tryz.results380]) rfl HF.out

set_option maxHeartbeats 800000 in
theorem load4_0 {b o : Nat} {W : Nat → Int} (hr : w.rangeAt b o (rowL 4 W)) (hq : 0 ≤ W 0 ∧ W 0 < 281474976710656) :
    Calls Tryz.prog 381 #[.pointer (some ⟨b, o, none⟩), .int .i64 0] w (LdPost (W 0) w) := by
  obtain ⟨x, hx⟩ := Int.eq_ofNat_of_zero_le hq.1
  have h0 : w.cell? ⟨b, o, none⟩ = some (lo (W 0)) := hr 0 _ rfl
  have h1 : w.cell? ⟨b, o + 1, none⟩ = some (hi (W 0)) := hr 1 _ rfl
  rw [hx] at h0 h1 hq ⊢
  unfold lo at h0
  unfold hi at h1
  have HP := hideIt (fun W => Pack_walk x (by omega) W)
  clear hr hx
  go_enter Tryz.func381, Tryz.ntmps381
  go_wp2_with (go_at_call 219; refine (HP.out _).mono ?_; rintro e w1 ⟨rfl, hb⟩)
  go_ret
  exact ⟨rfl, hb⟩

set_option maxHeartbeats 800000 in
theorem store4_0 {b o : Nat} {W : Nat → Int} (hr : w.rangeAt b o (rowL 4 W)) (hf : ∀ q, w.frozen? ⟨b, q, none⟩ = false) (v : Nat) (hv : v < 18446744073709551616) :
    Calls Tryz.prog 382 #[.pointer (some ⟨b, o, none⟩), .int .i64 0, .int .u64 (v : Int)] w (SrPost 4 0 b o W v w) := by
  have f0 := hf o
  have HS : Hid (∀ w' : World, St1 b (o + 0) 2 w w' → w'.rangeAt b (o + 0) [lo ((v : Int)), hi ((v : Int))] → w'.rangeAt b o (rowL 4 (upd W 0 (v : Int)))) := fun w' a c => rangeAt.splice (l1 := []) (m := [lo (W 0), hi (W 0)]) (l2 := [bo (W 1)]) hr a c rfl
  have h0 : w.cell? ⟨b, o, none⟩ = some (lo (W 0)) := hr 0 _ rfl
  have h1 : w.cell? ⟨b, o + 1, none⟩ = some (hi (W 0)) := hr 1 _ rfl
  have f1 := hf (o + 1)
  have HP := hideIt (putRef_walk v hv h0 h1 f0 f1)
  clear hr hf h0 f0 h1 f1
  go_enter Tryz.func382, Tryz.ntmps382
  go_wp2_with fail
  go_at_call 370
  refine HP.out.mono ?_
  rintro e w1 (⟨hlt, rfl, hb⟩ | ⟨hlt, rfl, hs, hm⟩)
  · have HF : Hid (SrPost 4 0 b o W v w (.returned (.bool false)) w1) := Or.inl ⟨fun q => by have h1 : (v : Int) < 281474976710656 := q.1; have h2 := q.2 rfl; have hh := hlt; omega, rfl, hb⟩
    clear hb hlt
    go_wp2_with fail
    exact bodyPost_ret (by simp [results, Tryz.results382]) rfl HF.out
  · have HF : Hid (SrPost 4 0 b o W v w (.returned (.bool true)) w1) := Or.inr ⟨⟨by have hh := hlt; show (v : Int) < 281474976710656; omega, fun _ => by have hh := hlt; omega⟩, rfl, hs.mono (by omega) (by first | omega | (simp only [nC]; omega) | (simp only [List.length_cons, List.length_nil]; omega) | (simp only [nC, List.length_cons, List.length_nil]; omega)), HS.out w1 hs hm⟩
    clear hlt hs hm
    go_wp2_with fail
    exact bodyPost_ret (by simp [results, Tryz.results382]) rfl HF.out

set_option maxHeartbeats 800000 in
theorem load4_1 {b o : Nat} {W : Nat → Int} (hr : w.rangeAt b o (rowL 4 W)) (hq : 0 ≤ W 1 ∧ W 1 < 2) :
    Calls Tryz.prog 381 #[.pointer (some ⟨b, o, none⟩), .int .i64 1] w (LdPost (W 1) w) := by
  obtain ⟨x, hx⟩ := Int.eq_ofNat_of_zero_le hq.1
  have h0 : w.cell? ⟨b, o + 2, none⟩ = some (bo (W 1)) := hr 2 _ rfl
  have HP := hideIt (fun W' => boolWord_walk (W 1) hq W')
  have HF : Hid (bo (W 1) = .bool (decide (W 1 = 1))) := rfl
  rw [HF.out] at h0 HP
  generalize decide (W 1 = 1) = y at *
  generalize W 1 = z at *
  clear hr hx HF
  go_enter Tryz.func381, Tryz.ntmps381
  go_wp2_with (go_at_call 383; refine (HP.out _).mono ?_; rintro e w1 ⟨rfl, hw⟩; obtain rfl := hw.symm)
  go_ret
  exact ⟨rfl, Below.refl _ _⟩

set_option maxHeartbeats 800000 in
theorem store4_1 {b o : Nat} {W : Nat → Int} (hr : w.rangeAt b o (rowL 4 W)) (hf : ∀ q, w.frozen? ⟨b, q, none⟩ = false) (v : Nat) (hv : v < 18446744073709551616) :
    Calls Tryz.prog 382 #[.pointer (some ⟨b, o, none⟩), .int .i64 1, .int .u64 (v : Int)] w (SrPost 4 1 b o W v w) := by
  have f0 := hf (o + 2)
  have HS : Hid (∀ w' : World, St1 b (o + 2) 1 w w' → w'.rangeAt b (o + 2) [bo ((v : Int))] → w'.rangeAt b o (rowL 4 (upd W 1 (v : Int)))) := fun w' a c => rangeAt.splice (l1 := [lo (W 0), hi (W 0)]) (m := [bo (W 1)]) (l2 := []) hr a c rfl
  have h0 : w.cell? ⟨b, o + 2, none⟩ = some (bo (W 1)) := hr 2 _ rfl
  have HP := hideIt (putBool_walk v hv h0 f0)
  clear hr hf h0 f0
  go_enter Tryz.func382, Tryz.ntmps382
  go_wp2_with fail
  go_at_call 384
  refine HP.out.mono ?_
  rintro e w1 (⟨hlt, rfl, hb⟩ | ⟨hlt, rfl, hs, hm⟩)
  · have HF : Hid (SrPost 4 1 b o W v w (.returned (.bool false)) w1) := Or.inl ⟨fun q => by have h1 : (v : Int) < 2 := q.1; have hh := hlt; omega, rfl, hb⟩
    clear hb hlt
    go_wp2_with fail
    exact bodyPost_ret (by simp [results, Tryz.results382]) rfl HF.out
  · have HF : Hid (SrPost 4 1 b o W v w (.returned (.bool true)) w1) := Or.inr ⟨⟨by have hh := hlt; show (v : Int) < 2; omega, fun _ => by have hh := hlt; omega⟩, rfl, hs.mono (by omega) (by first | omega | (simp only [nC]; omega) | (simp only [List.length_cons, List.length_nil]; omega) | (simp only [nC, List.length_cons, List.length_nil]; omega)), HS.out w1 hs hm⟩
    clear hlt hs hm
    go_wp2_with fail
    exact bodyPost_ret (by simp [results, Tryz.results382]) rfl HF.out

set_option maxHeartbeats 800000 in
theorem load5_0 {b o : Nat} {W : Nat → Int} (hr : w.rangeAt b o (rowL 5 W)) (hq : 0 ≤ W 0 ∧ W 0 < 256) :
    Calls Tryz.prog 385 #[.pointer (some ⟨b, o, none⟩), .int .i64 0] w (LdPost (W 0) w) := by
  obtain ⟨x, hx⟩ := Int.eq_ofNat_of_zero_le hq.1
  have h0 : w.cell? ⟨b, o, none⟩ = some (.int .u8 (W 0)) := hr 0 _ rfl
  rw [hx] at h0 hq ⊢
  have q1 := hq.2
  clear hr hx hq
  go_enter Tryz.func385, Tryz.ntmps385
  go_wp2_with fail
  go_ret
  exact ⟨rfl, Below.refl _ _⟩

set_option maxHeartbeats 800000 in
theorem store5_0 {b o : Nat} {W : Nat → Int} (hr : w.rangeAt b o (rowL 5 W)) (hf : ∀ q, w.frozen? ⟨b, q, none⟩ = false) (v : Nat) (hv : v < 18446744073709551616) :
    Calls Tryz.prog 386 #[.pointer (some ⟨b, o, none⟩), .int .i64 0, .int .u64 (v : Int)] w (SrPost 5 0 b o W v w) := by
  have f0 := hf o
  have HS : Hid (∀ w' : World, St1 b (o + 0) 1 w w' → w'.rangeAt b (o + 0) [.int .u8 ((v : Int))] → w'.rangeAt b o (rowL 5 (upd W 0 (v : Int)))) := fun w' a c => rangeAt.splice (l1 := []) (m := [.int .u8 (W 0)]) (l2 := [lo (W 1), hi (W 1), .int .u64 (W 2), bo (W 3)]) hr a c rfl
  have h0 : w.cell? ⟨b, o, none⟩ = some (.int .u8 (W 0)) := hr 0 _ rfl
  have HP := hideIt (putU8_walk v 31 (by omega) hv h0 f0)
  clear hr hf h0 f0
  go_enter Tryz.func386, Tryz.ntmps386
  go_wp2_with fail
  go_at_call 371
  refine HP.out.mono ?_
  rintro e w1 (⟨hlt, rfl, hb⟩ | ⟨hlt, rfl, hs, hm⟩)
  · have HF : Hid (SrPost 5 0 b o W v w (.returned (.bool false)) w1) := Or.inl ⟨fun q => by have h1 : (v : Int) < 256 := q.1; have h2 := q.2.1 rfl; have hh := hlt; omega, rfl, hb⟩
    clear hb hlt
    go_wp2_with fail
    exact bodyPost_ret (by simp [results, Tryz.results386]) rfl HF.out
  · have HF : Hid (SrPost 5 0 b o W v w (.returned (.bool true)) w1) := Or.inr ⟨⟨by have hh := hlt; show (v : Int) < 256; omega, ⟨fun _ => by have hh := hlt; omega, fun _ => by have hh := hlt; omega⟩⟩, rfl, hs.mono (by omega) (by first | omega | (simp only [nC]; omega) | (simp only [List.length_cons, List.length_nil]; omega) | (simp only [nC, List.length_cons, List.length_nil]; omega)), HS.out w1 hs hm⟩
    clear hlt hs hm
    go_wp2_with fail
    exact bodyPost_ret (by simp [results, Tryz.results386]) rfl HF.out

set_option maxHeartbeats 800000 in
theorem load5_1 {b o : Nat} {W : Nat → Int} (hr : w.rangeAt b o (rowL 5 W)) (hq : 0 ≤ W 1 ∧ W 1 < 281474976710656) :
    Calls Tryz.prog 385 #[.pointer (some ⟨b, o, none⟩), .int .i64 1] w (LdPost (W 1) w) := by
  obtain ⟨x, hx⟩ := Int.eq_ofNat_of_zero_le hq.1
  have h0 : w.cell? ⟨b, o + 1, none⟩ = some (lo (W 1)) := hr 1 _ rfl
  have h1 : w.cell? ⟨b, o + 2, none⟩ = some (hi (W 1)) := hr 2 _ rfl
  rw [hx] at h0 h1 hq ⊢
  unfold lo at h0
  unfold hi at h1
  have HP := hideIt (fun W => Pack_walk x (by omega) W)
  clear hr hx
  go_enter Tryz.func385, Tryz.ntmps385
  go_wp2_with (go_at_call 219; refine (HP.out _).mono ?_; rintro e w1 ⟨rfl, hb⟩)
  go_ret
  exact ⟨rfl, hb⟩

set_option maxHeartbeats 800000 in
theorem store5_1 {b o : Nat} {W : Nat → Int} (hr : w.rangeAt b o (rowL 5 W)) (hf : ∀ q, w.frozen? ⟨b, q, none⟩ = false) (v : Nat) (hv : v < 18446744073709551616) :
    Calls Tryz.prog 386 #[.pointer (some ⟨b, o, none⟩), .int .i64 1, .int .u64 (v : Int)] w (SrPost 5 1 b o W v w) := by
  have f0 := hf (o + 1)
  have HS : Hid (∀ w' : World, St1 b (o + 1) 2 w w' → w'.rangeAt b (o + 1) [lo ((v : Int)), hi ((v : Int))] → w'.rangeAt b o (rowL 5 (upd W 1 (v : Int)))) := fun w' a c => rangeAt.splice (l1 := [.int .u8 (W 0)]) (m := [lo (W 1), hi (W 1)]) (l2 := [.int .u64 (W 2), bo (W 3)]) hr a c rfl
  have h0 : w.cell? ⟨b, o + 1, none⟩ = some (lo (W 1)) := hr 1 _ rfl
  have h1 : w.cell? ⟨b, o + 2, none⟩ = some (hi (W 1)) := hr 2 _ rfl
  have f1 := hf (o + 2)
  have HP := hideIt (putRef_walk v hv h0 h1 f0 f1)
  clear hr hf h0 f0 h1 f1
  go_enter Tryz.func386, Tryz.ntmps386
  go_wp2_with fail
  go_at_call 370
  refine HP.out.mono ?_
  rintro e w1 (⟨hlt, rfl, hb⟩ | ⟨hlt, rfl, hs, hm⟩)
  · have HF : Hid (SrPost 5 1 b o W v w (.returned (.bool false)) w1) := Or.inl ⟨fun q => by have h1 : (v : Int) < 281474976710656 := q.1; have h2 := q.2.2 rfl; have hh := hlt; omega, rfl, hb⟩
    clear hb hlt
    go_wp2_with fail
    exact bodyPost_ret (by simp [results, Tryz.results386]) rfl HF.out
  · have HF : Hid (SrPost 5 1 b o W v w (.returned (.bool true)) w1) := Or.inr ⟨⟨by have hh := hlt; show (v : Int) < 281474976710656; omega, ⟨fun _ => by have hh := hlt; omega, fun _ => by have hh := hlt; omega⟩⟩, rfl, hs.mono (by omega) (by first | omega | (simp only [nC]; omega) | (simp only [List.length_cons, List.length_nil]; omega) | (simp only [nC, List.length_cons, List.length_nil]; omega)), HS.out w1 hs hm⟩
    clear hlt hs hm
    go_wp2_with fail
    exact bodyPost_ret (by simp [results, Tryz.results386]) rfl HF.out

set_option maxHeartbeats 800000 in
theorem load5_2 {b o : Nat} {W : Nat → Int} (hr : w.rangeAt b o (rowL 5 W)) (hq : 0 ≤ W 2 ∧ W 2 < 18446744073709551616) :
    Calls Tryz.prog 385 #[.pointer (some ⟨b, o, none⟩), .int .i64 2] w (LdPost (W 2) w) := by
  obtain ⟨x, hx⟩ := Int.eq_ofNat_of_zero_le hq.1
  have h0 : w.cell? ⟨b, o + 3, none⟩ = some (.int .u64 (W 2)) := hr 3 _ rfl
  rw [hx] at h0 hq ⊢
  have q1 := hq.2
  clear hr hx hq
  go_enter Tryz.func385, Tryz.ntmps385
  go_wp2_with fail
  go_ret
  exact ⟨rfl, Below.refl _ _⟩

set_option maxHeartbeats 800000 in
theorem store5_2 {b o : Nat} {W : Nat → Int} (hr : w.rangeAt b o (rowL 5 W)) (hf : ∀ q, w.frozen? ⟨b, q, none⟩ = false) (v : Nat) (hv : v < 18446744073709551616) :
    Calls Tryz.prog 386 #[.pointer (some ⟨b, o, none⟩), .int .i64 2, .int .u64 (v : Int)] w (SrPost 5 2 b o W v w) := by
  have f0 := hf (o + 3)
  have HS : Hid (∀ w' : World, St1 b (o + 3) 1 w w' → w'.rangeAt b (o + 3) [.int .u64 ((v : Int))] → w'.rangeAt b o (rowL 5 (upd W 2 (v : Int)))) := fun w' a c => rangeAt.splice (l1 := [.int .u8 (W 0), lo (W 1), hi (W 1)]) (m := [.int .u64 (W 2)]) (l2 := [bo (W 3)]) hr a c rfl
  have h0 : w.cell? ⟨b, o + 3, none⟩ = some (.int .u64 (W 2)) := hr 3 _ rfl
  have H0 := hideIt h0
  have hv' : (v : Int) < 18446744073709551616 := by omega
  clear hr hf
  go_enter Tryz.func386, Tryz.ntmps386
  go_wp2_with fail
  exact bodyPost_ret (by simp [results, Tryz.results386]) rfl (Or.inr ⟨⟨by have hh := hv'; show (v : Int) < 18446744073709551616; omega, ⟨fun _ => by have hh := hv'; omega, fun _ => by have hh := hv'; omega⟩⟩, rfl, (St1.one _ _ _ _).mono (by omega) (by first | omega | (simp only [nC]; omega) | (simp only [List.length_cons, List.length_nil]; omega) | (simp only [nC, List.length_cons, List.length_nil]; omega)), HS.out _ (St1.one _ _ _ _) (one_range H0.out)⟩)

set_option maxHeartbeats 800000 in
theorem load5_3 {b o : Nat} {W : Nat → Int} (hr : w.rangeAt b o (rowL 5 W)) (hq : 0 ≤ W 3 ∧ W 3 < 2) :
    Calls Tryz.prog 385 #[.pointer (some ⟨b, o, none⟩), .int .i64 3] w (LdPost (W 3) w) := by
  obtain ⟨x, hx⟩ := Int.eq_ofNat_of_zero_le hq.1
  have h0 : w.cell? ⟨b, o + 4, none⟩ = some (bo (W 3)) := hr 4 _ rfl
  have HP := hideIt (fun W' => boolWord_walk (W 3) hq W')
  have HF : Hid (bo (W 3) = .bool (decide (W 3 = 1))) := rfl
  rw [HF.out] at h0 HP
  generalize decide (W 3 = 1) = y at *
  generalize W 3 = z at *
  clear hr hx HF
  go_enter Tryz.func385, Tryz.ntmps385
  go_wp2_with (go_at_call 383; refine (HP.out _).mono ?_; rintro e w1 ⟨rfl, hw⟩; obtain rfl := hw.symm)
  go_ret
  exact ⟨rfl, Below.refl _ _⟩

set_option maxHeartbeats 800000 in
theorem store5_3 {b o : Nat} {W : Nat → Int} (hr : w.rangeAt b o (rowL 5 W)) (hf : ∀ q, w.frozen? ⟨b, q, none⟩ = false) (v : Nat) (hv : v < 18446744073709551616) :
    Calls Tryz.prog 386 #[.pointer (some ⟨b, o, none⟩), .int .i64 3, .int .u64 (v : Int)] w (SrPost 5 3 b o W v w) := by
  have f0 := hf (o + 4)
  have HS : Hid (∀ w' : World, St1 b (o + 4) 1 w w' → w'.rangeAt b (o + 4) [bo ((v : Int))] → w'.rangeAt b o (rowL 5 (upd W 3 (v : Int)))) := fun w' a c => rangeAt.splice (l1 := [.int .u8 (W 0), lo (W 1), hi (W 1), .int .u64 (W 2)]) (m := [bo (W 3)]) (l2 := []) hr a c rfl
  have h0 : w.cell? ⟨b, o + 4, none⟩ = some (bo (W 3)) := hr 4 _ rfl
  have HP := hideIt (putBool_walk v hv h0 f0)
  clear hr hf h0 f0
  go_enter Tryz.func386, Tryz.ntmps386
  go_wp2_with fail
  go_at_call 384
  refine HP.out.mono ?_
  rintro e w1 (⟨hlt, rfl, hb⟩ | ⟨hlt, rfl, hs, hm⟩)
  · have HF : Hid (SrPost 5 3 b o W v w (.returned (.bool false)) w1) := Or.inl ⟨fun q => by have h1 : (v : Int) < 2 := q.1; have hh := hlt; omega, rfl, hb⟩
    clear hb hlt
    go_wp2_with fail
    exact bodyPost_ret (by simp [results, Tryz.results386]) rfl HF.out
  · have HF : Hid (SrPost 5 3 b o W v w (.returned (.bool true)) w1) := Or.inr ⟨⟨by have hh := hlt; show (v : Int) < 2; omega, ⟨fun _ => by have hh := hlt; omega, fun _ => by have hh := hlt; omega⟩⟩, rfl, hs.mono (by omega) (by first | omega | (simp only [nC]; omega) | (simp only [List.length_cons, List.length_nil]; omega) | (simp only [nC, List.length_cons, List.length_nil]; omega)), HS.out w1 hs hm⟩
    clear hlt hs hm
    go_wp2_with fail
    exact bodyPost_ret (by simp [results, Tryz.results386]) rfl HF.out
end
end Go.Proofs.Qxb6500847aGreatDoor.Os
