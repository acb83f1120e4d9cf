/-
  takeRow, giveRow, tableRoom.
-/
import Derived.Test.Qxb6500847aGreatDoorOsH
namespace Go.Proofs.Qxb6500847aGreatDoor.Os
open Go.RowKit FloorA
set_option maxRecDepth 100000
section
variable {A : Nat} {rb sb : Nat → Nat} {s s' : Av} {tl : Nat → List Int} {ws : Nat → Nat → Nat → Int} {w w' : World}
theorem takeRow_none (A : Nat) (w : World) :
    Calls Tryz.prog 238 #[.pointer (some ⟨A, 0, none⟩), .int .u8 1] w fun e w' => e = .returned (.int .u16 65535) ∧ w' = w := by
  go_enter Tryz.func238, Tryz.ntmps238
  go_wp2_with fail
  go_ret
  exact ⟨rfl, rfl⟩
theorem giveRow_none (A : Nat) (r : Int) (w : World) :
    Calls Tryz.prog 295 #[.pointer (some ⟨A, 0, none⟩), .int .u8 1, .int .u16 r] w fun e w' => e = .returned (.tuple #[]) ∧ w' = w := by
  go_enter Tryz.func295, Tryz.ntmps295
  go_wp2_with fail
  go_end0
  exact ⟨rfl, rfl⟩

theorem takeRow_walk0 (h : Ms w A rb sb s tl ws) {l : List Int} {r : Nat} (hl : tl 0 = l ++ [(r : Int)]) (hr : r < nR 0) :
    Calls Tryz.prog 238 #[.pointer (some ⟨A, 0, none⟩), .int .u8 2] w (TkPost 0 r l A rb sb s tl ws w) := by
  have H := hideIt (take_walk0 h hl hr)
  clear h hl hr
  go_enter Tryz.func238, Tryz.ntmps238
  go_wp2_with fail
  go_at_call 289
  refine H.out.mono ?_
  rintro e w1 ⟨rfl, h1⟩
  have H1 := hideIt h1
  clear h1
  go_wp2_with fail
  go_ret
  exact ⟨rfl, H1.out⟩
theorem giveRow_walk0 (h : Ms w A rb sb s tl ws) (hn : (tl 0).length < nR 0) (x : Int) :
    Calls Tryz.prog 295 #[.pointer (some ⟨A, 0, none⟩), .int .u8 2, .int .u16 x] w (GvPost 0 x A rb sb s tl ws w) := by
  have H := hideIt (give_walk0 h hn x)
  clear h hn
  go_enter Tryz.func295, Tryz.ntmps295
  go_wp2_with fail
  go_at_call 325
  refine H.out.mono ?_
  rintro e w1 ⟨rfl, h1⟩
  have H1 := hideIt h1
  clear h1
  go_wp2_with fail
  exact bodyPost_ret (v := .tuple #[]) (by simp [results, Tryz.results295]) rfl ⟨rfl, H1.out⟩
theorem tableRoom_walk0 (h : Ms w A rb sb s tl ws) :
    Calls Tryz.prog 132 #[.pointer (some ⟨A, 0, none⟩), .int .u8 2] w fun e w' => e = .returned (.int .i64 ((tl 0).length : Int)) ∧ w' = w := by
  have H := hideIt (room_walk0 h)
  clear h
  go_enter Tryz.func132, Tryz.ntmps132
  go_wp2_with (go_at_call 240; refine H.out.mono ?_; rintro e w1 ⟨rfl, hw⟩; obtain rfl := hw.symm)
  go_ret
  exact ⟨rfl, rfl⟩

theorem takeRow_walk1 (h : Ms w A rb sb s tl ws) {l : List Int} {r : Nat} (hl : tl 1 = l ++ [(r : Int)]) (hr : r < nR 1) :
    Calls Tryz.prog 238 #[.pointer (some ⟨A, 0, none⟩), .int .u8 3] w (TkPost 1 r l A rb sb s tl ws w) := by
  have H := hideIt (take_walk1 h hl hr)
  clear h hl hr
  go_enter Tryz.func238, Tryz.ntmps238
  go_wp2_with fail
  go_at_call 290
  refine H.out.mono ?_
  rintro e w1 ⟨rfl, h1⟩
  have H1 := hideIt h1
  clear h1
  go_wp2_with fail
  go_ret
  exact ⟨rfl, H1.out⟩
theorem giveRow_walk1 (h : Ms w A rb sb s tl ws) (hn : (tl 1).length < nR 1) (x : Int) :
    Calls Tryz.prog 295 #[.pointer (some ⟨A, 0, none⟩), .int .u8 3, .int .u16 x] w (GvPost 1 x A rb sb s tl ws w) := by
  have H := hideIt (give_walk1 h hn x)
  clear h hn
  go_enter Tryz.func295, Tryz.ntmps295
  go_wp2_with fail
  go_at_call 326
  refine H.out.mono ?_
  rintro e w1 ⟨rfl, h1⟩
  have H1 := hideIt h1
  clear h1
  go_wp2_with fail
  exact bodyPost_ret (v := .tuple #[]) (by simp [results, Tryz.results295]) rfl ⟨rfl, H1.out⟩
theorem tableRoom_walk1 (h : Ms w A rb sb s tl ws) :
    Calls Tryz.prog 132 #[.pointer (some ⟨A, 0, none⟩), .int .u8 3] w fun e w' => e = .returned (.int .i64 ((tl 1).length : Int)) ∧ w' = w := by
  have H := hideIt (room_walk1 h)
  clear h
  go_enter Tryz.func132, Tryz.ntmps132
  go_wp2_with (go_at_call 241; refine H.out.mono ?_; rintro e w1 ⟨rfl, hw⟩; obtain rfl := hw.symm)
  go_ret
  exact ⟨rfl, rfl⟩

theorem takeRow_walk2 (h : Ms w A rb sb s tl ws) {l : List Int} {r : Nat} (hl : tl 2 = l ++ [(r : Int)]) (hr : r < nR 2) :
    Calls Tryz.prog 238 #[.pointer (some ⟨A, 0, none⟩), .int .u8 4] w (TkPost 2 r l A rb sb s tl ws w) := by
  have H := hideIt (take_walk2 h hl hr)
  clear h hl hr
  go_enter Tryz.func238, Tryz.ntmps238
  go_wp2_with fail
  go_at_call 291
  refine H.out.mono ?_
  rintro e w1 ⟨rfl, h1⟩
  have H1 := hideIt h1
  clear h1
  go_wp2_with fail
  go_ret
  exact ⟨rfl, H1.out⟩
theorem giveRow_walk2 (h : Ms w A rb sb s tl ws) (hn : (tl 2).length < nR 2) (x : Int) :
    Calls Tryz.prog 295 #[.pointer (some ⟨A, 0, none⟩), .int .u8 4, .int .u16 x] w (GvPost 2 x A rb sb s tl ws w) := by
  have H := hideIt (give_walk2 h hn x)
  clear h hn
  go_enter Tryz.func295, Tryz.ntmps295
  go_wp2_with fail
  go_at_call 327
  refine H.out.mono ?_
  rintro e w1 ⟨rfl, h1⟩
  have H1 := hideIt h1
  clear h1
  go_wp2_with fail
  exact bodyPost_ret (v := .tuple #[]) (by simp [results, Tryz.results295]) rfl ⟨rfl, H1.out⟩
theorem tableRoom_walk2 (h : Ms w A rb sb s tl ws) :
    Calls Tryz.prog 132 #[.pointer (some ⟨A, 0, none⟩), .int .u8 4] w fun e w' => e = .returned (.int .i64 ((tl 2).length : Int)) ∧ w' = w := by
  have H := hideIt (room_walk2 h)
  clear h
  go_enter Tryz.func132, Tryz.ntmps132
  go_wp2_with (go_at_call 242; refine H.out.mono ?_; rintro e w1 ⟨rfl, hw⟩; obtain rfl := hw.symm)
  go_ret
  exact ⟨rfl, rfl⟩

theorem takeRow_walk3 (h : Ms w A rb sb s tl ws) {l : List Int} {r : Nat} (hl : tl 3 = l ++ [(r : Int)]) (hr : r < nR 3) :
    Calls Tryz.prog 238 #[.pointer (some ⟨A, 0, none⟩), .int .u8 5] w (TkPost 3 r l A rb sb s tl ws w) := by
  have H := hideIt (take_walk3 h hl hr)
  clear h hl hr
  go_enter Tryz.func238, Tryz.ntmps238
  go_wp2_with fail
  go_at_call 292
  refine H.out.mono ?_
  rintro e w1 ⟨rfl, h1⟩
  have H1 := hideIt h1
  clear h1
  go_wp2_with fail
  go_ret
  exact ⟨rfl, H1.out⟩
theorem giveRow_walk3 (h : Ms w A rb sb s tl ws) (hn : (tl 3).length < nR 3) (x : Int) :
    Calls Tryz.prog 295 #[.pointer (some ⟨A, 0, none⟩), .int .u8 5, .int .u16 x] w (GvPost 3 x A rb sb s tl ws w) := by
  have H := hideIt (give_walk3 h hn x)
  clear h hn
  go_enter Tryz.func295, Tryz.ntmps295
  go_wp2_with fail
  go_at_call 328
  refine H.out.mono ?_
  rintro e w1 ⟨rfl, h1⟩
  have H1 := hideIt h1
  clear h1
  go_wp2_with fail
  exact bodyPost_ret (v := .tuple #[]) (by simp [results, Tryz.results295]) rfl ⟨rfl, H1.out⟩
theorem tableRoom_walk3 (h : Ms w A rb sb s tl ws) :
    Calls Tryz.prog 132 #[.pointer (some ⟨A, 0, none⟩), .int .u8 5] w fun e w' => e = .returned (.int .i64 ((tl 3).length : Int)) ∧ w' = w := by
  have H := hideIt (room_walk3 h)
  clear h
  go_enter Tryz.func132, Tryz.ntmps132
  go_wp2_with (go_at_call 243; refine H.out.mono ?_; rintro e w1 ⟨rfl, hw⟩; obtain rfl := hw.symm)
  go_ret
  exact ⟨rfl, rfl⟩

theorem takeRow_walk4 (h : Ms w A rb sb s tl ws) {l : List Int} {r : Nat} (hl : tl 4 = l ++ [(r : Int)]) (hr : r < nR 4) :
    Calls Tryz.prog 238 #[.pointer (some ⟨A, 0, none⟩), .int .u8 6] w (TkPost 4 r l A rb sb s tl ws w) := by
  have H := hideIt (take_walk4 h hl hr)
  clear h hl hr
  go_enter Tryz.func238, Tryz.ntmps238
  go_wp2_with fail
  go_at_call 293
  refine H.out.mono ?_
  rintro e w1 ⟨rfl, h1⟩
  have H1 := hideIt h1
  clear h1
  go_wp2_with fail
  go_ret
  exact ⟨rfl, H1.out⟩
theorem giveRow_walk4 (h : Ms w A rb sb s tl ws) (hn : (tl 4).length < nR 4) (x : Int) :
    Calls Tryz.prog 295 #[.pointer (some ⟨A, 0, none⟩), .int .u8 6, .int .u16 x] w (GvPost 4 x A rb sb s tl ws w) := by
  have H := hideIt (give_walk4 h hn x)
  clear h hn
  go_enter Tryz.func295, Tryz.ntmps295
  go_wp2_with fail
  go_at_call 329
  refine H.out.mono ?_
  rintro e w1 ⟨rfl, h1⟩
  have H1 := hideIt h1
  clear h1
  go_wp2_with fail
  exact bodyPost_ret (v := .tuple #[]) (by simp [results, Tryz.results295]) rfl ⟨rfl, H1.out⟩
theorem tableRoom_walk4 (h : Ms w A rb sb s tl ws) :
    Calls Tryz.prog 132 #[.pointer (some ⟨A, 0, none⟩), .int .u8 6] w fun e w' => e = .returned (.int .i64 ((tl 4).length : Int)) ∧ w' = w := by
  have H := hideIt (room_walk4 h)
  clear h
  go_enter Tryz.func132, Tryz.ntmps132
  go_wp2_with (go_at_call 244; refine H.out.mono ?_; rintro e w1 ⟨rfl, hw⟩; obtain rfl := hw.symm)
  go_ret
  exact ⟨rfl, rfl⟩

theorem takeRow_walk5 (h : Ms w A rb sb s tl ws) {l : List Int} {r : Nat} (hl : tl 5 = l ++ [(r : Int)]) (hr : r < nR 5) :
    Calls Tryz.prog 238 #[.pointer (some ⟨A, 0, none⟩), .int .u8 7] w (TkPost 5 r l A rb sb s tl ws w) := by
  have H := hideIt (take_walk5 h hl hr)
  clear h hl hr
  go_enter Tryz.func238, Tryz.ntmps238
  go_wp2_with fail
  go_at_call 294
  refine H.out.mono ?_
  rintro e w1 ⟨rfl, h1⟩
  have H1 := hideIt h1
  clear h1
  go_wp2_with fail
  go_ret
  exact ⟨rfl, H1.out⟩
theorem giveRow_walk5 (h : Ms w A rb sb s tl ws) (hn : (tl 5).length < nR 5) (x : Int) :
    Calls Tryz.prog 295 #[.pointer (some ⟨A, 0, none⟩), .int .u8 7, .int .u16 x] w (GvPost 5 x A rb sb s tl ws w) := by
  have H := hideIt (give_walk5 h hn x)
  clear h hn
  go_enter Tryz.func295, Tryz.ntmps295
  go_wp2_with fail
  go_at_call 330
  refine H.out.mono ?_
  rintro e w1 ⟨rfl, h1⟩
  have H1 := hideIt h1
  clear h1
  go_wp2_with fail
  exact bodyPost_ret (v := .tuple #[]) (by simp [results, Tryz.results295]) rfl ⟨rfl, H1.out⟩
theorem tableRoom_walk5 (h : Ms w A rb sb s tl ws) :
    Calls Tryz.prog 132 #[.pointer (some ⟨A, 0, none⟩), .int .u8 7] w fun e w' => e = .returned (.int .i64 ((tl 5).length : Int)) ∧ w' = w := by
  have H := hideIt (room_walk5 h)
  clear h
  go_enter Tryz.func132, Tryz.ntmps132
  go_wp2_with (go_at_call 245; refine H.out.mono ?_; rintro e w1 ⟨rfl, hw⟩; obtain rfl := hw.symm)
  go_ret
  exact ⟨rfl, rfl⟩

/-- takeRow at an object's type. -/
theorem takeRow_walk (h : Ms w A rb sb s tl ws) {k : Nat} (h2 : 2 ≤ k) (h7 : k ≤ 7) {l : List Int} {r : Nat} (hl : tl (k - 2) = l ++ [(r : Int)]) (hr : r < nR (k - 2)) :
    Calls Tryz.prog 238 #[.pointer (some ⟨A, 0, none⟩), .int .u8 (k : Int)] w (TkPost (k - 2) r l A rb sb s tl ws w) := by
  have hk : k = 2 ∨ k = 3 ∨ k = 4 ∨ k = 5 ∨ k = 6 ∨ k = 7 := by omega
  rcases hk with rfl | rfl | rfl | rfl | rfl | rfl
  · exact takeRow_walk0 h hl hr
  · exact takeRow_walk1 h hl hr
  · exact takeRow_walk2 h hl hr
  · exact takeRow_walk3 h hl hr
  · exact takeRow_walk4 h hl hr
  · exact takeRow_walk5 h hl hr
theorem giveRow_walk (h : Ms w A rb sb s tl ws) {k : Nat} (h2 : 2 ≤ k) (h7 : k ≤ 7) (hn : (tl (k - 2)).length < nR (k - 2)) (x : Int) :
    Calls Tryz.prog 295 #[.pointer (some ⟨A, 0, none⟩), .int .u8 (k : Int), .int .u16 x] w (GvPost (k - 2) x A rb sb s tl ws w) := by
  have hk : k = 2 ∨ k = 3 ∨ k = 4 ∨ k = 5 ∨ k = 6 ∨ k = 7 := by omega
  rcases hk with rfl | rfl | rfl | rfl | rfl | rfl
  · exact giveRow_walk0 h hn x
  · exact giveRow_walk1 h hn x
  · exact giveRow_walk2 h hn x
  · exact giveRow_walk3 h hn x
  · exact giveRow_walk4 h hn x
  · exact giveRow_walk5 h hn x
theorem tableRoom_one (A : Nat) (w : World) :
    Calls Tryz.prog 132 #[.pointer (some ⟨A, 0, none⟩), .int .u8 1] w fun e w' => e = .returned (.int .i64 64) ∧ w' = w := by
  go_enter Tryz.func132, Tryz.ntmps132
  go_wp2_with fail
  go_ret
  exact ⟨rfl, rfl⟩
theorem tableRoom_walk (h : Ms w A rb sb s tl ws) {k : Nat} (h2 : 2 ≤ k) (h7 : k ≤ 7) :
    Calls Tryz.prog 132 #[.pointer (some ⟨A, 0, none⟩), .int .u8 (k : Int)] w fun e w' => e = .returned (.int .i64 ((tl (k - 2)).length : Int)) ∧ w' = w := by
  have hk : k = 2 ∨ k = 3 ∨ k = 4 ∨ k = 5 ∨ k = 6 ∨ k = 7 := by omega
  rcases hk with rfl | rfl | rfl | rfl | rfl | rfl
  · exact tableRoom_walk0 h
  · exact tableRoom_walk1 h
  · exact tableRoom_walk2 h
  · exact tableRoom_walk3 h
  · exact tableRoom_walk4 h
  · exact tableRoom_walk5 h
end
end Go.Proofs.Qxb6500847aGreatDoor.Os
