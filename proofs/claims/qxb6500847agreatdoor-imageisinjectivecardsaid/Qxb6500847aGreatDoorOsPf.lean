/-
  Fields of payloads, by type and number.
-/
import Derived.Test.Qxb6500847aGreatDoorOsPc
import Derived.Test.Qxb6500847aGreatDoorOsPd
import Derived.Test.Qxb6500847aGreatDoorOsPe
namespace Go.Proofs.Qxb6500847aGreatDoor.Os
open Go.RowKit FloorA
set_option maxRecDepth 100000
def ldF : Nat → Nat
  | 0 => 366
  | 1 => 375
  | 2 => 377
  | 3 => 379
  | 4 => 381
  | _ => 385
def stF : Nat → Nat
  | 0 => 367
  | 1 => 376
  | 2 => 378
  | 3 => 380
  | 4 => 382
  | _ => 386
section
variable {w : World} {b o f c j : Nat} {W : Nat → Int}
theorem row0_split (W : Nat → Int) (hc : c < 16) : rowL 0 W = (List.range c).flatMap (fun c => cellL W (7 * c)) ++ cellL W (7 * c) ++ ((List.range (15 - c)).map (fun q => c + 1 + q)).flatMap (fun c => cellL W (7 * c)) := by
  show (List.range 16).flatMap (fun c => cellL W (7 * c)) = _
  have e : 16 = c + (1 + (15 - c)) := by omega
  conv => lhs; rw [e, List.range_add, List.flatMap_append, List.range_add, List.map_append, List.flatMap_append]
  have eB : ((List.range 1).map (fun x => c + x)).flatMap (fun c => cellL W (7 * c)) = cellL W (7 * c) := by simp
  have eC : ((List.range (15 - c)).map (fun x => 1 + x)).map (fun x => c + x) = (List.range (15 - c)).map (fun q => c + 1 + q) := by
    rw [List.map_map]
    apply List.map_congr_left
    intro q _
    simp only [Function.comp]
    omega
  rw [eB, eC, List.append_assoc]
theorem fMax0_mod (f : Nat) : fMax 0 f = fMax 0 (f % 7) := by simp only [fMax, Nat.mod_mod]
theorem flat_len (W : Nat → Int) : ∀ l : List Nat, (l.flatMap (fun c => cellL W (7 * c))).length = 8 * l.length
  | [] => rfl
  | a :: l => by
    rw [List.flatMap_cons, List.length_append, flat_len W l, List.length_cons]
    show 8 + _ = _
    omega
theorem cell_at (h : w.rangeAt b o (rowL 0 W)) (hc : c < 16) : w.rangeAt b (o + c * 8) (cellL (fun j => W (7 * c + j)) 0) := by
  intro q v hv
  have hq : q < 8 := (List.getElem?_eq_some_iff.1 hv).1
  rw [row0_split W hc] at h
  have := h (c * 8 + q) v (by
    rw [List.append_assoc, List.getElem?_append_right (by rw [flat_len, List.length_range]; omega), flat_len, List.length_range, List.getElem?_append_left (by show _ < 8; omega), show c * 8 + q - 8 * c = q by omega]
    exact hv)
  rw [Nat.add_assoc]
  exact this
theorem cell_upd {w' : World} (h : w.rangeAt b o (rowL 0 W)) (hc : c < 16) (hj : j < 7) {v : Int} (hs : St1 b (o + c * 8) 8 w w') (hm : w'.rangeAt b (o + c * 8) (cellL (upd (fun j => W (7 * c + j)) j v) 0)) : w'.rangeAt b o (rowL 0 (upd W (7 * c + j) v)) := by
  have e1 : ∀ d, d ≠ c → cellL (upd W (7 * c + j) v) (7 * d) = cellL W (7 * d) := fun d hd => by
    have n : ∀ q, q < 7 → upd W (7 * c + j) v (7 * d + q) = W (7 * d + q) := fun q hq => by unfold upd; rw [if_neg (by omega)]
    unfold cellL
    rw [show upd W (7 * c + j) v (7 * d) = W (7 * d) from n 0 (by omega), n 1 (by omega), n 2 (by omega), n 3 (by omega), n 4 (by omega), n 5 (by omega), n 6 (by omega)]
  have e2 : cellL (upd W (7 * c + j) v) (7 * c) = cellL (upd (fun j => W (7 * c + j)) j v) 0 := by
    have n : ∀ q, upd W (7 * c + j) v (7 * c + q) = upd (fun j => W (7 * c + j)) j v q := fun q => by
      unfold upd
      by_cases e : q = j
      · rw [if_pos (by omega), if_pos e]
      · rw [if_neg (by omega), if_neg e]
    unfold cellL
    rw [show upd W (7 * c + j) v (7 * c) = upd (fun j => W (7 * c + j)) j v 0 from n 0, n 1, n 2, n 3, n 4, n 5, n 6]
  have e3 : ∀ l : List Nat, c ∉ l → l.flatMap (fun d => cellL (upd W (7 * c + j) v) (7 * d)) = l.flatMap (fun d => cellL W (7 * d)) := fun l hl => by
    induction l with
    | nil => rfl
    | cons a l ih =>
      rw [List.flatMap_cons, List.flatMap_cons, ih (fun q => hl (List.mem_cons_of_mem _ q)), e1 a (fun q => hl (by rw [q]; simp))]
  rw [row0_split _ hc] at h ⊢
  rw [e2, e3 _ (by simp), e3 _ (fun q => by
    obtain ⟨y, _, e⟩ := List.mem_map.1 q
    omega)]
  have ll : ((List.range c).flatMap (fun c => cellL W (7 * c))).length = c * 8 := by rw [flat_len, List.length_range]; omega
  exact rangeAt.splice h (by rw [ll]; exact hs) (by rw [ll]; exact hm) rfl
set_option maxHeartbeats 800000 in
theorem loadC (hr : w.rangeAt b o (rowL 0 W)) (hq : Wq 0 W) (hf : f < 112) :
    Calls Tryz.prog 366 #[.pointer (some ⟨b, o, none⟩), .int .i64 (f : Int)] w (LdPost (W f) w) := by
  have hc : f / 7 < 16 := by omega
  have hcell := cell_at hr hc
  have hqf := hq.1 f hf
  have ef : 7 * (f / 7) + f % 7 = f := by omega
  have HC : Hid (Calls Tryz.prog 368 #[.pointer (some ⟨b, o + f / 7 * 8, none⟩), .int .i64 ((f % 7 : Nat) : Int)] w (LdPost (W f) w)) := by
    have hw : (fun j => W (7 * (f / 7) + j)) (f % 7) = W f := by show W _ = _; rw [ef]
    have h7 : f % 7 < 7 := by omega
    show Calls _ _ _ _ _
    rw [← hw] at hqf ⊢
    have hm := fMax0_mod f
    rw [hm] at hqf
    generalize f % 7 = d at *
    match d, h7, hqf with
    | 0, _, hqf => exact load9_0 hcell hqf
    | 1, _, hqf => exact load9_1 hcell hqf
    | 2, _, hqf => exact load9_2 hcell hqf
    | 3, _, hqf => exact load9_3 hcell hqf
    | 4, _, hqf => exact load9_4 hcell hqf
    | 5, _, hqf => exact load9_5 hcell hqf
    | 6, _, hqf => exact load9_6 hcell hqf
  have l1 : (0 : Int) ≤ (f : Int) / 7 := by omega
  have l2 : (f : Int) / 7 < 16 := by omega
  have l3 : ((f : Int) / 7).toNat = f / 7 := by omega
  have l4 : ((f % 7 : Nat) : Int) = (f : Int) % 7 := by omega
  rw [l4] at HC
  clear hr hq hcell hqf ef l4
  go_enter Tryz.func366, Tryz.ntmps366
  go_wp2_with (go_at_call 368; refine HC.out.mono ?_; rintro e w1 ⟨rfl, hb⟩)
  go_ret
  exact ⟨rfl, hb⟩
set_option maxHeartbeats 800000 in
theorem storeC (hr : w.rangeAt b o (rowL 0 W)) (hfz : ∀ q, w.frozen? ⟨b, q, none⟩ = false) (v : Nat) (hv : v < 18446744073709551616) (hf : f < 112) :
    Calls Tryz.prog 367 #[.pointer (some ⟨b, o, none⟩), .int .i64 (f : Int), .int .u64 (v : Int)] w (SrPost 0 f b o W v w) := by
  have hc : f / 7 < 16 := by omega
  have hcell := cell_at hr hc
  have ef : 7 * (f / 7) + f % 7 = f := by omega
  have hm := fMax0_mod f
  have HC : Hid (Calls Tryz.prog 369 #[.pointer (some ⟨b, o + f / 7 * 8, none⟩), .int .i64 ((f % 7 : Nat) : Int), .int .u64 (v : Int)] w (SrPost 0 f b o W v w)) := by
    have key : Calls Tryz.prog 369 #[.pointer (some ⟨b, o + f / 7 * 8, none⟩), .int .i64 ((f % 7 : Nat) : Int), .int .u64 (v : Int)] w (SrC b (o + f / 7 * 8) (f % 7) (fun j => W (7 * (f / 7) + j)) v w) := by
      have h7 : f % 7 < 7 := by omega
      generalize f % 7 = d at *
      match d, h7 with
      | 0, _ => exact store9_0 hcell hfz v hv
      | 1, _ => exact store9_1 hcell hfz v hv
      | 2, _ => exact store9_2 hcell hfz v hv
      | 3, _ => exact store9_3 hcell hfz v hv
      | 4, _ => exact store9_4 hcell hfz v hv
      | 5, _ => exact store9_5 hcell hfz v hv
      | 6, _ => exact store9_6 hcell hfz v hv
    refine key.mono ?_
    rintro e w1 (⟨h1, rfl, hb⟩ | ⟨h1, rfl, h3, h4⟩)
    · exact Or.inl ⟨fun q => h1 ⟨by have := q.1; rw [hm] at this; exact this, by show cOk (f % 7 % 7) (v : Int); rw [Nat.mod_mod]; exact q.2⟩, rfl, hb⟩
    · have h5 := cell_upd hr hc (j := f % 7) (by omega) h3 h4
      rw [ef] at h5
      exact Or.inr ⟨⟨by rw [hm]; exact h1.1, by have h8 : cOk (f % 7 % 7) (v : Int) := h1.2; rw [Nat.mod_mod] at h8; exact h8⟩, rfl, h3.mono (by omega) (by show _ ≤ o + 128; omega), h5⟩
  have l1 : (0 : Int) ≤ (f : Int) / 7 := by omega
  have l2 : (f : Int) / 7 < 16 := by omega
  have l3 : ((f : Int) / 7).toNat = f / 7 := by omega
  have l4 : ((f % 7 : Nat) : Int) = (f : Int) % 7 := by omega
  rw [l4] at HC
  clear hr hfz hcell ef l4 hm
  go_enter Tryz.func367, Tryz.ntmps367
  go_wp2_with fail
  go_at_call 369
  refine HC.out.mono ?_
  rintro e w1 (⟨h1, rfl, hb⟩ | ⟨h1, rfl, h3, h4⟩)
  · have HF : Hid (SrPost 0 f b o W v w (.returned (.bool false)) w1) := Or.inl ⟨h1, rfl, hb⟩
    clear hb h1
    go_wp2_with fail
    exact bodyPost_ret (by simp [results, Tryz.results367]) rfl HF.out
  · have HF : Hid (SrPost 0 f b o W v w (.returned (.bool true)) w1) := Or.inr ⟨h1, rfl, h3, h4⟩
    clear h1 h3 h4
    go_wp2_with fail
    exact bodyPost_ret (by simp [results, Tryz.results367]) rfl HF.out
theorem load_any {t : Nat} (ht : t < 6) (hr : w.rangeAt b o (rowL t W)) (hq : Wq t W) (hf : f < nF t) :
    Calls Tryz.prog (ldF t) #[.pointer (some ⟨b, o, none⟩), .int .i64 (f : Int)] w (LdPost (W f) w) := by
  match t, ht with
  | 0, _ => exact loadC hr hq hf
  | 1, _ =>
    have hqf := hq.1 f hf
    have hf' : f < 18 := hf
    match f, hf', hqf with
    | 0, _, hqf => exact load1_0 hr hqf
    | 1, _, hqf => exact load1_1 hr hqf
    | 2, _, hqf => exact load1_2 hr hqf
    | 3, _, hqf => exact load1_3 hr hqf
    | 4, _, hqf => exact load1_4 hr hqf
    | 5, _, hqf => exact load1_5 hr hqf
    | 6, _, hqf => exact load1_6 hr hqf
    | 7, _, hqf => exact load1_7 hr hqf
    | 8, _, hqf => exact load1_8 hr hqf
    | 9, _, hqf => exact load1_9 hr hqf
    | 10, _, hqf => exact load1_10 hr hqf
    | 11, _, hqf => exact load1_11 hr hqf
    | 12, _, hqf => exact load1_12 hr hqf
    | 13, _, hqf => exact load1_13 hr hqf
    | 14, _, hqf => exact load1_14 hr hqf
    | 15, _, hqf => exact load1_15 hr hqf
    | 16, _, hqf => exact load1_16 hr hqf
    | 17, _, hqf => exact load1_17 hr hqf
    | f + 18, h, _ => exact absurd h (by omega)
  | 2, _ =>
    have hqf := hq.1 f hf
    have hf' : f < 3 := hf
    match f, hf', hqf with
    | 0, _, hqf => exact load2_0 hr hqf
    | 1, _, hqf => exact load2_1 hr hqf
    | 2, _, hqf => exact load2_2 hr hqf
  | 3, _ =>
    have hqf := hq.1 f hf
    have hf' : f < 4 := hf
    match f, hf', hqf with
    | 0, _, hqf => exact load3_0 hr hqf
    | 1, _, hqf => exact load3_1 hr hqf
    | 2, _, hqf => exact load3_2 hr hqf
    | 3, _, hqf => exact load3_3 hr hqf
  | 4, _ =>
    have hqf := hq.1 f hf
    have hf' : f < 2 := hf
    match f, hf', hqf with
    | 0, _, hqf => exact load4_0 hr hqf
    | 1, _, hqf => exact load4_1 hr hqf
  | 5, _ =>
    have hqf := hq.1 f hf
    have hf' : f < 4 := hf
    match f, hf', hqf with
    | 0, _, hqf => exact load5_0 hr hqf
    | 1, _, hqf => exact load5_1 hr hqf
    | 2, _, hqf => exact load5_2 hr hqf
    | 3, _, hqf => exact load5_3 hr hqf
theorem store_any {t : Nat} (ht : t < 6) (hr : w.rangeAt b o (rowL t W)) (hfz : ∀ q, w.frozen? ⟨b, q, none⟩ = false) (v : Nat) (hv : v < 18446744073709551616) (hf : f < nF t) :
    Calls Tryz.prog (stF t) #[.pointer (some ⟨b, o, none⟩), .int .i64 (f : Int), .int .u64 (v : Int)] w (SrPost t f b o W v w) := by
  match t, ht with
  | 0, _ => exact storeC hr hfz v hv hf
  | 1, _ =>
    have hf' : f < 18 := hf
    match f, hf' with
    | 0, _ => exact store1_0 hr hfz v hv
    | 1, _ => exact store1_1 hr hfz v hv
    | 2, _ => exact store1_2 hr hfz v hv
    | 3, _ => exact store1_3 hr hfz v hv
    | 4, _ => exact store1_4 hr hfz v hv
    | 5, _ => exact store1_5 hr hfz v hv
    | 6, _ => exact store1_6 hr hfz v hv
    | 7, _ => exact store1_7 hr hfz v hv
    | 8, _ => exact store1_8 hr hfz v hv
    | 9, _ => exact store1_9 hr hfz v hv
    | 10, _ => exact store1_10 hr hfz v hv
    | 11, _ => exact store1_11 hr hfz v hv
    | 12, _ => exact store1_12 hr hfz v hv
    | 13, _ => exact store1_13 hr hfz v hv
    | 14, _ => exact store1_14 hr hfz v hv
    | 15, _ => exact store1_15 hr hfz v hv
    | 16, _ => exact store1_16 hr hfz v hv
    | 17, _ => exact store1_17 hr hfz v hv
    | f + 18, h => exact absurd h (by omega)
  | 2, _ =>
    have hf' : f < 3 := hf
    match f, hf' with
    | 0, _ => exact store2_0 hr hfz v hv
    | 1, _ => exact store2_1 hr hfz v hv
    | 2, _ => exact store2_2 hr hfz v hv
  | 3, _ =>
    have hf' : f < 4 := hf
    match f, hf' with
    | 0, _ => exact store3_0 hr hfz v hv
    | 1, _ => exact store3_1 hr hfz v hv
    | 2, _ => exact store3_2 hr hfz v hv
    | 3, _ => exact store3_3 hr hfz v hv
  | 4, _ =>
    have hf' : f < 2 := hf
    match f, hf' with
    | 0, _ => exact store4_0 hr hfz v hv
    | 1, _ => exact store4_1 hr hfz v hv
  | 5, _ =>
    have hf' : f < 4 := hf
    match f, hf' with
    | 0, _ => exact store5_0 hr hfz v hv
    | 1, _ => exact store5_1 hr hfz v hv
    | 2, _ => exact store5_2 hr hfz v hv
    | 3, _ => exact store5_3 hr hfz v hv
end
end Go.Proofs.Qxb6500847aGreatDoor.Os
