/-
  The model's languages: Has.
-/
import Derived.Test.Qxb6500848aGreatDoorMaA
namespace Go.Proofs.Qxb6500848aGreatDoor
open Go.RowKit Pl Go.Maps
set_option maxRecDepth 100000

set_option maxHeartbeats 2000000 in
theorem mhas_walk {X : Nat → Prop} {w : World} {ab nb : Nat} {B : List Nd} (hS : St X w ab nb 65536 B) {x : Int} (hx : Valid B x) {X1 X2 : Nat → Prop} {pa : Option Addr} {pn pc : Nat} {pw : Word} (hI : Ints X1 w (.slice pa pn pc) pw) (hN : Nz (.slice pa pn pc)) (hl : pw.length ≤ 100)
    {qa : Option Addr} {qn qc : Nat} {qw : Word} (hJ : Ints X2 w (.slice qa qn qc) qw) (hM : Nz (.slice qa qn qc)) (hk : qw.length ≤ 100) :
    Calls Tryz.prog 110 #[.pointer (some ⟨ab, 0, none⟩), .agg #[.int .i64 x, .slice pa pn pc], .slice qa qn qc] w (Says (Alph (pw ++ qw) ∧ lang B x (pw ++ qw)) w) := by
  have s1 : ∀ (W : World) (o : Obj), (W.alloc o).heap.size = W.heap.size + 1 := Deep.nblk_alloc
  have hw1 : Below w.heap.size w (w.alloc (.cells #[.int .i64 x, .slice pa pn pc] 150)) := alloc_below _
  have hb1 : (w.alloc (.cells #[.int .i64 x, .slice pa pn pc] 150)).heap[w.heap.size]? = some (.cells #[.int .i64 x, .slice pa pn pc] 150 (0, 0)) := heap_new _ _
  obtain ⟨pq, hpq⟩ : ∃ l : Word, pw ++ qw = l := ⟨_, rfl⟩
  rw [hpq]
  have HI := hideIt hI
  have HN := hideIt hN
  have HJ := hideIt hJ
  have HM := hideIt hM
  have HS := hideIt hS
  have Hx := hideIt hx
  clear hI hN hJ hM hS hx
  go_enter Tryz.func110, Tryz.ntmps110
  go_wp2_with fail
  generalize (w.alloc (.cells #[.int .i64 x, .slice pa pn pc] 150)) = w1 at *
  have b0 := box_cell hb1 0
  have b1 := box_cell hb1 1
  simp only [List.getElem?_toArray, List.getElem?_cons_zero, List.getElem?_cons_succ] at b0 b1
  have HI1 : Hid (∀ W, Below w1.heap.size w1 W → Ints X1 W (.slice pa pn pc) pw) := fun W hW => HI.out.below (hw1.trans (hW.mono hw1.size)) (Nat.le_refl _)
  have HJ1 : Hid (∀ W, Below w1.heap.size w1 W → Ints X2 W (.slice qa qn qc) qw) := fun W hW => HJ.out.below (hw1.trans (hW.mono hw1.size)) (Nat.le_refl _)
  have HS1 : Hid (∀ W, Below w1.heap.size w1 W → St X W ab nb 65536 B) := fun W hW => HS.out.below (hw1.trans (hW.mono hw1.size)) (Nat.le_refl _)
  have HXl : Hid (∀ b, X b → b < w1.heap.size) := fun b hb => Nat.lt_of_lt_of_le (HS.out.xlt b hb) hw1.size
  have HW1 := hideIt hw1
  have BA : Hid (∀ o : Obj, Below w1.heap.size w1 (w1.alloc o).drew) := fun o => (alloc_below _).trans ((below_d _).mono (alloc_below _).size)
  have RA : Hid ((w1.alloc (.cells #[] 3)).drew.ownsRow w1.heap.size 3 1 (.slice (some ⟨w1.heap.size, 0, none⟩) 0 0) 0 []) := row_box ((below_d _).block _ (by rw [s1]; omega) |>.trans (heap_new _ _)) (Nat.le_refl _)
  have lb : w.heap.size < w1.heap.size := heap_lt hb1
  have N1 : Hid (0 + pw.length ≤ 1000000) := by show _ ≤ _; omega
  have N2 : Hid (pw.length + qw.length ≤ 1000000) := by show _ ≤ _; omega
  have N3 : Hid (pq.length ≤ 1000) := by show _ ≤ _; rw [← hpq]; simp; omega
  have E3 : Hid (pw.length + qw.length = pq.length) := by show _ = _; rw [← hpq]; simp
  have E4 : Hid (pw.map encI ++ qw.map encI = pq.map encI) := by show _ = _; rw [← hpq]; simp
  clear hw1 hb1 s1 hpq
  go_region_held3 (fun w' => w'.cell? ⟨w.heap.size, 0, none⟩ = some (.int .i64 x) ∧ w'.cell? ⟨w.heap.size, 1, none⟩ = some (.slice pa pn pc)) (go_keep)
    (first
      | (refine step_append_word rfl (.tmp 10) (.tmp 12) rfl w1.heap.size _ _ _ rfl RA.out X1 _ pw rfl (HI1.out _ (BA.out _)) HN.out N1.out (BA.out _).size pw.length (Nat.zero_add _) _ rfl ?_; intro ad5 cap5 w5 hown hgr; have H5 := hideIt hown; have HB5 := hideIt ((BA.out _).grown hgr (BA.out _).size (fun q e => (ownsRow_block RA.out e).1)); have q0 := (HB5.out.cell (p := ⟨w.heap.size, 0, none⟩) lb).trans b0; have q1 := (HB5.out.cell (p := ⟨w.heap.size, 1, none⟩) lb).trans b1; clear hown hgr)
      | (refine step_append_word rfl (.tmp 13) (.tmp 14) rfl w1.heap.size _ _ _ rfl H5.out X2 _ qw rfl (HJ1.out _ HB5.out) HM.out N2.out HB5.out.size pq.length E3.out _ E4.out ?_; intro ad6 cap6 w6 hown hgr; have H6 := hideIt hown; have HB6 := hideIt (HB5.out.grown hgr HB5.out.size (fun q e => (ownsRow_block H5.out e).1)); have q0 := (HB6.out.cell (p := ⟨w.heap.size, 0, none⟩) lb).trans b0; have q1 := (HB6.out.cell (p := ⟨w.heap.size, 1, none⟩) lb).trans b1; clear hown hgr)
      | (go_at_call 41; refine (has_walk (HS1.out _ HB6.out) ((own_intsT H6.out).1.more (fun b hb => HXl.out b)) N3.out Hx.out).mono ?_; rintro e w7 ⟨b, rfl, hb', hB7'⟩; have HSay := hideIt (And.intro hb' hB7'); have q0 := (hB7'.cell (p := ⟨w.heap.size, 0, none⟩) (Nat.lt_of_lt_of_le lb HB6.out.size)).trans q0; have q1 := (hB7'.cell (p := ⟨w.heap.size, 1, none⟩) (Nat.lt_of_lt_of_le lb HB6.out.size)).trans q1; clear hb' hB7'))
  all_goals (try go_wp2_with fail)
  all_goals go_ret
  all_goals exact ⟨b, rfl, HSay.out.1, (HW1.out.trans (HB6.out.mono HW1.out.size)).trans (HSay.out.2.mono (Nat.le_trans HW1.out.size HB6.out.size))⟩
end Go.Proofs.Qxb6500848aGreatDoor
