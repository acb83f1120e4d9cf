/-
  Owners, exactly.
-/
import Derived.Test.Qxb6500847aGreatDoorOxQa
import Derived.Test.Qxb6500847aGreatDoorOsQc
namespace Go.Proofs.Qxb6500847aGreatDoor.Os
open Go.RowKit FloorA
set_option maxRecDepth 100000
section
variable {A : Nat} {rb sb : Nat → Nat} {s : Av} {tl : Nat → List Int} {ws : Nat → Nat → Nat → Int} {w : World} {L : Nat → List Nat} {n : Nat}
/-- References that a call owns. -/
def OwnQ (base : Nat) (w : World) (v : Value) (l : List (Nat × Int)) : Prop := w.ownsRow base 32 2 v l.length (refL l)
theorem OwnQ.shape {base : Nat} {w : World} {v : Value} {l : List (Nat × Int)} (h : OwnQ base w v l) : ∃ ad cap, v = .slice ad l.length cap := OwnR.shape ⟨_, h⟩
theorem OwnQ.isR {base B : Nat} {w : World} {v : Value} {l : List (Nat × Int)} (h : OwnQ base w v l) (hB : B ≤ base) : IsR B w v l := (Sq.of_owns h h.shape).mono hB
theorem refL_snoc (l : List (Nat × Int)) (p : Nat) (g : Int) : refL (l ++ [(p, g)]) = refL l ++ [.int .u16 (p : Int), .int .u32 g] := by unfold refL; simp
/-- Refused, or references. -/
def OwXP (X : Rs) (w : World) (e : Ending) (w' : World) : Prop :=
  (∃ v c, X = bad c ∧ e = .returned (.tuple #[.slice none 0 0, v]) ∧ Refu w v w' c) ∨ (∃ l v, X = ⟨0, l, []⟩ ∧ e = .returned (.tuple #[v, .nilIface]) ∧ IsR w.heap.size w' v l ∧ Below w.heap.size w w')
set_option maxHeartbeats 4000000 in
theorem Owners_x (h : Ms w A rb sb s tl ws) (hI : IV s tl L n) (i : Nat) (g : Int) :
    Calls Tryz.prog 67 #[.pointer (some ⟨A, 0, none⟩), .agg #[.int .u16 (i : Int), .int .u32 g]] w (OwXP (ownX (ob s ws) i g) w) := by
  obtain ⟨i0, hi0, hz0, hz1, hz2⟩ := info_parts inf32
  have bB := alloc_below (w := w) (.cells #[.int .u16 (i : Int), .int .u32 g] 32)
  have HM := hideIt (h.below bB)
  have HB := hideIt bB
  have HI := hideIt hI
  clear h hI bB
  go_enter Tryz.func67, Tryz.ntmps67
  go_wp2_with fail
  go_at_call 98
  refine (resolve_walk HM.out.am i g _).mono ?_
  rintro e w1 ⟨hb1, hh⟩
  have HB1 := hideIt (Below.thr HB.out hb1)
  have HM1 := hideIt (HM.out.below hb1)
  clear hb1
  rcases hh with ⟨hl, rfl⟩ | ⟨hl, v0, rfl, hv0⟩
  · have ep := HM1.out.am.par hl.1
    obtain ⟨r, hr⟩ := HI.out.rk
    have HR : Hid (Rk s r) := hr
    have HL := hideIt hl
    have HP0 := hideIt (HI.out.par hl.1 hl.2.2.1)
    clear hl hr
    go_wp2_with fail
    go_loopw [8, 9] (fun v8 v9 wr => ∃ (vis ls : List Nat), vis.Nodup ∧ (∀ x ∈ vis, x < 320 ∧ upM r v9 < r x + 1) ∧ ls.length = vis.length ∧ (∀ q, Up (ob s ws) (intOf v9) q → Up (ob s ws) (s.hd i).par (ls ++ q)) ∧ OwnQ w1.heap.size wr v8 (ls.map (rfM (ob s ws))) ∧ Below w1.heap.size w1 wr ∧ (v9 = .int .u16 65535 ∨ ∃ p, IsReg s p ∧ v9 = .int .u16 (p : Int))) (fun _ v9 _ => upM r v9)
    case atStart =>
      refine ⟨[], [], List.nodup_nil, fun x hx => absurd hx (by simp), rfl, fun q hq => hq, ⟨rfl, Or.inl ⟨rfl, rfl⟩⟩, Below.refl _ _, ?_⟩
      rcases HP0.out with e | ⟨p, hp, e⟩
      · exact Or.inl (by rw [e])
      · exact Or.inr ⟨p, hp, by rw [e]⟩
    case round =>
      clear ep HP0
      obtain ⟨vis, ls, hnd, hvis, hls, hup, hown, hbw, hv9⟩ := hrel
      have HUp := hideIt hup
      have HLs := hideIt hls
      clear hup
      have hlen := pigeon 320 vis hnd (fun x hx => (hvis x hx).1)
      have HO := hideIt hown
      have HN := hideIt hnd
      obtain ⟨ad, cap, ev8⟩ := hown.shape
      rw [List.length_map, hls] at ev8
      subst ev8
      have HMr := hideIt (HM1.out.below hbw)
      have HBr := hideIt hbw
      rcases hv9 with rfl | ⟨p, hp, rfl⟩
      · have hb0 := HB1.out.size
        have hfin := HUp.out [] rfl
        rw [List.append_nil] at hfin
        have HF : Hid (OwXP (ownX (ob s ws) i g) w (.returned (.tuple #[.slice ad vis.length cap, .nilIface])) wr) := Or.inr ⟨_, _, ownX_ok HL.out hfin, rfl, hown.isR (by omega), Below.thr HB1.out hbw⟩
        clear hown hnd hvis hbw hls hfin hb0
        generalize vis.length = vn at *
        go_wp2_with fail
        exact bodyPost_ret (by simp [results, Tryz.results67]) rfl HF.out
      · have HV : Hid (∀ x ∈ vis, x < 320 ∧ upM r (.int .u16 (p : Int)) < r x + 1) := hvis
        have pc : (p : Int) < 320 := by have := hp.2.1; omega
        have kn : ((p : Int) != 65535) = true := by rw [bne_iff_ne]; omega
        have HRf := hideIt (refOf_walk HMr.out.am hp.2.1)
        have HPp := hideIt (HI.out.par hp.2.1 (by rw [hp.2.2]; decide))
        have epp := fun w' (k : Below wr.heap.size wr w') => (HMr.out.below k).am.par hp.2.1
        have HEP := hideIt epp
        have HRR : Hid (∀ q : Nat, q < 320 → (s.hd p).par = (q : Int) → r q < r p) := fun q hq e => HR.out p q hp.2.1 (by rw [hp.2.2]; decide) e hq
        have HPR := hideIt hp
        have hsz : w1.heap.size ≤ wr.heap.size := hbw.size
        have HVL : Hid (vis.length = vis.length) := rfl
        generalize hvn : vis.length = vn at *
        have HVN := hideIt hvn
        clear hown hnd hvis hbw hp epp hvn hls
        go_wp2_with fail
        go_at_call 124
        refine HRf.out.mono ?_
        rintro e w2 ⟨rfl, hb2⟩
        have hxs := HO.out
        have elen : (ls.map (rfM (ob s ws))).length = vn := by rw [List.length_map, HLs.out]
        have hxs2 : w2.ownsRow w1.heap.size 32 2 (.slice ad vn cap) vn (refL (ls.map (rfM (ob s ws)))) := by
          unfold OwnQ at hxs
          rw [elen] at hxs
          refine ⟨hxs.1, hxs.2.imp id ?_⟩
          rintro ⟨g', cap', cur, e1, e2, e3, e4⟩
          exact ⟨g', cap', cur, e1, e2, (hb2.block g' (heap_lt e3)).trans e3, e4⟩
        have HX := hideIt hxs2
        have HB2 := hideIt hb2
        have hsz2 : w1.heap.size ≤ w2.heap.size := Nat.le_trans hsz hb2.size
        clear hxs hxs2 hb2 elen
        go_wp2_with ((at_builtin; refine wpList_append_own_at _ rfl (.tmp 32) (.tmp 36) 55 rfl w1.heap.size 32 i0 (.agg #[.int .u16 0, .int .u32 0]) 2 8 Tryz.underlying55 hi0 hz0 hz1 hz2 rfl (by decide) _ _ _ rfl (HX.out.alloc _) ⟨w2.heap.size, 0, none⟩ 1 1 [.int .u16 (p : Int), .int .u32 (s.hd p).gen] rfl rfl (new_two w2 _ rfl _ _ _) (ones2 _ _) (by unfold maxLen; omega) (by omega) (by simp; omega) ?_; intro b1 w3 hown1 hgrow1 _ _; go_loud (have hb3 := (HBr.out.trans (HB2.out.mono hsz)).trans (OwnR.grow HX.out hgrow1 (Nat.le_refl _) hsz2); have ep3 := (HM1.out.below hb3).am.par HPR.out.2.1; have HB3 := hideIt hb3; have HO3 : Hid (w3.ownsRow w1.heap.size 32 2 b1 (vn + 1) (refL (ls.map (rfM (ob s ws))) ++ [.int .u16 (p : Int), .int .u32 (s.hd p).gen])) := hown1; clear hown1 hgrow1 hb3)))
        obtain ⟨ad3, cap3, rfl⟩ := OwnR.shape ⟨_, HO3.out⟩
        have HO4 : Hid (OwnQ w1.heap.size w3 (.slice ad3 (vn + 1) cap3) ((ls ++ [p]).map (rfM (ob s ws)))) := by
          show OwnQ w1.heap.size w3 _ _
          unfold OwnQ
          rw [List.map_append, List.length_append, List.length_map, HLs.out]
          have e4 : refL (ls.map (rfM (ob s ws)) ++ [p].map (rfM (ob s ws))) = refL (ls.map (rfM (ob s ws))) ++ [.int .u16 (p : Int), .int .u32 (s.hd p).gen] := by
            rw [← refL_snoc]
            show refL (_ ++ [(p, (ob s ws p).gen)]) = _
            rw [ob_at _ _ HPR.out.2.1]
          rw [e4]
          exact HO3.out
        have e0 : upM r (.int .u16 (p : Int)) = r p + 1 := by
          unfold upM
          rw [if_neg (by show (p : Int) ≠ 65535; omega)]
          rfl
        have key : (s.hd p).par = 65535 ∨ ∃ q, IsReg s q ∧ (s.hd p).par = (q : Int) := HPp.out
        have hle : upM r (.int .u16 (s.hd p).par) ≤ r p := by
          rcases key with e | ⟨q, hq, e⟩
          · rw [e]; exact Nat.zero_le _
          · have := HRR.out q hq.2.1 e
            rw [e]
            unfold upM
            split
            · exact Nat.zero_le _
            · exact this
        have nin : p ∉ vis := fun q => by
          have := (HV.out p q).2
          rw [e0] at this
          omega
        refine ⟨⟨p :: vis, ls ++ [p], List.nodup_cons.2 ⟨nin, HN.out⟩, fun x hx => ?_, by have a := HLs.out; have b := HVN.out; simp only [List.length_append, List.length_cons, List.length_nil]; omega, fun q hq => ?_, HO4.out, HB3.out, ?_⟩, by rw [e0]; omega⟩
        · rcases List.mem_cons.1 hx with e | e
          · subst e; exact ⟨HPR.out.2.1, by omega⟩
          · have := HV.out x e
            exact ⟨this.1, by omega⟩
        · rw [List.append_assoc]
          exact HUp.out (p :: q) ⟨rfl, HPR.out.2.1, by rw [ob_at _ _ HPR.out.2.1]; exact hq⟩
        · rcases key with e | ⟨q, hq, e⟩
          · exact Or.inl (by rw [e])
          · exact Or.inr ⟨q, hq, by rw [e]⟩
  · obtain ⟨b, rfl, hbc⟩ := hv0
    have HF : Hid (OwXP (ownX (ob s ws) i g) w (.returned (.tuple #[.slice none 0 0, .iface 212 (.pointer (some ⟨b, 0, none⟩))])) w1) := Or.inl ⟨_, _, ownX_dead hl, rfl, ⟨b, rfl, hbc⟩, stale_ne i g, HB1.out⟩
    clear hbc hl
    go_wp2_with fail
    exact bodyPost_ret (by simp [results, Tryz.results67]) rfl HF.out
end
end Go.Proofs.Qxb6500847aGreatDoor.Os
