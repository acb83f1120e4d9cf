/-
  Encode: the image.
-/
import Derived.Test.Qxb6500847aGreatDoorOsGd
namespace Go.Proofs.Qxb6500847aGreatDoor.Os
open Go.RowKit FloorA
set_option maxRecDepth 100000
section
variable {A : Nat} {rb sb : Nat → Nat} {s : Av} {tl : Nat → List Int} {ws : Nat → Nat → Nat → Int} {w : World} {L : Nat → List Nat} {n : Nat}
theorem bodN_small (hI : IV s tl L n) (hW : Wr ws) : (eN (bodN s ws)).length ≤ 3000000 := by
  obtain ⟨fx, hfx, efx⟩ := flG_mem s 320 (Nat.le_refl _)
  have hfl := fun x (hx : x < 320) => flG_le s 320 x hx
  obtain ⟨fg, efg, fg1, fg2, _⟩ := hI.ge.gen fx hfx
  have hF : flG s 320 = (fg : Int) := by rw [efx, efg]
  obtain ⟨h1, h2⟩ := lsN_small hI hW hfl (by omega) 320 (Nat.le_refl _)
  have h3 := lsC_le s (flG s 320) 320
  have := eN_len (l := bodN s ws) (fun y hy => by
    unfold bodN at hy
    rcases List.mem_append.1 hy with q | q
    · rw [hF] at q h3
      simp at q
      omega
    · exact h1 y q)
  have e : (bodN s ws).length = 3 + (lsN s ws (flG s 320) 320).length := by unfold bodN; rw [List.length_append]; rfl
  omega
theorem eN_range (l : List Nat) : ∀ x ∈ eN l, 0 ≤ x ∧ x ≤ 255 := fun x hx => by
  unfold eN at hx
  obtain ⟨v, _, hv⟩ := List.mem_flatMap.1 hx
  exact uvs_range v x hv
theorem eN_ne (s : Av) (ws : Nat → Nat → Nat → Int) : eN (bodN s ws) ≠ [] := by
  intro e
  have h1 : (eN (bodN s ws)).length = 0 := by rw [e]; rfl
  have h2 : eN (bodN s ws) = uvs 1 ++ eN ([(flG s 320).toNat, lsC s (flG s 320) 320] ++ lsN s ws (flG s 320) 320) := rfl
  rw [h2, List.length_append] at h1
  have := uvs_pos 1
  omega
theorem Own.bytes {base : Nat} {b : Value} {bs : List Int} (ho : Own base w b bs) (hr : ∀ x ∈ bs, 0 ≤ x ∧ x ≤ 255) (hne : bs ≠ []) : ∃ g cap, b = .slice (some ⟨g, 0, none⟩) bs.length cap ∧ bs.length ≤ cap ∧ cap ≤ maxLen ∧ base ≤ g ∧ g < w.heap.size ∧ BytesAt w g 0 bs := by
  have h' := ho
  rcases ho.2 with ⟨rfl, hn⟩ | ⟨g, cap, cur, rfl, hb, hg, hnc, hcm, _⟩
  · exact absurd (List.length_eq_zero_iff.1 hn) hne
  · refine ⟨g, cap, rfl, hnc, hcm, hb, (Array.getElem?_eq_some_iff.1 hg).1, fun i hi => ?_⟩
    have hc : w.cell? ⟨g, i, none⟩ = some (.int .u8 (bs.getD i 0)) := by
      have := World.ownsRow.cells h' (g := g) rfl i (.int .u8 (bs.getD i 0)) (by simp [List.getD, hi])
      rwa [show (⟨g, 0, none⟩ : Addr).add i = ⟨g, i, none⟩ by unfold Addr.add; by_cases e : i = 0 <;> simp [e]] at this
    have hm : bs.getD i 0 ∈ bs := by
      rw [List.getD, List.getElem?_eq_getElem hi]
      exact List.getElem_mem hi
    exact ⟨by simpa using hc, hr _ hm⟩
set_option maxHeartbeats 4000000 in
theorem appendImage_walk {base : Nat} {b : Value} (h : Ms w A rb sb s tl ws) (hI : IV s tl L n) (hW : Wr ws) (hT : ∀ b, Tz A rb sb b → b < base) (hg : Gd tabC w) (gl : 3 < base) (hK : Kd w) (kl : 1 < base) (ho : Own base w b []) (hb : base ≤ w.heap.size) :
    Calls Tryz.prog 43 #[.pointer (some ⟨A, 0, none⟩), b] w (ApPost base b [] (imgB s ws) w) := by
  have HB := hideIt (appendBody_walk h hI hW hT hg gl hK kl ho (by simp) hb)
  have hsm := bodN_small hI hW
  have hne := eN_ne s ws
  obtain ⟨ad, cp, rfl⟩ := OwnK.shape ho
  have HIm : Hid (imgB s ws = eN (bodN s ws) ++ dbytes 8 (dig (eN (bodN s ws)))) := rfl
  have HR := hideIt (eN_range (bodN s ws))
  generalize eN (bodN s ws) = bd at *
  have HNe : Hid (bd ≠ []) := hne
  clear h hI hW hT hg hK ho hne
  go_enter Tryz.func43, Tryz.ntmps43
  go_wp2_with fail
  go_at_call 122
  refine HB.out.mono ?_
  rintro e w1 ⟨b1, rfl, o1, g1⟩
  rw [List.nil_append] at o1
  obtain ⟨g, cap, rfl, c1, c2, c3, c4, hby⟩ := Own.bytes o1 HR.out HNe.out
  have O1 := hideIt o1
  have G1 := hideIt g1
  have HBy : Hid (BytesAt w1 g 0 bd) := hby
  have hs1 : base ≤ w1.heap.size := Nat.le_trans hb g1.grown.size
  generalize hbl : bd.length = bl at *
  have HBL := hideIt hbl
  clear o1 g1 hby HB hbl
  unfold maxLen at c2
  go_wp2_with fail
  go_at_call 102
  refine (dig_walk g 0 bl _ bd w1 HBL.out (by unfold big; omega) HBy.out).mono ?_
  rintro e w' ⟨rfl, hw'⟩
  obtain rfl := hw'.symm
  clear hw'
  have hdr := dig_range bd
  have HAp := hideIt (appDig_walk base _ bd (dig bd) w1 hdr.1 hdr.2 O1.out (by rw [HBL.out]; unfold big; omega) hs1)
  clear hdr
  go_wp2_with fail
  go_at_call 121
  refine HAp.out.mono ?_
  rintro e w2 ⟨b2, rfl, o2, g2⟩
  have HE : Hid (ApPost base (.slice ad (([] : List Int).length) cp) [] (imgB s ws) w (.returned b2) w2) := ⟨_, rfl, by rw [List.nil_append, HIm.out]; exact o2, G1.out.trans g2⟩
  obtain ⟨ad2, cp2, rfl⟩ := OwnK.shape o2
  clear o2 g2
  generalize (bd ++ dbytes 8 (dig bd)).length = l2 at *
  go_wp2_with fail
  exact bodyPost_ret (by simp [results, Tryz.results43]) rfl HE.out
/-- Encode's post. -/
def EnPost (im : List Int) (w : World) (e : Ending) (w' : World) : Prop := ∃ b, e = .returned b ∧ Own w.heap.size w' b im ∧ Below w.heap.size w w'
set_option maxHeartbeats 4000000 in
theorem encode_walk (h : Ms w A rb sb s tl ws) (hI : IV s tl L n) (hW : Wr ws) (hg : Gd tabC w) (gl : 3 < w.heap.size) (hK : Kd w) (kl : 1 < w.heap.size) :
    Calls Tryz.prog 13 #[.pointer (some ⟨A, 0, none⟩)] w (EnPost (imgB s ws) w) := by
  obtain ⟨i0, hi, hz0, hz1, hz2⟩ := info_parts Tryz.info5
  have HM := hideIt h
  have HI := hideIt hI
  have HW : Hid (Wr ws) := hW
  have HG : Hid (Gd tabC w) := hg
  have HK : Hid (Kd w) := hK
  clear h hI hW hg hK
  go_enter Tryz.func13, Tryz.ntmps13
  go_wp2_with ((at_make; refine wpList_make_own _ rfl _ _ 38 rfl w.heap.size 5 i0 (.int .u8 0) 1 Tryz.underlying38 hi hz0 hz1 .i64 .i64 256 256 rfl rfl rfl (by rw [hz2]; decide) (by decide) (Nat.le_refl _) ?_; intro w1 hown1 hgrow1))
  have hbl : Below w.heap.size w w1 := ⟨hgrow1.os, hgrow1.tape, hgrow1.output, hgrow1.size, fun k hk => hgrow1.block k hk (by simp)⟩
  have o1 : Own w.heap.size w1 (.slice (some ⟨w.heap.size, 0, none⟩) 0 256) [] := hown1
  have HAp := hideIt (appendImage_walk (HM.out.belowB hbl HM.out.tzlt) HI.out HW.out HM.out.tzlt (HG.out.below hbl gl) gl (HK.out.below hbl kl) kl o1 hgrow1.size)
  have HBl := hideIt hbl
  clear hbl o1 hown1 hgrow1
  generalize hnn : w.heap.size = N at *
  go_wp2_with fail
  go_at_call 43
  refine HAp.out.mono ?_
  rintro e w2 ⟨b2, rfl, o2, g2⟩
  rw [List.nil_append] at o2
  have HE : Hid (EnPost (imgB s ws) w (.returned b2) w2) := by
    subst hnn
    refine ⟨_, rfl, o2, HBl.out.trans ?_⟩
    exact ⟨g2.grown.os, g2.grown.tape, g2.grown.output, Nat.le_trans HBl.out.size g2.grown.size |> fun _ => by first | exact g2.grown.size | exact Nat.le_trans HBl.out.size g2.grown.size, fun k hk => g2.grown.block k (Nat.lt_of_lt_of_le hk HBl.out.size) (by intro q; simp [Value.ownBlock] at q; omega)⟩
  obtain ⟨ad2, cp2, rfl⟩ := OwnK.shape o2
  clear o2 g2
  generalize (imgB s ws).length = l2 at *
  go_wp2_with fail
  exact bodyPost_ret (by simp [results, Tryz.results13]) rfl HE.out
end
end Go.Proofs.Qxb6500847aGreatDoor.Os
