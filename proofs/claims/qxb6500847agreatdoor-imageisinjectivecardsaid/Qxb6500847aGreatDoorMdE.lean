/-
  The abstract model: top.
-/
import Derived.Test.Qxb6500847aGreatDoorMdD
namespace Go.Proofs.Qxb6500847aGreatDoor.Os
open Go.RowKit FloorA
set_option maxRecDepth 100000
def tf (M : Nat → En) (t : Int) (l : List Nat) : Int := l.foldl (fun t j => if t < (M j).bas + (M j).siz then (M j).bas + (M j).siz else t) t
theorem tf_snoc (M : Nat → En) (t : Int) (l : List Nat) (j : Nat) : tf M t (l ++ [j]) = if tf M t l < (M j).bas + (M j).siz then (M j).bas + (M j).siz else tf M t l := by
  unfold tf
  rw [List.foldl_append]
  rfl
theorem tf_chain {M : Nat → En} : ∀ {l : List Nat} {t : Int}, (∀ c ∈ l, t ≤ (M c).bas ∧ 0 < (M c).siz) → l.Pairwise (fun a b => (M a).bas + (M a).siz ≤ (M b).bas) → tf M t l = match l.getLast? with
    | none => t
    | some c => (M c).bas + (M c).siz
  | [], t, _, _ => rfl
  | [c], t, h1, _ => by
    have := h1 c (List.mem_singleton.2 rfl)
    show (if t < (M c).bas + (M c).siz then (M c).bas + (M c).siz else t) = _
    rw [if_pos (by omega)]
    rfl
  | c :: d :: r, t, h1, h2 => by
    have hc := h1 c (List.mem_cons_self ..)
    have e : tf M t (c :: d :: r) = tf M ((M c).bas + (M c).siz) (d :: r) := by
      show tf M (if t < (M c).bas + (M c).siz then (M c).bas + (M c).siz else t) (d :: r) = _
      rw [if_pos (by omega)]
    rw [e, tf_chain (fun x hx => ⟨(List.pairwise_cons.1 h2).1 x hx, (h1 x (List.mem_cons_of_mem _ hx)).2⟩) (List.pairwise_cons.1 h2).2]
    rfl
section
variable {s : Av} {tl : Nat → List Int} {ws : Nat → Nat → Nat → Int} {L : Nat → List Nat} {n p : Nat}
theorem tf_top (hX : IX s tl L n) (hI : IV s tl L n) (hp : IsReg s p) : tf (ob s ws) (ob s ws p).bas (kdsM (ob s ws) p) = topM (ob s ws) p := by
  have hk := kds_eq (kds_reg (ws := ws) hX hI hp)
  have hc := (hX.gm.chn p hp).1
  have hpos := hX.pos hI hp
  unfold topM
  rw [hk]
  have at_ : ∀ c ∈ L p, (ob s ws c).bas = (s.hd c).bas ∧ (ob s ws c).siz = (s.hd c).siz := fun c hcm => by
    rw [ob_at _ _ (hI.tr.mem hp hcm).1]
    exact ⟨rfl, rfl⟩
  have hb : (ob s ws p).bas = (s.hd p).bas := by rw [ob_at _ _ hp.2.1]
  refine tf_chain (fun c hcm => ?_) ?_
  · obtain ⟨e1, e2⟩ := at_ c hcm
    rw [hb, e1, e2]
    exact ⟨(Chn.bounds hpos hc c hcm).1, hpos c hcm⟩
  · refine (Chn.sorted hpos hc).imp_of_mem (fun {a b} ha hb' q => ?_)
    rw [(at_ a ha).1, (at_ a ha).2, (at_ b hb').1]
    exact q
end
section
variable {w : World} {B : Nat} {wb : Nat → Nat} {M : Nat → En}
set_option maxHeartbeats 4000000 in
theorem top_m (h : Md w B wb M) (hM : Mk M) {p : Nat} (hp : p < 320) (hK : ∃ l, IsK M p l) (hT : tf M (M p).bas (kdsM M p) = topM M p) :
    Calls Tryz.prog 216 #[.pointer (some ⟨B, 0, none⟩), .int .i64 (p : Int)] w fun e w' => e = .returned (.int .u64 (topM M p)) ∧ Below w.heap.size w w' := by
  have p3 : (p : Int) < 320 := by omega
  have z := h.bas hp
  have HM := hideIt h
  have HMk := hideIt hM
  have HT := hideIt hT
  have HC := hideIt (children_m h hM hp hK)
  have HL3 : Hid (∀ c ∈ kdsM M p, c < 320) := fun c hc => by
    obtain ⟨l, hl⟩ := hK
    rw [kds_eq hl] at hc
    exact ((hl.1 c).1 hc).1
  have HLn := hideIt (kds_len M p)
  clear h hM hT hK
  go_enter Tryz.func216, Tryz.ntmps216
  go_wp2_with fail
  go_at_call 212
  refine HC.out.mono ?_
  rintro e w1 ⟨v, rfl, hown, hb1⟩
  obtain ⟨ad, cp, rfl⟩ := hown.form
  have HO := hideIt hown
  have HB := hideIt hb1
  obtain ⟨l, hl⟩ : ∃ l, l = kdsM M p := ⟨_, rfl⟩
  rw [← hl] at HO HT HL3 HLn
  rw [← hl]
  clear hown hb1 HC hl z
  go_wp2_with fail
  go_loopw [5, 19] (fun v5 v19 wr => ∃ k : Nat, k ≤ l.length ∧ v19 = .int .i64 (k : Int) ∧ v5 = .int .u64 (tf M (M p).bas (l.take k)) ∧ Below w1.heap.size w1 wr) (fun _ i _ => l.length - (intOf i).toNat)
  case atStart => exact ⟨0, Nat.zero_le _, rfl, rfl, Below.refl _ _⟩
  case round =>
    obtain ⟨k, hk, rfl, rfl, hbr⟩ := hrel
    have HBr := hideIt hbr
    have hln := HLn.out
    by_cases hlt : k < l.length
    · have hlt' : (k : Int) < (l.length : Int) := by omega
      obtain ⟨g, cg, eg, _, _, _, hcl⟩ := HO.out.at (by omega)
      obtain ⟨rfl, rfl⟩ : ad = some ⟨g, 0, none⟩ ∧ cp = cg := by
        injection eg with e1 e2 e3
        exact ⟨e1, e3⟩
      obtain ⟨u, hu⟩ : ∃ u, l[k]? = some u := ⟨_, List.getElem?_eq_getElem hlt⟩
      have hu3 : u < 320 := HL3.out u (List.mem_of_getElem? hu)
      have cu := (hbr.cell (p := ⟨g, k, none⟩) (cell_lt (hcl k u hu))).trans (hcl k u hu)
      have htk : l.take (k + 1) = l.take k ++ [u] := by
        rw [List.take_succ_eq_append_getElem hlt]
        rw [List.getElem?_eq_getElem hlt] at hu
        rw [Option.some.inj hu]
      have HS := hideIt (show tf M (M p).bas (l.take (k + 1)) = _ by rw [htk, tf_snoc])
      have HE := hideIt (fun wq (hq : Below w1.heap.size w1 wq) => end_m (HM.out.below (Below.thr HB.out hq)) HMk.out hu3)
      clear hcl eg hu htk hbr
      generalize tf M (M p).bas (l.take k) = t at *
      by_cases hgt : t < (M u).bas + (M u).siz
      · have hgt' : (M u).bas + (M u).siz > t := hgt
        have HS2 := hideIt (HS.out.trans (if_pos hgt))
        go_wp2_with (go_at_call 204; first | (refine (HE.out _ HBr.out).mono ?_; rintro e w' ⟨rfl, m1, hw'⟩; obtain rfl := hw'.symm) | (refine (HE.out _ (Below.thr HBr.out (belowN _ _))).mono ?_; rintro e w' ⟨rfl, m1, hw'⟩; obtain rfl := hw'.symm))
        go_roundw
        case rel => exact ⟨k + 1, by omega, by go_num, by rw [HS2.out], Below.thr HBr.out (belowN _ _)⟩
        case measure => simp [intOf]; omega
      · have hgt' : ¬ (M u).bas + (M u).siz > t := hgt
        have HS2 := hideIt (HS.out.trans (if_neg hgt))
        go_wp2_with (go_at_call 204; refine (HE.out _ HBr.out).mono ?_; rintro e w' ⟨rfl, m1, hw'⟩; obtain rfl := hw'.symm)
        go_roundw
        case rel => exact ⟨k + 1, by omega, by go_num, by rw [HS2.out], Below.thr HBr.out (belowN _ _)⟩
        case measure => simp [intOf]; omega
    · have hkl : k = l.length := by omega
      subst hkl
      rw [List.take_length, HT.out]
      clear hbr
      go_wp2_with fail
      go_ret
      exact ⟨rfl, Below.thr HB.out HBr.out⟩
end
end Go.Proofs.Qxb6500847aGreatDoor.Os
