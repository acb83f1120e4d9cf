/-
  ImageIsInjective: one image, one state.
-/
import Derived.Test.Qxb6500847aGreatDoorRtGd
import Derived.Test.Qxb6500847aGreatDoorOxDo
import Derived.Barred
namespace Go.Proofs.Qxb6500847aGreatDoor.Os
open Go.RowKit FloorA
set_option maxRecDepth 100000
/-- Two contracts on one call speak of one end. -/
theorem calls_agree {P : Program} {f : FuncId} {args : Array Value} {w : World} {R R' : Value → World → Prop}
    (h : Calls P f args w fun e w' => ∃ v, e = .returned v ∧ R v w') (h' : Calls P f args w fun e w' => ∃ v, e = .returned v ∧ R' v w') (hi : P.inits.idxOf? f = none) : ∃ v w', R v w' ∧ R' v w' := by
  have c1 : Calls P f args w fun | .returned v, w' => R v w' | _, _ => False := h.mono fun e _ he => by obtain ⟨v, rfl, hr⟩ := he; exact hr
  have c2 : Calls P f args w fun | .returned v, w' => R' v w' | _, _ => False := h'.mono fun e _ he => by obtain ⟨v, rfl, hr⟩ := he; exact hr
  obtain ⟨n, v, w1, e1, r1⟩ := c1.done hi
  obtain ⟨m, v', w2, e2, r2⟩ := c2.done hi
  have a := runN_ended e1 m
  have b := runN_ended e2 n
  rw [Nat.add_comm, a] at b
  injection b with ho hw
  injection ho with hv
  subst hv hw
  exact ⟨_, _, r1, r2⟩
section
variable {w : World} {B : Nat} {wb wb' : Nat → Nat} {M N : Nat → En}
theorem Md.uniq (h : Md w B wb M) (k : Md w B wb' N) (hM : Mk M) (hN : Mk N) {i : Nat} (hi : i < 320) : M i = N i := by
  have q : ∀ {p : Addr} {a b : Value}, w.cell? p = some a → w.cell? p = some b → a = b := fun h1 h2 => Option.some.inj (h1.symm.trans h2)
  have e1 := q (h.gen hi) (k.gen hi)
  have e2 := q (h.typ hi) (k.typ hi)
  have e3 := q (h.bas hi) (k.bas hi)
  have e4 := q (h.siz hi) (k.siz hi)
  have e5 := q (h.par hi) (k.par hi)
  obtain ⟨v, c1, d1⟩ := h.wrd i hi
  obtain ⟨v', c2, d2⟩ := k.wrd i hi
  obtain rfl := q c1 c2
  injection e1 with _ e1
  injection e2 with _ e2
  injection e3 with _ e3
  injection e4 with _ e4
  injection e5 with _ e5
  have e6 : (M i).wds = (N i).wds := by
    rcases d1 with ⟨n1, a1, x1, f1⟩ | ⟨n1, x1, f1, _, _, r1, _⟩ <;> rcases d2 with ⟨n2, a2, x2, f2⟩ | ⟨n2, x2, f2, _, _, r2, _⟩
    · rw [n1, n2]
    · rw [f1] at f2
      injection f2 with _ f2 _
      exact absurd (List.length_eq_zero_iff.1 f2.symm) n2
    · rw [f1] at f2
      injection f2 with _ f2 _
      exact absurd (List.length_eq_zero_iff.1 f2) n1
    · rw [f1] at f2
      injection f2 with f0 f2 _
      injection f0 with f0
      injection f0 with f0
      rw [← f0] at r2
      apply List.ext_getElem?
      intro j
      by_cases hj : j < (M i).wds.length
      · have hj' : j < (N i).wds.length := by omega
        have s1 := r1 j (.int .u64 ((M i).wds[j])) (by rw [List.getElem?_map, List.getElem?_eq_getElem hj]; rfl)
        have s2 := r2 j (.int .u64 ((N i).wds[j])) (by rw [List.getElem?_map, List.getElem?_eq_getElem hj']; rfl)
        have s3 := q s1 s2
        injection s3 with _ s3
        rw [List.getElem?_eq_getElem hj, List.getElem?_eq_getElem hj', s3]
      · rw [List.getElem?_eq_none (by omega), List.getElem?_eq_none (by omega)]
  have e7 : (M i).par = (N i).par := by
    unfold pz at e5
    rcases hM.par i hi with p | ⟨p, hp, pe⟩ <;> rcases hN.par i hi with r | ⟨r, hr, re⟩
    · rw [p, r]
    · rw [p, re, if_pos rfl, if_neg (by omega)] at e5; omega
    · rw [pe, r, if_neg (by omega), if_pos rfl] at e5; omega
    · rw [pe, re, if_neg (by omega), if_neg (by omega)] at e5; omega
  exact En.ext' e1 e2 e3 e4 e7 e6
theorem Snd.sd {im : List Int} (h : Snd M im) : SdM M := by
  obtain ⟨s, tl, ws, L, n, h1, h2, h3, h4, _⟩ := h
  exact ⟨s, tl, ws, L, n, ⟨h1, h2, h3⟩, h4⟩
theorem SdM.ext (hM : SdM M) (hN : SdM N) (h : ∀ i, i < 320 → M i = N i) : M = N := by
  obtain ⟨s, _, ws, _, _, _, rfl⟩ := hM
  obtain ⟨s', _, ws', _, _, _, rfl⟩ := hN
  funext i
  by_cases hi : i < 320
  · exact h i hi
  · unfold ob
    rw [if_neg hi, if_neg hi]
/-- What Decode answers. -/
def DeP (M : Nat → En) (w : World) (v : Value) (w' : World) : Prop := Below w.heap.size w w' ∧ ∃ A rb sb s2 tl2 ws2 L n, v = .tuple #[.pointer (some ⟨A, 0, none⟩), .nilIface] ∧ Ms w' A rb sb s2 tl2 ws2 ∧ Sd s2 tl2 ws2 L n ∧ ob s2 ws2 = M ∧ ∀ b, Tz A rb sb b → w.heap.size ≤ b
theorem Snd.decode {im : List Int} (hM : Snd M im) {g cap : Nat} (hb : BytesAt w g 0 im) (hcap : im.length ≤ cap) (hcap2 : cap ≤ maxLen) (hg : g < w.heap.size) (hgl : Gl w) :
    Calls Tryz.prog 29 #[.slice (some ⟨g, 0, none⟩) im.length cap] w fun e w' => ∃ v, e = .returned v ∧ DeP M w v w' := by
  obtain ⟨s, tl, ws, L, n, h1, h2, h3, h4, rfl⟩ := hM
  refine (Decode_x h1 h2 h3 hb hcap hcap2 hg hgl.kd hgl.kl).mono ?_
  rintro e w' ⟨hB, A, rb, sb, s2, tl2, ws2, L2, n2, rfl, m1, m2, m3, m4, m5, _, m6⟩
  exact ⟨_, rfl, hB, A, rb, sb, s2, tl2, ws2, L2, n2, rfl, m1, ⟨m2, m3, m4⟩, m5.trans h4, m6⟩
theorem Snd.inj {im : List Int} (hM : Snd M im) (hN : Snd N im) {g cap : Nat} (hb : BytesAt w g 0 im) (hcap : im.length ≤ cap) (hcap2 : cap ≤ maxLen) (hg : g < w.heap.size) (hgl : Gl w) : M = N := by
  obtain ⟨v, w', ⟨hB, A, rb, sb, s, tl, ws, L, n, rfl, m1, m2, m3, _⟩, ⟨_, A', rb', sb', s', tl', ws', L', n', e, k1, k2, k3, _⟩⟩ := calls_agree (hM.decode hb hcap hcap2 hg hgl) (hN.decode hb hcap hcap2 hg hgl) (by kernel_rfl)
  obtain rfl : A = A' := by
    injection e with e
    have e := congrArg (fun a : Array Value => a[0]?) e
    simp at e
    exact e
  have hg' := hgl.below hB
  have o1 := observe_x m1 m2 hg'.kd hg'.kl
  have o2 := observe_x k1 k2 hg'.kd hg'.kl
  rw [m3] at o1
  rw [k3] at o2
  obtain ⟨v, w2, ⟨B, wb, rfl, n1⟩, ⟨B', wb', e2, n2⟩⟩ := calls_agree (R := fun v w2 => ∃ B wb, v = .tuple #[.pointer (some ⟨B, 0, none⟩), .bool true] ∧ Md w2 B wb M) (R' := fun v w2 => ∃ B wb, v = .tuple #[.pointer (some ⟨B, 0, none⟩), .bool true] ∧ Md w2 B wb N)
    (o1.mono fun e w' h => by obtain ⟨B, wb, rfl, h, _⟩ := h; exact ⟨_, rfl, B, wb, rfl, h⟩) (o2.mono fun e w' h => by obtain ⟨B, wb, rfl, h, _⟩ := h; exact ⟨_, rfl, B, wb, rfl, h⟩) (by kernel_rfl)
  obtain rfl : B = B' := by
    injection e2 with e2
    have e2 := congrArg (fun a : Array Value => a[0]?) e2
    simp at e2
    exact e2
  exact hM.sd.ext hN.sd (fun i hi => n1.uniq n2 hM.sd.num hN.sd.num hi)
end
end Go.Proofs.Qxb6500847aGreatDoor.Os
