/-
  The geometry under each turn of the store.
-/
import Derived.Test.Qxb6500847aGreatDoorOxD
namespace Go.Proofs.Qxb6500847aGreatDoor.Os
open Go.RowKit FloorA
set_option maxRecDepth 100000
section
variable {s s' : Av} {D : Nat → Prop} {L : Nat → List Nat} {n c p k : Nat} {tl : Nat → List Int}
theorem Gm.occ_core {row b z : Int} {L' : Nat → List Nat} (h : Gm s L n) (hT : Tr s D L) (k0 : k ≠ 0) (h0 : (s.hd c).typ = 0) (hb : 0 ≤ b ∧ 0 < z ∧ b + z ≤ 281474976710656) (hrt : ∀ i, i < n → s.rts i ≠ (c : Int))
    (hL : ∀ q, IsReg s q → L' q = L q) (hn : k = 1 → L' c = [] ∧ 256 ≤ c) (x : Value) (j : Nat) : Gm (occS (s.setTi j x) c k b z row) L' n := by
  have hh : ∀ y, (occS (s.setTi j x) c k b z row).hd y = if y = c then ⟨(s.hd c).gen, k, row, 65535, 65535, 65535, b, z⟩ else s.hd y := fun y => occ_hd (s.setTi j x) c k b z row y
  have hc := hh c
  rw [if_pos rfl] at hc
  have ho : ∀ y, y ≠ c → (occS (s.setTi j x) c k b z row).hd y = s.hd y := fun y e => by rw [hh, if_neg e]
  have hi : ∀ y, Idl (occS (s.setTi j x) c k b z row) y ↔ Idl s y ∧ y ≠ c := fun y => occ_idl (s.setTi j x) c k b z row y
  have er : (occS (s.setTi j x) c k b z row).rts = s.rts := (occ_same (s.setTi j x) c k b z row).1
  have eg : ∀ i, (occS (s.setTi j x) c k b z row).rg i = if k = 1 ∧ i = c - 256 then ⟨65535, 65535, 0, b⟩ else s.rg i := fun i => occ_rg (s.setTi j x) c k b z row i
  have rne : ∀ i d : Nat, i < n → s.rts i = (d : Int) → d ≠ c := fun i d hi' e q => hrt i hi' (by rw [e, q])
  refine ⟨fun q hq => ?_, fun y hy ht => ?_, fun y hy ht hp => ?_, fun i i' d d' hii hi' e e' => ?_, fun y hy ht => ?_, fun y hy ht hg => ?_⟩
  · by_cases e : q = c
    · subst e
      have ht := hq.2.2
      rw [hc] at ht
      have k1 : k = 1 := by have : (k : Int) = 1 := ht; omega
      obtain ⟨e1, _⟩ := hn k1
      rw [e1, hc, eg, if_pos ⟨k1, rfl⟩]
      exact ⟨rfl, by show b ≤ b + z; omega⟩
    · have hq0 : IsReg s q := ⟨hq.1, hq.2.1, by rw [← ho q e]; exact hq.2.2⟩
      have nm : ∀ d ∈ L q, d ≠ c := fun d hd e2 => (hT.mem hq0 hd).2.1 (by rw [e2]; exact h0)
      rw [hL q hq0, ho q e, eg, if_neg (fun k1 => by
        have h256 := (hn k1.1).2
        have h1 := hq.1
        exact e (by have := k1.2; omega))]
      obtain ⟨a1, a2⟩ := h.chn q hq0
      exact ⟨a1.congr (fun d hd => by rw [ho d (nm d hd)]; exact ⟨rfl, rfl⟩), a2⟩
  · by_cases e : y = c
    · rw [e, hc]; exact hb
    · rw [ho y e] at ht ⊢
      exact h.lim y hy ht
  · by_cases e : y = c
    · rw [e, hc] at hp; exact absurd rfl hp
    · rw [ho y e] at ht hp ⊢
      exact h.ali y hy ht hp
  · rw [er] at e e'
    rw [ho d (rne i d (by omega) e), ho d' (rne i' d' hi' e')]
    exact h.rts i i' d d' hii hi' e e'
  · by_cases e : y = c
    · rw [e, hc] at ht
      have : (k : Int) = 0 := ht
      exact absurd (by omega) k0
    · rw [ho y e] at ht ⊢
      exact h.fre y hy ht
  · by_cases e : y = c
    · rw [e, hc] at ht
      have : (k : Int) = 0 := ht
      exact absurd (by omega) k0
    · rw [ho y e] at ht hg
      exact (hi y).2 ⟨h.idl y hy ht hg, e⟩
/-- attach. -/
theorem att_rg (s : Av) (p c i : Nat) : (attS s p c).rg i = if i = p - 256 then ⟨if (s.rg (p - 256)).lst = 65535 then (c : Int) else (s.rg (p - 256)).fst, c, wrap64 ((s.rg (p - 256)).kds + 1), IntKind.u64.wrap ((s.hd c).bas + (s.hd c).siz)⟩ else s.rg i := by
  unfold attS
  dsimp only
  by_cases h : (s.rg (p - 256)).lst = 65535
  · rw [if_pos h, if_pos h]
    simp [Av.setRg, Av.setHd]
  · rw [if_neg h, if_neg h]
    simp [Av.setRg, Av.setHd]
theorem Gm.att (h : Gm s L n) (hp : IsReg s p) (hc : c < 320) (ht : (s.hd c).typ ≠ 0) (hl : (s.rg (p - 256)).lst.toNat ≠ c) (h1 : (s.rg (p - 256)).top ≤ (s.hd c).bas) (h2 : (s.hd c).bas + (s.hd c).siz ≤ (s.hd p).bas + (s.hd p).siz) (ha : Ali (s.hd c)) : Gm (attS s p c) (updL L p (L p ++ [c])) n := by
  have a := att_hd s p c
  obtain ⟨e1, e2, _, _⟩ := att_same s p c
  have ep := att_par s hl
  obtain ⟨l1, l2, l3⟩ := h.lim c hc ht
  have ew : IntKind.u64.wrap ((s.hd c).bas + (s.hd c).siz) = (s.hd c).bas + (s.hd c).siz := u64_same (by omega) (by omega)
  have bs : ∀ x, ((attS s p c).hd x).bas = (s.hd x).bas ∧ ((attS s p c).hd x).siz = (s.hd x).siz := fun x => ⟨(a x).2.2.2.1, (a x).2.2.2.2.1⟩
  refine ⟨fun q hq => ?_, fun y hy ht' => ?_, fun y hy ht' hp' => ?_, fun i i' d d' hii hi' e e' => ?_, fun y hy ht' => ?_, fun y hy ht' hg => ?_⟩
  · have hq0 : IsReg s q := ⟨hq.1, hq.2.1, by rw [← (a q).2.1]; exact hq.2.2⟩
    obtain ⟨q1, q2⟩ := h.chn q hq0
    rw [(bs q).1, (bs q).2, att_rg]
    by_cases e : q = p
    · subst e
      rw [updL_at, if_pos rfl]
      refine ⟨Chn.congr (fun d _ => bs d) ?_, ?_⟩
      · show Chn s (s.hd q).bas (L q ++ [c]) (IntKind.u64.wrap ((s.hd c).bas + (s.hd c).siz))
        rw [ew]
        exact q1.snoc h1
      · show IntKind.u64.wrap ((s.hd c).bas + (s.hd c).siz) ≤ _
        rw [ew]
        exact h2
    · have : ¬ q - 256 = p - 256 := fun k => e (by have := hq.1; have := hp.1; omega)
      rw [updL_ne e, if_neg this]
      exact ⟨Chn.congr (fun d _ => bs d) q1, q2⟩
  · rw [(a y).2.1] at ht'
    rw [(bs y).1, (bs y).2]
    exact h.lim y hy ht'
  · rw [(a y).2.1] at ht'
    have key : Ali (s.hd y) := by
      by_cases e : y = c
      · rw [e]; exact ha
      · rw [(a y).2.2.2.2.2 e] at hp'
        exact h.ali y hy ht' hp'
    unfold Ali at key ⊢
    rw [(bs y).1, (bs y).2, (a y).2.1]
    exact key
  · rw [e2] at e e'
    rw [(bs d).1, (bs d).2, (bs d').1]
    exact h.rts i i' d d' hii hi' e e'
  · rw [(a y).2.1] at ht'
    have e : y ≠ c := fun e => ht (by rw [← e]; exact ht')
    rw [(bs y).1, (bs y).2, (a y).2.2.2.2.2 e]
    exact h.fre y hy ht'
  · rw [(a y).2.1] at ht'
    rw [(a y).1] at hg
    have := h.idl y hy ht' hg
    unfold Idl at this ⊢
    rw [e1]
    exact this
/-- insertRoot. -/
theorem Gm.ins {q : Nat} (h : Gm s L n) (hq : q ≤ n) (h1 : ∀ i d : Nat, i < q → s.rts i = (d : Int) → (s.hd d).bas + (s.hd d).siz ≤ (s.hd c).bas) (h2 : ∀ i d : Nat, q ≤ i → i < n → s.rts i = (d : Int) → (s.hd c).bas + (s.hd c).siz ≤ (s.hd d).bas) : Gm (insS s q c n) L (n + 1) := by
  refine ⟨fun p hp => ?_, h.lim, h.ali, fun i j d e hij hj ei ej => ?_, h.fre, h.idl⟩
  · obtain ⟨a, b⟩ := h.chn p hp
    exact ⟨Chn.congr (s := s) (s' := insS s q c n) (fun _ _ => ⟨rfl, rfl⟩) a, b⟩
  · have er : ∀ i, i < n + 1 → (insS s q c n).rts i = if i = q then (c : Int) else s.rts (if q < i then i - 1 else i) := fun i hi => by
      unfold insS
      dsimp only
      by_cases e : i = q
      · simp [e]
      · rw [if_neg e, if_neg e]
        by_cases e2 : q < i
        · rw [if_pos ⟨e2, by omega⟩, if_pos e2]
        · rw [if_neg (fun q => e2 q.1), if_neg e2]
    rw [er i (by omega)] at ei
    rw [er j hj] at ej
    show (s.hd d).bas + (s.hd d).siz ≤ (s.hd e).bas
    by_cases a : i = q
    · rw [if_pos a] at ei
      have dc : d = c := by omega
      subst dc
      rw [if_neg (by omega), if_pos (by omega)] at ej
      exact h2 (j - 1) e (by omega) (by omega) ej
    · rw [if_neg a] at ei
      by_cases b : j = q
      · rw [if_pos b] at ej
        have ec : e = c := by omega
        subst ec
        rw [if_neg (by omega)] at ei
        exact h1 i d (by omega) ei
      · rw [if_neg b] at ej
        exact h.rts _ _ d e (by split <;> split <;> omega) (by split <;> omega) ei ej
/-- removeRoot. -/
theorem Gm.rem {q : Nat} (h : Gm s L n) (hq : q < n) : Gm (remS s q c n) L (n - 1) := by
  refine ⟨fun p hp => ?_, h.lim, h.ali, fun i j d e hij hj ei ej => ?_, h.fre, h.idl⟩
  · obtain ⟨a, b⟩ := h.chn p hp
    exact ⟨Chn.congr (s := s) (s' := remS s q c n) (fun _ _ => ⟨rfl, rfl⟩) a, b⟩
  · have er : ∀ i, i < n - 1 → (remS s q c n).rts i = s.rts (if q ≤ i then i + 1 else i) := fun i hi => by
      unfold remS
      by_cases e : q ≤ i
      · simp [e, hi]
      · simp [e]
    rw [er i (by omega)] at ei
    rw [er j hj] at ej
    exact h.rts _ _ d e (by split <;> split <;> omega) (by split <;> omega) ei ej
/-- What detach leaves as it was, and the watermark. -/
structure FrX (s s' : Av) (p : Nat) (top : Int) : Prop where
  lv : s'.lv = s.lv
  c0 : s'.c0 = s.c0
  c1 : s'.c1 = s.c1
  c2 : s'.c2 = s.c2
  c3 : s'.c3 = s.c3
  rg : ∀ i, i ≠ p - 256 → s'.rg i = s.rg i
  top : (s'.rg (p - 256)).top = top
/-- The watermark behind a detach. -/
def topF (s : Av) (p : Nat) (l1 l2 : List Nat) : Int :=
  match l2 with
  | [] => (match l1.getLast? with | none => (s.hd p).bas | some a => IntKind.u64.wrap ((s.hd a).bas + (s.hd a).siz))
  | _ :: _ => (s.rg (p - 256)).top
theorem Gm.cut {l1 l2 : List Nat} (h : Gm s L n) (hT : Tr s D L) (hp : IsReg s p) (hL : L p = l1 ++ c :: l2) (hf : Fr s s') (hx : FrX s s' p (topF s p l1 l2)) : Gm s' (updL L p (l1 ++ l2)) n := by
  have bs : ∀ x, (s'.hd x).bas = (s.hd x).bas ∧ (s'.hd x).siz = (s.hd x).siz := fun x => ⟨(hf.hd x).2.2.2.2.1, (hf.hd x).2.2.2.2.2⟩
  have hz : ∀ q, IsReg s q → ∀ d ∈ L q, 0 < (s.hd d).siz := fun q hq d hd => (h.lim d (hT.mem hq hd).1 (hT.mem hq hd).2.1).2.1
  refine ⟨fun q hq => ?_, fun y hy ht => ?_, fun y hy ht hp' => ?_, fun i j d e hij hj ei ej => ?_, fun y hy ht => ?_, fun y hy ht hg => ?_⟩
  · have hq0 : IsReg s q := ⟨hq.1, hq.2.1, by rw [← (hf.hd q).2.1]; exact hq.2.2⟩
    obtain ⟨q1, q2⟩ := h.chn q hq0
    rw [(bs q).1, (bs q).2]
    by_cases e : q = p
    · subst e
      rw [updL_at, hx.top]
      rw [hL] at q1
      have hz' := hz q hq0
      rw [hL] at hz'
      obtain ⟨mid, m1, m2, m3⟩ := Chn.cut q1
      have hc := hz' c (by simp)
      cases l2 with
      | nil =>
        have ht : topF s q l1 [] = mid := by
          unfold topF
          rcases snoc_cases l1 with rfl | ⟨m, a, rfl⟩
          · show (s.hd q).bas = mid
            exact (show mid = (s.hd q).bas from m1).symm
          · simp only [List.getLast?_append, List.getLast?_singleton, Option.some_or]
            have e1 := m1.end
            have hm : a ∈ L q := by rw [hL]; simp
            have l := h.lim a (hT.mem hq0 hm).1 (hT.mem hq0 hm).2.1
            rw [u64_same (by omega) (by omega), e1]
        rw [ht, List.append_nil]
        refine ⟨Chn.congr (fun d _ => bs d) m1, ?_⟩
        have : (s.rg (q - 256)).top = (s.hd c).bas + (s.hd c).siz := m3
        omega
      | cons d r =>
        refine ⟨Chn.congr (fun d _ => bs d) (m1.join (lo2 := (s.hd c).bas + (s.hd c).siz) (by omega) (by simp) m3), q2⟩
    · have : ¬ q - 256 = p - 256 := fun k => e (by have := hq.1; have := hp.1; omega)
      rw [updL_ne e, hx.rg _ this]
      exact ⟨Chn.congr (fun d _ => bs d) q1, q2⟩
  · rw [(hf.hd y).2.1] at ht
    rw [(bs y).1, (bs y).2]
    exact h.lim y hy ht
  · rw [(hf.hd y).2.1] at ht
    rw [(hf.hd y).2.2.2.1] at hp'
    have key := h.ali y hy ht hp'
    unfold Ali at key ⊢
    rw [(bs y).1, (bs y).2, (hf.hd y).2.1]
    exact key
  · rw [hf.rts] at ei ej
    rw [(bs d).1, (bs d).2, (bs e).1]
    exact h.rts i j d e hij hj ei ej
  · rw [(hf.hd y).2.1] at ht
    rw [(bs y).1, (bs y).2, (hf.hd y).2.2.2.1]
    exact h.fre y hy ht
  · rw [(hf.hd y).2.1] at ht
    rw [(hf.hd y).1] at hg
    have := h.idl y hy ht hg
    unfold Idl at this ⊢
    rw [hf.idl]
    exact this
/-- vacate. -/
theorem Gm.vac (h : Gm s L n) (hT : Tr s D L) (hc : ¬ D c) (hrt : ∀ i, i < n → s.rts i ≠ (c : Int)) (x : Value) (j : Nat) : Gm (vacS (s.setTi j x) c k) L n := by
  have hh : ∀ y, (vacS (s.setTi j x) c k).hd y = if y = c then ⟨nxG s c, 0, 0, 65535, 65535, 65535, 0, 0⟩ else s.hd y := fun y => vac_hd (s.setTi j x) c k y
  have hc' := hh c
  rw [if_pos rfl] at hc'
  have ho : ∀ y, y ≠ c → (vacS (s.setTi j x) c k).hd y = s.hd y := fun y e => by rw [hh, if_neg e]
  obtain ⟨v1, v2, _, _⟩ := vac_same (s.setTi j x) c k
  have hi : ∀ y, Idl (vacS (s.setTi j x) c k) y ↔ Idl s y ∨ (y = c ∧ nxG s c < 4294967295) := fun y => vac_idl (s.setTi j x) c k y
  have rne : ∀ i d : Nat, i < n → s.rts i = (d : Int) → d ≠ c := fun i d hi' e q => hrt i hi' (by rw [e, q])
  have er : (vacS (s.setTi j x) c k).rts = s.rts := v2
  have eg : (vacS (s.setTi j x) c k).rg = s.rg := v1
  refine ⟨fun q hq => ?_, fun y hy ht => ?_, fun y hy ht hp => ?_, fun i i' d d' hii hi' e e' => ?_, fun y hy ht => ?_, fun y hy ht hg => ?_⟩
  · have e : q ≠ c := fun e => by
      have := hq.2.2
      rw [e, hc'] at this
      exact absurd (show (0 : Int) = 1 from this) (by decide)
    have hq0 : IsReg s q := ⟨hq.1, hq.2.1, by rw [← ho q e]; exact hq.2.2⟩
    have nm : ∀ d ∈ L q, d ≠ c := fun d hd e2 => hc (by rw [← e2]; exact hT.sub q hq0 d hd)
    rw [ho q e, eg]
    obtain ⟨a1, a2⟩ := h.chn q hq0
    exact ⟨a1.congr (fun d hd => by rw [ho d (nm d hd)]; exact ⟨rfl, rfl⟩), a2⟩
  · by_cases e : y = c
    · rw [e, hc'] at ht; exact absurd rfl ht
    · rw [ho y e] at ht ⊢
      exact h.lim y hy ht
  · by_cases e : y = c
    · rw [e, hc'] at ht; exact absurd rfl ht
    · rw [ho y e] at ht hp ⊢
      exact h.ali y hy ht hp
  · rw [er] at e e'
    rw [ho d (rne i d (by omega) e), ho d' (rne i' d' hi' e')]
    exact h.rts i i' d d' hii hi' e e'
  · by_cases e : y = c
    · rw [e, hc']; exact ⟨rfl, rfl, rfl⟩
    · rw [ho y e] at ht ⊢
      exact h.fre y hy ht
  · by_cases e : y = c
    · rw [e, hc'] at hg
      exact (hi y).2 (Or.inr ⟨e, hg⟩)
    · rw [ho y e] at ht hg
      exact (hi y).2 (Or.inl (h.idl y hy ht hg))
/-- A list that is not asked for. -/
theorem Gm.congrL {L' : Nat → List Nat} (h : Gm s L n) (hL : ∀ q, IsReg s q → L' q = L q) : Gm s L' n :=
  ⟨fun q hq => by rw [hL q hq]; exact h.chn q hq, h.lim, h.ali, h.rts, h.fre, h.idl⟩
end
end Go.Proofs.Qxb6500847aGreatDoor.Os
