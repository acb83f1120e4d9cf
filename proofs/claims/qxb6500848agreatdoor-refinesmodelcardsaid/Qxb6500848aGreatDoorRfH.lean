/-
  A step of both machines: the plain side.
-/
import Derived.Test.Qxb6500848aGreatDoorBsA
import Derived.Test.Qxb6500848aGreatDoorMoC
namespace Go.Proofs.Qxb6500848aGreatDoor.Pl
section
variable {A B A' B' : List Nd} {x y z z' : Int}
theorem NdS.le (hA : Le A A') (hB : Le B B') {n m : Nd} (h : NdS A B n m) : NdS A' B' n m := by
  obtain ⟨f, g, h1, h2, h3, h4, h5⟩ := h.ex
  exact ⟨h.hk, h.hb, h.hl, h.hh, f, g, h1, fun a ha => (h2 a ha).le hA hB, h3, fun b hb => (h4 b hb).le hA hB, h5⟩
theorem NfS.le (hA : Le A A') (hB : Le B B') {n m : Nf} (h : NfS A B n m) : NfS A' B' n m := by
  cases n with
  | id a =>
    cases m with
    | id b => exact Sim.le hA hB h
    | nd m => exact h.elim
  | nd n =>
    cases m with
    | id b => exact h.elim
    | nd m => exact ⟨h.1.le hA hB, h.2⟩
/-- What is added has its partner. -/
theorem Im.add (hB' : Wf B') {nf : Nf} (h : Im A B) (a : Add B B' nf) (hl : Le B B') (v : Val B' nf z') (s : Sim A B' z z') : Im A B' := by
  intro y hy
  rcases a with rfl | ⟨n, rfl, rfl⟩
  · exact h y hy
  · by_cases e : Valid B y
    · obtain ⟨x, hx⟩ := h y e
      exact ⟨x, hx.le (Le.refl _) hl⟩
    · obtain ⟨v1, v2⟩ := v
      have e1 : y.toNat = B.length := by
        have h1 := hy.1
        have h2 := hy.2
        rw [List.length_append, List.length_singleton] at h2
        have : ¬ y.toNat < B.length := fun q => e ⟨h1, q⟩
        omega
      have hn : nodeAt (B ++ [n]) y = n := by
        unfold nodeAt
        rw [e1]
        simp
      have := node_inj hB' hy v1 (hn.trans v2.symm)
      rw [this]
      exact ⟨z, s⟩
theorem noVal_not {nf : Nf} (h : NoVal B nf) (v : Val B nf y) : False := by
  cases nf with
  | id a => exact h
  | nd n =>
    obtain ⟨v1, v2⟩ := v
    refine h y.toNat v1.2 ?_
    rw [← v2]
    unfold nodeAt
    exact (getD_lt v1.2 noneNd).symm
end
end Go.Proofs.Qxb6500848aGreatDoor.Pl
namespace Go.Proofs.Qxb6500848aGreatDoor
open Go.RowKit Pl Go.Maps
set_option maxRecDepth 100000

/-- Registers that are alike. -/
def Rs (A B : List Nd) (l m : List Int) : Prop := l.length = m.length ∧ ∀ i, i < l.length → Sim A B (l.getD i 0) (m.getD i 0)
section
variable {A B A' B' : List Nd} {l m regs regs2 regs' regs2' : List Int} {x y z z' k oa ob oc : Int}
theorem Rs.le (h : Rs A B l m) (hA : Le A A') (hB : Le B B') : Rs A' B' l m := ⟨h.1, fun i hi => (h.2 i hi).le hA hB⟩
theorem Rs.at (h : Rs A B l m) (hl : l ≠ []) (i : Int) : Sim A B (rg l i) (rg m i) := by
  have hp : 0 < l.length := List.length_pos_iff.2 hl
  have q0 : 0 ≤ i % (l.length : Int) := Int.emod_nonneg _ (by omega)
  have q1 : i % (l.length : Int) < (l.length : Int) := Int.emod_lt_of_pos _ (by omega)
  unfold rg
  rw [← h.1]
  exact h.2 _ (by omega)
theorem Rs.app (h : Rs A B l m) (s : Sim A B z z') : Rs A B (l ++ [z]) (m ++ [z']) := by
  refine ⟨by simp [h.1], fun i hi => ?_⟩
  have hl := h.1
  by_cases e : i < l.length
  · have e2 : i < m.length := by omega
    have a := h.2 i e
    simpa [List.getD, List.getElem?_append, e, e2] using a
  · have e1 : i = l.length := by simp at hi; omega
    subst e1
    simpa [List.getD, List.getElem?_append, hl] using s
theorem Rs.tail (h : Rs A B l m) : Rs A B l.tail m.tail := by
  refine ⟨by simp [h.1], fun i hi => ?_⟩
  have := h.2 (i + 1) (by simp at hi; omega)
  simpa [List.getD, List.getElem?_tail] using this
theorem Rs.push (h : Rs A B l m) (s : Sim A B z z') : Rs A B (Go.Proofs.Qxb6500848aGreatDoor.push l z) (Go.Proofs.Qxb6500848aGreatDoor.push m z') := by
  unfold Go.Proofs.Qxb6500848aGreatDoor.push
  rw [← h.1]
  split
  · exact (h.app s).tail
  · exact h.app s

theorem nfK_same (hA : Wf A) (hB : Wf B) (hs : 4 < k → ∀ i, Sim A B (rg regs i) (rg regs2 i)) (hk : 0 ≤ k ∧ k ≤ 14) : NfS A B (nfK k oa ob oc A regs) (nfK k oa ob oc B regs2) := by
  unfold nfK
  refine ite_both Iff.rfl (fun _ => sim0 hA hB) (fun n0 => ite_both Iff.rfl (fun _ => sim1 hA hB) (fun n1 => ite_both Iff.rfl (fun _ => sim2 hA hB) (fun n2 => ite_both Iff.rfl (fun _ => classS hA hB _) (fun n3 => ite_both Iff.rfl (fun _ => classS hA hB _) (fun n4 => ?_)))))
  have s := hs (by omega)
  exact ite_both Iff.rfl (fun _ => concatS hA hB (s _) (s _)) (fun _ => ite_both Iff.rfl (fun _ => unionS hA hB (pairS (s _) (s _))) (fun _ => ite_both Iff.rfl (fun _ => interS hA hB (pairS (s _) (s _))) (fun _ => ite_both Iff.rfl (fun _ => compS hA hB (s _)) (fun _ => ite_both Iff.rfl (fun _ => starS hA hB (s _)) (fun _ => ite_both Iff.rfl (fun _ => loopS hA hB _ _ (s _)) (fun _ => ite_both Iff.rfl (fun _ => loopS hA hB _ _ (s _)) (fun _ => ite_both Iff.rfl (fun _ => loopS hA hB _ _ (s _)) (fun _ => loopS hA hB _ _ (s _)))))))))

theorem bz_mz (hA : Wf A) (hB : Wf B) (hA' : Wf A') (hB' : Wf B') (lA : Le A A') (lB : Le B B') (im : Im A B) (hs : 4 < k → ∀ i, Sim A B (rg regs i) (rg regs2 i)) (hk : 0 ≤ k ∧ k ≤ 14) (hz : Bz k oa ob oc A regs A' z) (hm : Mz k oa ob oc B regs2 B' z') : Sim A' B' z z' ∧ Im A' B' := by
  unfold Bz at hz
  unfold Mz at hm
  by_cases e : k = 8
  · rw [if_pos e] at hz hm
    obtain ⟨A1, c, l1, w1, l2, v1, v2⟩ := hz
    obtain ⟨B1, c', m1, wB1, m2, u1, a1, u2, a2⟩ := hm
    have s := hs (by omega)
    have sc : Sim A1 B1 c c' := ((compS hA hB (s ob)).le l1 m1).made w1 wB1 v1 u1
    have n := interS w1 wB1 (pairS ((s oa).le l1 m1) sc)
    have sz := (n.le l2 m2).made hA' hB' v2 u2
    have im1 : Im A' B1 := Im.add wB1 (im.le lA) a1 m1 u1 (sc.le l2 (Le.refl _))
    exact ⟨sz, Im.add hB' im1 a2 m2 u2 sz⟩
  · rw [if_neg e] at hz hm
    have s := ((nfK_same hA hB hs hk).le lA lB).made hA' hB' hz hm.1
    exact ⟨s, Im.add hB' (im.le lA) hm.2 lB hm.1 s⟩
theorem bz_mf (hA : Wf A) (hB : Wf B) (hA' : Wf A') (hB' : Wf B') (lA : Le A A') (lB : Le B B') (im : Im A B) (hs : 4 < k → ∀ i, Sim A B (rg regs i) (rg regs2 i)) (hk : 0 ≤ k ∧ k ≤ 14) (hlen : (A'.length : Int) ≤ 65536) (hz : Bz k oa ob oc A regs A' z) (hm : Mf k oa ob oc B regs2 B') : False := by
  unfold Bz at hz
  unfold Mf at hm
  obtain ⟨h1, hm⟩ := hm
  have hle : A'.length ≤ B'.length := by omega
  by_cases e : k = 8
  · rw [if_pos e] at hz hm
    obtain ⟨A1, c, l1, w1, l2, v1, v2⟩ := hz
    have s := hs (by omega)
    rcases hm with ⟨rfl, hno⟩ | ⟨c', m1, _, u1, a1, hno⟩
    · have v1' := v1.le l2
      obtain ⟨y, hy⟩ := Im.all hB (im.le lA) hle v1'.valid
      exact noVal_not hno (((compS hA hB (s ob)).le lA (Le.refl _)).found hA' hB v1' hy)
    · have sc : Sim A1 B' c c' := ((compS hA hB (s ob)).le l1 lB).made w1 hB' v1 u1
      have n := (interS w1 hB' (pairS ((s oa).le l1 lB) sc)).le l2 (Le.refl _)
      have im1 : Im A' B' := Im.add hB' (im.le lA) a1 lB u1 (sc.le l2 (Le.refl _))
      obtain ⟨y, hy⟩ := Im.all hB' im1 hle v2.valid
      exact noVal_not hno (n.found hA' hB' v2 hy)
  · rw [if_neg e] at hz hm
    obtain ⟨rfl, hno⟩ := hm
    obtain ⟨y, hy⟩ := Im.all hB (im.le lA) hle hz.valid
    exact noVal_not hno (((nfK_same hA hB hs hk).le lA (Le.refl _)).found hA' hB hz hy)
/-- A build of both: the real one is full, or they agree. -/
theorem build_same (hA : Wf A) (hB : Wf B) (hA' : Wf A') (hB' : Wf B') (lA : Le A A') (lB : Le B B') (im : Im A B) (rs : Rs A B regs regs2) (hr : 4 < k → regs ≠ []) (hk : 0 ≤ k ∧ k ≤ 14) (hlen : (A'.length : Int) ≤ 65536) {f0 f2 : Bool} {v : Value} (hb : Bend (Bz k oa ob oc A regs) regs A' regs' f0 f2) (hm : Mend k oa ob oc B regs2 B' regs2' v) :
    f2 = true ∨ (f2 = false ∧ v = .agg #[.bool f0, .bool false, .bool false, .bool false, .int .i64 0] ∧ Rs A' B' regs' regs2' ∧ Im A' B') := by
  have hs : 4 < k → ∀ i, Sim A B (rg regs i) (rg regs2 i) := fun e => rs.at (hr e)
  rcases hb with ⟨h1, _⟩ | ⟨h1, z, hz, hb⟩
  · exact Or.inl h1
  · refine Or.inr ⟨h1, ?_⟩
    obtain ⟨g0, g2, rfl, hm⟩ := hm
    rcases hm with ⟨_, _, _, hm⟩ | ⟨rfl, z', hz', hm⟩
    · exact (bz_mf hA hB hA' hB' lA lB im hs hk hlen hz hm).elim
    · obtain ⟨s, im'⟩ := bz_mz hA hB hA' hB' lA lB im hs hk hz hz'
      have es := s.size hA' hB'
      have rs' := rs.le lA lB
      rcases hb with ⟨b1, rfl, rfl⟩ | ⟨b1, rfl, rfl⟩ <;> rcases hm with ⟨c1, rfl, rfl⟩ | ⟨c1, rfl, rfl⟩
      · exact ⟨rfl, rs'.push s, im'⟩
      · omega
      · omega
      · exact ⟨rfl, rs', im'⟩
end
end Go.Proofs.Qxb6500848aGreatDoor
