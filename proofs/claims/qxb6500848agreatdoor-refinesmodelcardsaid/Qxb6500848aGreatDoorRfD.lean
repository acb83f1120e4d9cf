/-
  What the layer's returns mean for a question.
-/
import Derived.Test.Qxb6500848aGreatDoorRfC
namespace Go.Proofs.Qxb6500848aGreatDoor
open Go.RowKit Pl Go.Maps
set_option maxRecDepth 100000

section
variable {X' : Nat → Prop} {w' : World} {A A' : List Nd} {ad af an : Addr} {x z ob lim : Int} {wd p u : Word} {b : Bool} {ev v : Value}

theorem anR_nil (h : AnR b .nilIface ad af v) : v = numV (if b then 1 else 0) := by
  rcases h with ⟨_, h⟩ | ⟨e, _⟩ | ⟨e, _⟩
  · exact h
  · cases e
  · cases e
theorem anR_full (ne : ad ≠ af) (h : AnR b (.iface 216 (.pointer (some af))) ad af v) : v = fullV := by
  rcases h with ⟨e, _⟩ | ⟨_, h⟩ | ⟨e, _⟩
  · cases e
  · exact h
  · simp only [Value.iface.injEq, Value.pointer.injEq, Option.some.injEq, true_and] at e
    exact absurd e.symm ne
theorem anR_ref (ne : ad ≠ af) (h : AnR b (.iface 216 (.pointer (some ad))) ad af v) : v = refV := by
  rcases h with ⟨e, _⟩ | ⟨e, _⟩ | ⟨_, h⟩
  · cases e
  · simp only [Value.iface.injEq, Value.pointer.injEq, Option.some.injEq, true_and] at e
    exact absurd e ne
  · exact h

abbrev Evs (ev : Value) (ad af : Addr) : Prop := ev = .nilIface ∨ ev = .iface 216 (.pointer (some af)) ∨ ev = .iface 216 (.pointer (some ad))

theorem mt_ask (sn : Sn X' w' ad af an) (hh : (ev = .nilIface ∧ (b = true ↔ Alph wd ∧ lang A' x wd)) ∨ ((∃ t v, ev = .iface t v) ∧ b = false ∧ Fl lim A' w' ev)) : Evs ev ad af ∧ ∀ v, AnR b ev ad af v → AskR 18 ob A' x wd p v := by
  rcases hh with ⟨rfl, h⟩ | ⟨_, _, hf⟩
  · exact ⟨Or.inl rfl, fun v hv => Or.inr (ask18 ⟨b, h, anR_nil hv⟩)⟩
  · obtain rfl := sn.full hf
    exact ⟨Or.inr (Or.inl rfl), fun v hv => Or.inl (anR_full sn.ne hv)⟩
theorem mp_ask (hA : Wf A) (hx : Valid A x) (hle : Le A A') (sn : Sn X' w' ad af an) (hh : (¬ PlainR A x ∧ ev = .iface 216 (.pointer (some ad)) ∧ b = false) ∨ (PlainR A x ∧ ev = .nilIface ∧ (b = true ↔ Alph wd ∧ lang A' x wd)) ∨ (PlainR A x ∧ (∃ t u, ev = .iface t u) ∧ b = false ∧ Fl lim A' w' ev)) :
    Evs ev ad af ∧ ∀ v, AnR b ev ad af v → AskR 19 ob A' x wd p v := by
  have hp := PlainR.le hA hle hx
  rcases hh with ⟨n, rfl, _⟩ | ⟨n, rfl, h⟩ | ⟨n, _, _, hf⟩
  · exact ⟨Or.inr (Or.inr rfl), fun v hv => Or.inr (ask19 (Or.inr ⟨fun q => n (hp.1 q), anR_ref sn.ne hv⟩))⟩
  · exact ⟨Or.inl rfl, fun v hv => Or.inr (ask19 (Or.inl ⟨hp.2 n, b, h, anR_nil hv⟩))⟩
  · obtain rfl := sn.full hf
    exact ⟨Or.inr (Or.inl rfl), fun v hv => Or.inl (anR_full sn.ne hv)⟩
theorem dw_ask (sn : Sn X' w' ad af an) (hh : (ev = .nilIface ∧ Valid A' z ∧ QuotW A' wd x z) ∨ ((∃ t v, ev = .iface t v) ∧ z = 0 ∧ Fl lim A' w' ev)) :
    (ev = .nilIface ∧ Valid A' z ∧ ∀ b : Bool, (b = true ↔ Alph p ∧ lang A' z p) → ∀ v, AnR b .nilIface ad af v → AskR 15 ob A' x wd p v) ∨ (ev = .iface 216 (.pointer (some af)) ∧ z = 0) := by
  rcases hh with ⟨rfl, hz, hq⟩ | ⟨_, hz, hf⟩
  · exact Or.inl ⟨rfl, hz, fun b hb v hv => Or.inr (ask15 ⟨b, hb.trans (hq p), anR_nil hv⟩)⟩
  · exact Or.inr ⟨sn.full hf, hz⟩
theorem bk_ask {P : List (List Nat)} {n : Nat} (hA : Wf A) (hA' : Wf A') (hx : Valid A x) (hle : Le A A') (hP : IsCut tabC A x P) (hn : n = P.length) (sn : Sn X' w' ad af an)
    (hh : ((ob % (n : Int) < 0 ∨ (P.length : Int) ≤ ob % (n : Int)) ∧ ev = .iface 216 (.pointer (some an))) ∨ ((0 ≤ ob % (n : Int) ∧ ob % (n : Int) < (P.length : Int)) ∧ ((ev = .nilIface ∧ Valid A' z ∧ Der A' (minF tabC (P.getD (ob % (n : Int)).toNat [])) x z) ∨ ((∃ t v, ev = .iface t v) ∧ z = 0 ∧ Fl lim A' w' ev)))) :
    (ev = .nilIface ∧ Valid A' z ∧ ∀ b : Bool, (b = true ↔ Alph p ∧ lang A' z p) → ∀ v, AnR b .nilIface ad af v → AskR 16 ob A' x u p v) ∨ (ev = .iface 216 (.pointer (some af)) ∧ z = 0) := by
  subst hn
  have hpos : 0 < P.length := List.length_pos_iff.2 (cut_some hP)
  have m0 : 0 ≤ ob % (P.length : Int) := Int.emod_nonneg _ (by omega)
  have m1 : ob % (P.length : Int) < (P.length : Int) := Int.emod_lt_of_pos _ (by omega)
  rcases hh with ⟨h, _⟩ | ⟨_, ⟨rfl, hz, hd⟩ | ⟨_, hz, hf⟩⟩
  · omega
  · refine Or.inl ⟨rfl, hz, fun b hb v hv => Or.inr (ask16 ⟨P, hP.le hA hle hx, b, ?_, anR_nil hv⟩)⟩
    have hj : (ob % (P.length : Int)).toNat < P.length := by omega
    have hc : 0 ≤ minF tabC (P.getD (ob % (P.length : Int)).toNat []) ∧ minF tabC (P.getD (ob % (P.length : Int)).toNat []) ≤ 196607 := by
      rw [List.getD_eq_getElem?_getD, List.getElem?_eq_getElem hj]
      exact (hP.rep hj).1
    have hq := (hd.quot hA' (hle.valid hx)).2
    refine hb.trans ⟨fun q => ⟨fun c hm => ?_, (hq p q.1).1 q.2⟩, fun q => ?_⟩
    · rcases List.mem_cons.1 hm with e | hm
      · rw [e]; exact hc
      · exact q.1 c hm
    · have ha : Alph p := fun c hm => q.1 c (List.mem_cons_of_mem _ hm)
      exact ⟨ha, (hq p ha).2 q.2⟩
  · exact Or.inr ⟨sn.full hf, hz⟩
theorem pw_ask (hA : Wf A) (hA' : Wf A') (hx : Valid A x) (hle : Le A A') {pv : Value} {K : Prop} (sn : Sn X' w' ad af an)
    (hh : (¬ PlainR A x ∧ ev = .iface 216 (.pointer (some ad)) ∧ pv = .slice none 0 0) ∨ (PlainR A x ∧ ev = .nilIface ∧ ∃ l, Ints X' w' pv l ∧ Nz pv ∧ l.length ≤ 65536 ∧ K ∧ ((Alph wd ∧ ParP A' x wd l) ∨ (¬ Alph wd ∧ l = []))) ∨ (PlainR A x ∧ (∃ t u, ev = .iface t u) ∧ pv = .slice none 0 0 ∧ Fl lim A' w' ev)) :
    Evs ev ad af ∧ ∃ ps, Ints X' w' pv ps ∧ ps.length ≤ 65536 ∧ (∀ q ∈ ps, Valid A' q) ∧ ∀ b : Bool, (b = true ↔ ∃ q ∈ ps, Alph p ∧ lang A' q p) → ∀ v, AnR b ev ad af v → AskR 17 ob A' x wd p v := by
  have hp := PlainR.le hA hle hx
  have hx' := hle.valid hx
  rcases hh with ⟨n, rfl, rfl⟩ | ⟨n, rfl, l, h1, _, h3, _, h5⟩ | ⟨n, _, rfl, hf⟩
  · exact ⟨Or.inr (Or.inr rfl), [], Seq.nil _ _, by simp, fun q hq => (by cases hq), fun b _ v hv => Or.inr (ask17 (Or.inr ⟨fun q => n (hp.1 q), anR_ref sn.ne hv⟩))⟩
  · refine ⟨Or.inl rfl, l, h1, h3, fun q hq => ?_, fun b hb v hv => Or.inr (ask17 (Or.inl ⟨hp.2 n, b, hb.trans ?_, anR_nil hv⟩))⟩
    · rcases h5 with ⟨_, h5⟩ | ⟨_, h5⟩
      · exact h5.valid hA' hx' q hq
      · rw [h5] at hq; cases hq
    · rcases h5 with ⟨ha, h5⟩ | ⟨ha, h5⟩
      · have hq := h5.quot hA' hx'
        refine ⟨fun ⟨q, hm, hap, hl⟩ => ⟨fun c hc => ?_, (hq p hap).1 ⟨q, hm, hl⟩⟩, fun q => ?_⟩
        · rcases List.mem_append.1 hc with hc | hc
          · exact ha c hc
          · exact hap c hc
        · have hap : Alph p := fun c hm => q.1 c (List.mem_append_right _ hm)
          obtain ⟨y, hm, hl⟩ := (hq p hap).2 q.2
          exact ⟨y, hm, hap, hl⟩
      · rw [h5]
        exact ⟨fun ⟨q, hm, _⟩ => (by cases hm), fun q => absurd (fun c hm => q.1 c (List.mem_append_left _ hm)) ha⟩
  · obtain rfl := sn.full hf
    exact ⟨Or.inr (Or.inl rfl), [], Seq.nil _ _, by simp, fun q hq => (by cases hq), fun b _ v hv => Or.inl (anR_full sn.ne hv)⟩
end
section
variable {P : Program} {ops : Array Oper} {md : Region.Mode} {Q : Exit → Act → World → Prop} {fuel : Nat} {listed : Array Bool} {a : Act} {w : World}
theorem any_skip {i : Nat} {d : Option Nat} (hw : (ops[i]?.map fun o => (o.dst, Region.wanted o (yielded ops a.tmps))) = some (d, false)) (hs : Region.noSelect ops = true) (hf : Region.free md ops listed i = true) (hr : (Region.ready md ops listed).contains i = true)
    (hQ : ∀ c a w, Q (.panic c) (a.put d undef) w → Q (.panic c) a w) (h : wpAny P md ops Q fuel (listed.setIfInBounds i true) (a.put d undef) w) : wpAny P md ops Q (fuel + 1) listed a w := by
  obtain ⟨o, ho, e⟩ := Option.map_eq_some_iff.1 hw
  simp only [Prod.mk.injEq] at e
  obtain ⟨rfl, e2⟩ := e
  exact wpAny_take ho hs hf hr hQ (Or.inr ⟨e2, rfl⟩) h
theorem any_do {i : Nat} {d : Option Nat} {v : Value} {E : Sem Next} (hw : (ops[i]?.map fun o => (o.dst, Region.wanted o (yielded ops a.tmps), execOp a.eval o)) = some (d, true, E)) (hs : Region.noSelect ops = true) (hf : Region.free md ops listed i = true) (hr : (Region.ready md ops listed).contains i = true)
    (hQ : ∀ c a w, Q (.panic c) (a.put d v) w → Q (.panic c) a w) (hv : ∀ w, E.run P w = .ok (.value v) w) (h : wpAny P md ops Q fuel (listed.setIfInBounds i true) (a.put d v) w) : wpAny P md ops Q (fuel + 1) listed a w := by
  obtain ⟨o, ho, e⟩ := Option.map_eq_some_iff.1 hw
  simp only [Prod.mk.injEq] at e
  obtain ⟨rfl, e2, rfl⟩ := e
  exact wpAny_take ho hs hf hr hQ (Or.inl ⟨e2, hv⟩) h
theorem anyH_do {S : World → Prop} {i : Nat} {d : Option Nat} {v : Value} {E : Sem Next} (hw : (ops[i]?.map fun o => (o.dst, Region.wanted o (yielded ops a.tmps), execOp a.eval o)) = some (d, true, E)) (hs : Region.noSelect ops = true) (hf : Region.free md ops listed i = true) (hr : (Region.ready md ops listed).contains i = true)
    (hQ : ∀ c a w, Q (.panic c) (a.put d v) w → Q (.panic c) a w) (hv : ∀ w, S w → E.run P w = .ok (.value v) w) (hS : S w) (h : wpAnyH P md ops Q S fuel (listed.setIfInBounds i true) (a.put d v) w) : wpAnyH P md ops Q S (fuel + 1) listed a w := by
  obtain ⟨o, ho, e⟩ := Option.map_eq_some_iff.1 hw
  simp only [Prod.mk.injEq] at e
  obtain ⟨rfl, e2, rfl⟩ := e
  exact wpAnyH_take ho hs hf hr hQ (Or.inl ⟨e2, hv⟩) hS h
end
end Go.Proofs.Qxb6500848aGreatDoor
