/-
  Both machines in one world.
-/
import Derived.Test.Qxb6500848aGreatDoorRfI
import Derived.Test.Qxb6500848aGreatDoorRfH
import Derived.Test.Qxb6500848aGreatDoorRfM
namespace Go.Proofs.Qxb6500848aGreatDoor
open Go.RowKit Pl Go.Maps
set_option maxRecDepth 100000

structure Bm (B0 kb eb mb ab hb ab2 : Nat) (ad af an : Addr) (Z : Nat → Prop) (w : World) (nb nb2 : Nat) (A B : List Nd) (regs regs2 : List Int) : Prop where
  md : MD kb eb mb ab 65536 regs ad Z w nb A
  sn : Sn Z w ad af an
  mo : Mo Z w hb ab2 nb2 B regs2
  dis : ∀ b, Tr w kb mb ab nb b → ¬ Tm w hb ab2 nb2 b
  lo : ∀ b, Z b → B0 ≤ b
  big : B0 ≤ w.heap.size

section
variable {R : List Nd → List Int → Value → Prop} {B0 kb eb mb ab hb ab2 nb nb2 : Nat} {ad af an : Addr} {Z : Nat → Prop} {w w' : World} {A B : List Nd} {regs regs2 : List Int} {e : Ending}

theorem Tr.z (h : MD kb eb mb ab 65536 regs ad Z w nb A) {b : Nat} (t : Tr w kb mb ab nb b) : Z b ∨ IsMap w b := by
  rcases t with t | t
  · left
    rcases t with t | t | t | t | ⟨off, n, cap, t⟩
    · rw [t]; exact h.mc.en.st.ar.xa
    · rw [t]; exact h.mc.en.st.ar.xn
    · rw [t]; exact h.mc.xk
    · rw [t]; exact h.mc.en.xm
    · obtain ⟨rv, r1, r2⟩ := h.mc.reg
      rw [box_cell r1 2] at t
      have e : rv = .slice (some ⟨b, off, none⟩) n cap := Option.some.inj t
      rcases r2 with ⟨q, _⟩ | ⟨rb', off', cap', cells, q, xr, _⟩
      · rw [q] at e; cases e
      · rw [q] at e
        simp only [Value.slice.injEq, Option.some.injEq, Addr.mk.injEq] at e
        rw [← e.1.1]
        exact xr
  · exact Or.inr (es_maps h.es t)
theorem Tm.z (h : Mo Z w hb ab2 nb2 B regs2) {b : Nat} (t : Tm w hb ab2 nb2 b) : Z b := by
  rcases t with t | t | t | ⟨off, n, cap, t⟩
  · rw [t]; exact h.st.ar.xa
  · rw [t]; exact h.st.ar.xn
  · rw [t]; exact h.xh
  · obtain ⟨rv, r1, r2⟩ := h.reg
    rw [box_cell r1 1] at t
    have e : rv = .slice (some ⟨b, off, none⟩) n cap := Option.some.inj t
    rcases r2 with ⟨q, _⟩ | ⟨rb', off', cap', cells, q, xr, _⟩
    · rw [q] at e; cases e
    · rw [q] at e
      simp only [Value.slice.injEq, Option.some.injEq, Addr.mk.injEq] at e
      rw [← e.1.1]
      exact xr
theorem Bm.tlo (h : Bm B0 kb eb mb ab hb ab2 ad af an Z w nb nb2 A B regs regs2) {b : Nat} (t : Tr w kb mb ab nb b) : B0 ≤ b := by
  rcases t with t | t
  · rcases t with t | t | t | t | ⟨off, n, cap, t⟩
    · rw [t]; exact h.lo _ h.md.mc.en.st.ar.xa
    · rw [t]; exact h.lo _ h.md.mc.en.st.ar.xn
    · rw [t]; exact h.lo _ h.md.mc.xk
    · rw [t]; exact h.lo _ h.md.mc.en.xm
    · obtain ⟨rv, r1, r2⟩ := h.md.mc.reg
      rw [box_cell r1 2] at t
      have e : rv = .slice (some ⟨b, off, none⟩) n cap := Option.some.inj t
      rcases r2 with ⟨q, _⟩ | ⟨rb', off', cap', cells, q, xr, _⟩
      · rw [q] at e; cases e
      · rw [q] at e
        simp only [Value.slice.injEq, Option.some.injEq, Addr.mk.injEq] at e
        rw [← e.1.1]
        exact h.lo _ xr
  · exact Nat.le_trans (h.lo _ h.md.mc.en.xm) t.1

theorem Bm.real (h : Bm B0 kb eb mb ab hb ab2 ad af an Z w nb nb2 A B regs regs2) (hp : RlPost R kb eb mb ab ad af an Z w nb A e w') :
    ∃ Z' nb' A' regs' f0 f1 f2 f3 n, e = .returned (.agg #[.bool f0, .bool f1, .bool f2, .bool f3, .int .i64 n]) ∧ R A' regs' (.agg #[.bool f0, .bool f1, .bool f2, .bool f3, .int .i64 n]) ∧ Bm B0 kb eb mb ab hb ab2 ad af an Z' w' nb' nb2 A' B regs' regs2 ∧ regs'.length ≤ 8 ∧ Le A A' ∧ Below B0 w w' ∧ (∀ b, b < w.heap.size → ¬ Tr w kb mb ab nb b → w'.heap[b]? = w.heap[b]?) ∧ (∀ b, b < w.heap.size → (Z' b ↔ Z b)) ∧ (∀ b, b < w.heap.size → Tr w' kb mb ab nb' b → Tr w kb mb ab nb b) ∧ (∀ b, Tm w' hb ab2 nb2 b → Tm w hb ab2 nb2 b) := by
  obtain ⟨Z', nb', A', regs', f0, f1, f2, f3, n, rfl, hR, md, sn, hl, le, ext, sub, tn, tr⟩ := hp
  have hT : ∀ b, b < w.heap.size → Tr w kb mb ab nb b → (Z b ∨ IsMap w b) ∧ ¬ Tm w hb ab2 nb2 b := fun b _ t => ⟨t.z h.md, h.dis b t⟩
  have ec : w'.cell? ⟨hb, 1, none⟩ = w.cell? ⟨hb, 1, none⟩ := ext.cell (p := ⟨hb, 1, none⟩) h.mo.lh (fun t => h.dis hb t (Or.inr (Or.inr (Or.inl rfl))))
  have hm : ∀ b, Tm w' hb ab2 nb2 b → Tm w hb ab2 nb2 b := fun b m => by
    rcases m with m | m | m | ⟨off, n, cap, m⟩
    · exact Or.inl m
    · exact Or.inr (Or.inl m)
    · exact Or.inr (Or.inr (Or.inl m))
    · exact Or.inr (Or.inr (Or.inr ⟨off, n, cap, ec.symm.trans m⟩))
  have ht : ∀ b, b < w.heap.size → Tr w' kb mb ab nb' b → Tr w kb mb ab nb b := fun b lb t => by
    rcases t with t | t
    · rcases t with t | t | t | t | ⟨off, n, cap, t⟩
      · exact Or.inl (Or.inl t)
      · rw [t] at lb ⊢; exact tn lb
      · exact Or.inl (Or.inr (Or.inr (Or.inl t)))
      · exact Or.inl (Or.inr (Or.inr (Or.inr (Or.inl t))))
      · exact tr b off n cap t lb
    · exact Or.inr t
  refine ⟨Z', nb', A', regs', f0, f1, f2, f3, n, rfl, hR, ⟨md, sn, h.mo.keepM ext hT sub md.mc.en.st.xlt, fun b t m => ?_, fun b q => ?_, Nat.le_trans h.big ext.size⟩, hl, le, ext.below' h.big (fun k hk t => by have := h.tlo t; omega), fun b l t => ext.block b l t, sub, ht, hm⟩
  · have m' := hm b m
    exact h.dis b (ht b (h.mo.st.xlt b (m'.z h.mo)) t) m'
  · by_cases l : b < w.heap.size
    · exact h.lo b ((sub b l).1 q)
    · exact Nat.le_trans h.big (Nat.not_lt.1 l)
theorem Bm.model (h : Bm B0 kb eb mb ab hb ab2 ad af an Z w nb nb2 A B regs regs2) (hp : StPost R Z w hb ab2 nb2 B e w') :
    ∃ Z' nb' B' regs' v, e = .returned v ∧ R B' regs' v ∧ Bm B0 kb eb mb ab hb ab2 ad af an Z' w' nb nb' A B' regs regs' ∧ regs'.length ≤ 8 ∧ Le B B' ∧ Below B0 w w' ∧ (∀ b, b < w.heap.size → ¬ Tm w hb ab2 nb2 b → w'.heap[b]? = w.heap[b]?) ∧ (∀ b, b < w.heap.size → (Z' b ↔ Z b)) ∧ (∀ b, Tr w' kb mb ab nb b → Tr w kb mb ab nb b) ∧ (∀ b, b < w.heap.size → Tm w' hb ab2 nb' b → Tm w hb ab2 nb2 b) := by
  obtain ⟨Z', nb', B', regs', v, rfl, hR, mo, hl, ext, sub, le, nbs, tr⟩ := hp
  have hT : ∀ b, b < w.heap.size → Tm w hb ab2 nb2 b → Z b ∧ ¬ Tb w kb mb ab nb b := fun b _ t => ⟨t.z h.mo, fun q => h.dis b (Or.inl q) t⟩
  have ec : w'.cell? ⟨kb, 2, none⟩ = w.cell? ⟨kb, 2, none⟩ := ext.cell (p := ⟨kb, 2, none⟩) h.md.mc.lk (fun t => h.dis kb (Or.inl (Or.inr (Or.inr (Or.inl rfl)))) t)
  have ht : ∀ b, Tr w' kb mb ab nb b → Tr w kb mb ab nb b := fun b t => by
    rcases t with t | t
    · rcases t with t | t | t | t | ⟨off, n, cap, t⟩
      · exact Or.inl (Or.inl t)
      · exact Or.inl (Or.inr (Or.inl t))
      · exact Or.inl (Or.inr (Or.inr (Or.inl t)))
      · exact Or.inl (Or.inr (Or.inr (Or.inr (Or.inl t))))
      · exact Or.inl (Or.inr (Or.inr (Or.inr (Or.inr ⟨off, n, cap, ec.symm.trans t⟩))))
    · exact Or.inr t
  have hm : ∀ b, b < w.heap.size → Tm w' hb ab2 nb' b → Tm w hb ab2 nb2 b := fun b lb m => by
    rcases m with m | m | m | ⟨off, n, cap, m⟩
    · exact Or.inl m
    · rcases nbs with q | q
      · exact Or.inr (Or.inl (m.trans q))
      · omega
    · exact Or.inr (Or.inr (Or.inl m))
    · exact Or.inr (Or.inr (tr b off n cap m lb))
  refine ⟨Z', nb', B', regs', v, rfl, hR, ⟨h.md.keepM ext hT sub mo.st.xlt, h.sn.ext ext (fun b l t => (hT b l t).1) sub, mo, fun b t m => ?_, fun b q => ?_, Nat.le_trans h.big ext.size⟩, hl, le, ext.below' h.big (fun k hk t => by have := h.lo k (t.z h.mo); omega), fun b l t => ext.block b l t, sub, ht, hm⟩
  · have t' := ht b t
    exact h.dis b t' (hm b (t'.lt h.md) m)
  · by_cases l : b < w.heap.size
    · exact h.lo b ((sub b l).1 q)
    · exact Nat.le_trans h.big (Nat.not_lt.1 l)
theorem Bm.below (h : Bm B0 kb eb mb ab hb ab2 ad af an Z w nb nb2 A B regs regs2) (k : Below w.heap.size w w') : Bm B0 kb eb mb ab hb ab2 ad af an Z w' nb nb2 A B regs regs2 := by
  have ec : w'.cell? ⟨hb, 1, none⟩ = w.cell? ⟨hb, 1, none⟩ := k.cell (p := ⟨hb, 1, none⟩) h.mo.lh
  refine ⟨h.md.below k, h.sn.ext (Ext.of_below k (fun _ => False)) (fun _ _ q => q.elim) (fun _ _ => Iff.rfl), h.mo.below k, fun b t m => h.dis b (Tr.at h.md k t) ?_, h.lo, Nat.le_trans h.big k.size⟩
  rcases m with m | m | m | ⟨off, n, cap, m⟩
  · exact Or.inl m
  · exact Or.inr (Or.inl m)
  · exact Or.inr (Or.inr (Or.inl m))
  · exact Or.inr (Or.inr (Or.inr ⟨off, n, cap, ec.symm.trans m⟩))
end

/-- Registers alike, arenas alike. -/
theorem joint {A B A' B' : List Nd} {regs regs2 regs' regs2' : List Int} {k oa ob oc n : Int} {u p : Word} {f0 f1 f2 f3 : Bool} {v : Value} (hA : Wf A) (hB : Wf B) (hA' : Wf A') (hB' : Wf B') (lA : Le A A') (lB : Le B B') (im : Im A B) (rs : Rs A B regs regs2) (hlen : (A'.length : Int) ≤ 65536)
    (hr : StR k oa ob oc A regs u p A' regs' (.agg #[.bool f0, .bool f1, .bool f2, .bool f3, .int .i64 n])) (hm : MoR k oa ob oc B regs2 u p B' regs2' v) :
    (f2 = true ∧ ((0 ≤ k ∧ k ≤ 14) ∨ (Rs A' B' regs' regs2' ∧ Im A' B'))) ∨ (f2 = false ∧ v = .agg #[.bool f0, .bool f1, .bool false, .bool f3, .int .i64 n] ∧ Rs A' B' regs' regs2' ∧ Im A' B') := by
  have he : regs = [] ↔ regs2 = [] := by
    have := rs.1
    constructor
    · intro e; rw [e] at this; exact List.length_eq_zero_iff.1 this.symm
    · intro e; rw [e] at this; exact List.length_eq_zero_iff.1 this
  have fin : ∀ {v' : Value}, v' = .agg #[.bool f0, .bool f1, .bool f2, .bool f3, .int .i64 n] → v = v' → Rs A' B' regs' regs2' → Im A' B' → (f2 = true ∧ ((0 ≤ k ∧ k ≤ 14) ∨ (Rs A' B' regs' regs2' ∧ Im A' B'))) ∨ (f2 = false ∧ v = .agg #[.bool f0, .bool f1, .bool false, .bool f3, .int .i64 n] ∧ Rs A' B' regs' regs2' ∧ Im A' B') := fun {v'} e1 e2 h1 h2 => by
    cases f2
    · exact Or.inr ⟨rfl, e2.trans e1, h1, h2⟩
    · exact Or.inl ⟨rfl, Or.inr ⟨h1, h2⟩⟩
  unfold StR at hr
  unfold MoR at hm
  by_cases h14 : 0 ≤ k ∧ k ≤ 14
  · rw [if_pos h14] at hr hm
    obtain ⟨g0, g2, ev, hu⟩ := hr
    simp only [Value.agg.injEq, Array.mk.injEq, List.cons.injEq, Value.bool.injEq, and_true] at ev
    unfold BuR at hu
    by_cases q : regs = [] ∧ 4 < k
    · rw [if_pos q] at hu
      rw [if_pos ⟨he.1 q.1, q.2⟩] at hm
      obtain ⟨rfl, rfl, rfl, rfl⟩ := hu
      obtain ⟨rfl, rfl, rfl⟩ := hm
      obtain ⟨rfl, rfl, rfl, rfl, en⟩ := ev
      cases en
      exact Or.inr ⟨rfl, rfl, rs, im⟩
    · rw [if_neg q] at hu
      rw [if_neg (fun t => q ⟨he.2 t.1, t.2⟩)] at hm
      obtain ⟨rfl, rfl, rfl, rfl, en⟩ := ev
      cases en
      rcases build_same hA hB hA' hB' lA lB im rs (fun t e => q ⟨e, t⟩) h14 hlen hu hm with t | ⟨t, t1, t2, t3⟩
      · exact Or.inl ⟨t, Or.inl h14⟩
      · exact Or.inr ⟨t, t1, t2, t3⟩
  · rw [if_neg h14] at hr hm
    by_cases h20 : 15 ≤ k ∧ k ≤ 20
    · rw [if_pos h20] at hr
      obtain ⟨rfl, hr⟩ := hr
      by_cases q : regs' = []
      · rw [if_pos q] at hr
        rw [if_pos (he.1 q)] at hm
        obtain ⟨rfl, hv⟩ := hr
        obtain ⟨rfl, rfl, rfl⟩ := hm
        exact fin hv.symm rfl rs im
      · rw [if_neg q] at hr
        rw [if_neg (fun t => q (he.2 t))] at hm
        obtain ⟨rfl, rfl, hm⟩ := hm
        have rs' := rs.le lA (Le.refl _)
        have im' := im.le lA
        rcases hr with hr | hr
        · have : f2 = true := by
            unfold fullV at hr
            simp only [Value.agg.injEq, Array.mk.injEq, List.cons.injEq, Value.bool.injEq] at hr
            exact hr.2.2.1
          exact Or.inl ⟨this, Or.inr ⟨rs', im'⟩⟩
        · exact fin rfl (ask_same hA' hB (rs'.at q oa) hr hm).symm rs' im'
    · rw [if_neg h20] at hr
      obtain ⟨rfl, rfl, hv⟩ := hr
      by_cases q : regs' = []
      · rw [if_pos (he.1 q)] at hm
        obtain ⟨rfl, rfl, rfl⟩ := hm
        exact fin hv.symm rfl rs im
      · rw [if_neg (fun t => q (he.2 t))] at hm
        obtain ⟨rfl, rfl, hm⟩ := hm
        have : v = zeroV := (ask_same hA hB (rs.at q oa) (askU (by omega)) hm).symm
        exact fin hv.symm this rs im
end Go.Proofs.Qxb6500848aGreatDoor
