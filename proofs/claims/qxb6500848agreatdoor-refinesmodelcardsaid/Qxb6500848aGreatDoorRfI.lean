/-
  machine.step, and exactly which old blocks it turns.
-/
import Derived.Test.Qxb6500848aGreatDoorRfG
import Derived.Test.Qxb6500848aGreatDoorBsE
namespace Go.Proofs.Qxb6500848aGreatDoor
open Go.RowKit Pl Go.Maps
set_option maxRecDepth 100000

/-- What a step of the real machine turns. -/
def Tr (w : World) (kb mb ab nb : Nat) (b : Nat) : Prop := Tb w kb mb ab nb b ∨ Own mb b
def RlPost (R : List Nd → List Int → Value → Prop) (kb eb mb ab : Nat) (ad af an : Addr) (X : Nat → Prop) (w : World) (nb : Nat) (A : List Nd) (e : Ending) (w' : World) : Prop :=
  ∃ X' nb' A' regs' f0 f1 f2 f3 n, e = .returned (.agg #[.bool f0, .bool f1, .bool f2, .bool f3, .int .i64 n]) ∧ R A' regs' (.agg #[.bool f0, .bool f1, .bool f2, .bool f3, .int .i64 n]) ∧ MD kb eb mb ab 65536 regs' ad X' w' nb' A' ∧ Sn X' w' ad af an ∧ regs'.length ≤ 8 ∧ Le A A' ∧ Ext w.heap.size (Tr w kb mb ab nb) w w' ∧ (∀ b, b < w.heap.size → (X' b ↔ X b)) ∧ (nb' < w.heap.size → Tr w kb mb ab nb nb') ∧ ∀ rb off n cap, w'.cell? ⟨kb, 2, none⟩ = some (.slice (some ⟨rb, off, none⟩) n cap) → rb < w.heap.size → Tr w kb mb ab nb rb
def BdR (k oa ob oc : Int) (A : List Nd) (regs : List Int) (A' : List Nd) (regs' : List Int) (v : Value) : Prop :=
  ∃ f0 f2, v = .agg #[.bool f0, .bool false, .bool f2, .bool false, .int .i64 0] ∧ BuR k oa ob oc A regs A' regs' f0 f2
def AqR (k oa ob : Int) (A : List Nd) (regs : List Int) (u p : Word) (A' : List Nd) (regs' : List Int) (v : Value) : Prop :=
  regs' = regs ∧ if regs = [] then A' = A ∧ v = zeroV else AskR k ob A' (rg regs oa) u p v
def StR (k oa ob oc : Int) (A : List Nd) (regs : List Int) (u p : Word) (A' : List Nd) (regs' : List Int) (v : Value) : Prop :=
  if 0 ≤ k ∧ k ≤ 14 then BdR k oa ob oc A regs A' regs' v else if 15 ≤ k ∧ k ≤ 20 then AqR k oa ob A regs u p A' regs' v else A' = A ∧ regs' = regs ∧ v = zeroV

section
variable {R R' : List Nd → List Int → Value → Prop} {X : Nat → Prop} {w w' : World} {kb eb mb ab nb : Nat} {A : List Nd} {regs : List Int} {ad af an : Addr} {e : Ending}

theorem RlPost.mono (h : RlPost R kb eb mb ab ad af an X w nb A e w') (hR : ∀ a b c, R a b c → R' a b c) : RlPost R' kb eb mb ab ad af an X w nb A e w' := by
  obtain ⟨X', nb', A', regs', f0, f1, f2, f3, n, h1, h2, h3⟩ := h
  exact ⟨X', nb', A', regs', f0, f1, f2, f3, n, h1, hR _ _ _ h2, h3⟩

theorem rl_build (h : MD kb eb mb ab 65536 regs ad X w nb A) (sn : Sn X w ad af an) (hl : regs.length ≤ 8) (kd oa ob oc o6 : Int) (wa pa : Option Addr) (wn wc pn pc : Nat) (h0 : 0 ≤ kd) (h14 : kd ≤ 14) :
    Calls Tryz.prog 65 #[.pointer (some ⟨kb, 0, none⟩), .agg (opA kd oa ob oc (.slice wa wn wc) (.slice pa pn pc) o6)] w (RlPost (BdR kd oa ob oc A regs) kb eb mb ab ad af an X w nb A) := by
  refine (build_walkS h.mc hl (B0 := 0) (fun _ _ => Nat.zero_le _) (Nat.zero_le _) kd oa ob oc o6 wa pa wn wc pn pc h0 h14).mono ?_
  rintro e w' ⟨X', nb', A', regs', f0, f2, rfl, hR, mc, hl', _, _, le, eX, sub, eT, tn, tr⟩
  have lg := cell_lt h.gn
  exact ⟨X', nb', A', regs', f0, false, f2, false, 0, rfl, ⟨f0, f2, rfl, hR⟩, ⟨mc, h.ax.keep h.mc.en.xe eX sub le h.mc.en.st.ar.wf mc.en.st.ar.wf, fun j hj => (eX.cell (p := ⟨3, j, none⟩) h.lt h.xt).trans (h.gd j hj), fun x => h.xt ((sub _ h.lt).1 x), (eX.cell (p := ⟨1, 0, none⟩) lg h.xn).trans h.gn, fun x => h.xn ((sub _ lg).1 x)⟩, sn.ext eX (fun _ _ q => q) sub, hl', le, eT.mono (Nat.le_refl _) (fun i _ q => Or.inl q), sub, fun q => Or.inl (tn q), fun rb off n cap q l => Or.inl (tr rb off n cap q l)⟩

theorem rl_ask {k oa ob oc o6 : Int} {wa pa : Option Addr} {wn wk pn pc : Nat} (hk : 15 ≤ k ∧ k ≤ 20) (h : MD kb eb mb ab 65536 regs ad X w nb A) (sn : Sn X w ad af an) (hl : regs.length ≤ 8) (hne : regs ≠ [])
    {wd pd : Word} (hw : Ints X w (.slice wa wn wk) wd) (hp : Ints X w (.slice pa pn pc) pd) :
    Calls Tryz.prog 98 #[.pointer (some ⟨kb, 0, none⟩), .agg (opA k oa ob oc (.slice wa wn wk) (.slice pa pn pc) o6)] w (RlPost (AqR k oa ob A regs (wd.take 5) (pd.take 5)) kb eb mb ab ad af an X w nb A) := by
  refine (ask_walk hk h sn hl hne hw hp).mono ?_
  rintro e w' ⟨X', nb', A', v, rfl, hv, md, sn', g⟩
  obtain ⟨f0, f1, f2, f3, n, rfl⟩ := ask_form hv
  obtain ⟨rv, r1, _⟩ := h.mc.reg
  have lk := h.mc.lk
  have hkc : ∀ q, w'.cell? ⟨kb, 2, none⟩ = q → w.cell? ⟨kb, 2, none⟩ = q := fun q e => (g.ext.cell (p := ⟨kb, 2, none⟩) lk (fun t => by
    rcases t with t | t | t | t
    · exact h.mc.ka t
    · exact h.mc.kn t
    · exact (es_maps h.es t).nb r1 rfl
    · have t' : kb = w.heap.size + 2 := t
      omega)).symm.trans e
  refine ⟨X', nb', A', regs, f0, f1, f2, f3, n, rfl, ⟨rfl, by rw [if_neg hne]; exact hv⟩, md, sn', hl, g.le, g.ext.mono (Nat.le_refl _) (fun i hi q => ?_), g.sub, fun q => ?_, fun rb off n cap q l => Or.inl (Or.inr (Or.inr (Or.inr (Or.inr ⟨off, n, cap, hkc _ q⟩))))⟩
  · rcases q with q | q | q | q
    · exact Or.inl (Or.inl q)
    · exact Or.inl (Or.inr (Or.inl q))
    · exact Or.inr q
    · omega
  · rcases g.nbs with t | t
    · exact Or.inl (Or.inr (Or.inl t))
    · omega

/-- Step lays its operation and its result. -/
theorem MD.boxed (h : MD kb eb mb ab 65536 regs ad X w nb A) (sn : Sn X w ad af an) (o : Obj) (z0 z1 z2 z3 z4 : Value) :
    MD kb eb mb ab 65536 regs ad (fun b => X b ∨ b = w.heap.size + 1) ((w.alloc o).alloc (.cells #[z0, z1, z2, z3, z4] 95)) nb A ∧ Sn (fun b => X b ∨ b = w.heap.size + 1) ((w.alloc o).alloc (.cells #[z0, z1, z2, z3, z4] 95)) ad af an := by
  have g := ((GrX.refl h.es).below (alloc_below o)).addNew (.cells #[z0, z1, z2, z3, z4] 95)
  rw [show (w.alloc o).heap.size = w.heap.size + 1 from Deep.nblk_alloc _ _] at g
  exact ⟨h.step g, sn.step h.es g⟩

theorem Tr.at (h : MD kb eb mb ab 65536 regs ad X w nb A) (hb : Below w.heap.size w w') {b : Nat} (t : Tr w' kb mb ab nb b) : Tr w kb mb ab nb b := by
  rcases t with t | t
  · rcases t with t | t | t | t | ⟨off, n, cap, t⟩
    · exact Or.inl (Or.inl t)
    · exact Or.inl (Or.inr (Or.inl t))
    · exact Or.inl (Or.inr (Or.inr (Or.inl t)))
    · exact Or.inl (Or.inr (Or.inr (Or.inr (Or.inl t))))
    · exact Or.inl (Or.inr (Or.inr (Or.inr (Or.inr ⟨off, n, cap, by rw [← hb.cell (p := ⟨kb, 2, none⟩) h.mc.lk]; exact t⟩))))
  · exact Or.inr t
theorem Tr.lt (h : MD kb eb mb ab 65536 regs ad X w nb A) {b : Nat} (t : Tr w kb mb ab nb b) : b < w.heap.size := by
  rcases t with t | t
  · rcases t with t | t | t | t | ⟨off, n, cap, t⟩
    · rw [t]; exact h.mc.en.st.xlt _ h.mc.en.st.ar.xa
    · rw [t]; exact h.mc.en.st.xlt _ h.mc.en.st.ar.xn
    · rw [t]; exact h.mc.lk
    · rw [t]; exact h.mc.en.lm
    · obtain ⟨rv, r1, r2⟩ := h.mc.reg
      rw [box_cell r1 2] at t
      have e : rv = .slice (some ⟨b, off, none⟩) n cap := Option.some.inj t
      rcases r2 with ⟨q, _⟩ | ⟨rb', off', cap', cells, q, xr, _⟩
      · rw [q] at e; cases e
      · rw [q] at e
        simp only [Value.slice.injEq, Option.some.injEq, Addr.mk.injEq] at e
        rw [← e.1.1]
        exact h.mc.en.st.xlt _ xr
  · obtain ⟨_, _, q⟩ := es_maps h.es t
    exact heap_lt q
/-- Step's end. -/
theorem RlPost.boxed (h : MD kb eb mb ab 65536 regs ad X w nb A) (sn : Sn X w ad af an) (o : Obj) {w1 w2 : World} (hw1 : w1 = (w.alloc o).alloc (.cells #[.bool false, .bool false, .bool false, .bool false, .int .i64 0] 95)) (hp : RlPost R kb eb mb ab ad af an (fun b => X b ∨ b = w.heap.size + 1) w1 nb A e w2) :
    ∃ f0 f1 f2 f3 n, e = .returned (.agg #[.bool f0, .bool f1, .bool f2, .bool f3, .int .i64 n]) ∧ w2.heap[w.heap.size + 1]? = some (.cells #[.bool false, .bool false, .bool false, .bool false, .int .i64 0] 95 (0, 0)) ∧ RlPost R kb eb mb ab ad af an X w nb A (.returned (.agg #[.bool f0, .bool f1, .bool f2, .bool f3, .int .i64 n])) (five w2 (w.heap.size + 1) (.bool f0) (.bool f1) (.bool f2) (.bool f3) (.int .i64 n)) := by
  subst hw1
  have s1 : ∀ (W : World) (o : Obj), (W.alloc o).heap.size = W.heap.size + 1 := Deep.nblk_alloc
  obtain ⟨h1, sn1⟩ := h.boxed sn o (.bool false) (.bool false) (.bool false) (.bool false) (.int .i64 0)
  have hb : Below w.heap.size w ((w.alloc o).alloc (.cells #[.bool false, .bool false, .bool false, .bool false, .int .i64 0] 95)) := (alloc_below _).trans ((alloc_below _).mono (alloc_below _).size)
  have hz : ((w.alloc o).alloc (.cells #[.bool false, .bool false, .bool false, .bool false, .int .i64 0] 95)).heap.size = w.heap.size + 2 := by rw [s1, s1]
  have hD : ((w.alloc o).alloc (.cells #[.bool false, .bool false, .bool false, .bool false, .int .i64 0] 95)).heap[w.heap.size + 1]? = some (.cells #[.bool false, .bool false, .bool false, .bool false, .int .i64 0] 95 (0, 0)) := new_at _ _ (s1 _ _)
  generalize (w.alloc o).alloc (.cells #[.bool false, .bool false, .bool false, .bool false, .int .i64 0] 95) = w1 at *
  obtain ⟨X', nb', A', regs', f0, f1, f2, f3, n, rfl, hR, md, sn', hl', le, ext, sub, tn, tr⟩ := hp
  have lD : w.heap.size + 1 < w1.heap.size := by omega
  have back : ∀ {b : Nat}, Tr w1 kb mb ab nb b → Tr w kb mb ab nb b := fun t => Tr.at h hb t
  have nD : ¬ Tr w1 kb mb ab nb (w.heap.size + 1) := fun t => by have := (back t).lt h; omega
  have l1 := h.mc.en.st.xlt _ h.mc.en.st.ar.xa
  have l3 := h.mc.lk
  have l4 := h.mc.en.lm
  have hd2 := (ext.block _ lD nD).trans hD
  have e5 := five_ext w2 (w.heap.size + 1) (.bool f0) (.bool f1) (.bool f2) (.bool f3) (.int .i64 n)
  have sp : Spare w2 (w.heap.size + 1) kb ab nb' mb := ⟨by omega, fun q => nD (by rw [q]; exact tn (by omega)), by omega, by omega, fun rb off n cap q t => nD (by rw [← t]; exact tr rb off n cap q (by omega))⟩
  have xD : X' (w.heap.size + 1) := (sub _ lD).2 (Or.inr rfl)
  have lk2 := md.mc.lk
  refine ⟨f0, f1, f2, f3, n, rfl, hd2, X', nb', A', regs', f0, f1, f2, f3, n, rfl, hR, md.scr sp xD e5, sn'.ext e5 (fun b _ q => by rw [show b = w.heap.size + 1 from q]; exact xD) (fun _ _ => Iff.rfl), hl', le, ((Ext.of_below hb _).trans ext hb.size (fun i hi q => back q)).trans e5 (Nat.le_trans hb.size ext.size) (fun i hi q => by omega), fun b hl => (sub b (by omega)).trans ⟨fun q => q.elim id (fun q => by omega), Or.inl⟩, fun q => back (tn (by omega)), fun rb off n cap q l => back (tr rb off n cap ((e5.cell (p := ⟨kb, 2, none⟩) lk2 (fun t => sp.dk t.symm)).symm.trans q) (by omega))⟩
end
end Go.Proofs.Qxb6500848aGreatDoor
