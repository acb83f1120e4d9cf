/-
  What build makes, told.
-/
import Derived.Test.Qxb6500848aGreatDoorRegN
import Derived.Test.Qxb6500848aGreatDoorClassN
import Derived.Test.Qxb6500848aGreatDoorMakersN
namespace Go.Proofs.Qxb6500848aGreatDoor
open Go.RowKit Pl Go.Maps
set_option maxRecDepth 100000

/-- A regex is pushed. -/
def push (regs : List Int) (z : Int) : List Int := if regs.length = 8 then (regs ++ [z]).tail else regs ++ [z]
def rg (regs : List Int) (i : Int) : Int := regs.getD (i % (regs.length : Int)).toNat 0
/-- What a step of kind k asks for. -/
def nfK (k oa ob oc : Int) (A : List Nd) (regs : List Int) : Nf :=
  if k = 0 then .id 0 else if k = 1 then .id 1 else if k = 2 then .id 2 else if k = 3 then classN (rangeL 0 196607) else if k = 4 then classN (rangeL oa ob)
  else if k = 5 then concatN (rg regs oa) (rg regs ob) else if k = 6 then unionN A [rg regs oa, rg regs ob] else if k = 7 then interN A [rg regs oa, rg regs ob]
  else if k = 9 then compN A (rg regs oa) else if k = 10 then starN A (rg regs oa) else if k = 11 then loopN A (rg regs oa) 1 (-1) else if k = 12 then loopN A (rg regs oa) 0 1
  else if k = 13 then loopN A (rg regs oa) (ob % 6) (oc % 6) else loopN A (rg regs oa) (ob % 6) (-1)
def Bz (k oa ob oc : Int) (A : List Nd) (regs : List Int) (A' : List Nd) (z : Int) : Prop :=
  if k = 8 then ∃ A1 c, Le A A1 ∧ Wf A1 ∧ Le A1 A' ∧ Val A1 (compN A (rg regs ob)) c ∧ Val A' (interN A1 [rg regs oa, c]) z
  else Val A' (nfK k oa ob oc A regs) z
def Bend (Z : List Nd → Int → Prop) (regs : List Int) (A' : List Nd) (regs' : List Int) (f0 f2 : Bool) : Prop :=
  (f2 = true ∧ f0 = false ∧ regs' = regs) ∨ (f2 = false ∧ ∃ z, Z A' z ∧ ((sz A' z ≤ 18 ∧ f0 = true ∧ regs' = push regs z) ∨ (18 < sz A' z ∧ f0 = false ∧ regs' = regs)))
def BsPost (R : List Nd → List Int → Bool → Bool → Prop) (X : Nat → Prop) (A : List Nd) (B0 kb eb mb ab : Nat) (w : World) (e : Ending) (w' : World) : Prop :=
  ∃ X' nb' A' regs' f0 f2, e = .returned (.agg #[.bool f0, .bool false, .bool f2, .bool false, .int .i64 0]) ∧ R A' regs' f0 f2 ∧ Mc X' w' kb eb mb ab nb' 65536 A' regs' ∧ regs'.length ≤ 8 ∧ (∀ z, X' z → B0 ≤ z) ∧ Below B0 w w' ∧ Le A A' ∧ Ext w.heap.size X w w' ∧ ∀ b, b < w.heap.size → (X' b ↔ X b)

theorem BT.doneS {X0 : Nat → Prop} {AA : List Nd} {R : List Nd → List Int → Bool → Bool → Prop} {w : World} {kb eb mb ab : Nat} {regs : List Int} {B0 : Nat} {X1 : Nat → Prop} {w1 : World} {nb1 : Nat} {A1 : List Nd} (h : BT X0 AA w kb eb mb ab regs B0 X1 w1 nb1 A1) (hl : regs.length ≤ 8) (f0 f2 : Bool) (hR : R A1 regs f0 f2) :
    BsPost R X0 AA B0 kb eb mb ab w (.returned (.agg #[.bool f0, .bool false, .bool f2, .bool false, .int .i64 0])) (five w1 (w.heap.size + 1) (.bool f0) (.bool false) (.bool f2) (.bool false) (.int .i64 0)) ∧ (five w1 (w.heap.size + 1) (.bool f0) (.bool false) (.bool f2) (.bool false) (.int .i64 0)).heap[w.heap.size + 1]? = some (.cells #[.bool f0, .bool false, .bool f2, .bool false, .int .i64 0] 95 (0, 0)) := by
  obtain ⟨p0, p1, p2, p3, p4, hr⟩ := h.res
  have e := five_ext w1 (w.heap.size + 1) (.bool f0) (.bool false) (.bool f2) (.bool false) (.int .i64 0)
  have ge := h.ge
  have lt := h.lt
  exact ⟨⟨X1, nb1, A1, regs, f0, f2, rfl, hR, h.mc.other h.sp h.xres e, hl, h.lo, h.bel.trans (e.below' (by omega) (fun k hk q => by omega)), h.le, h.ext.trans e h.ext.size (fun i hi q => by omega), h.sub⟩, five_heap hr _ _ _ _ _⟩

/-- What a constructor hands back: what was asked for, and not too big. -/
def MVN (n : Nat) (nf : Nf) (X : Nat → Prop) (w : World) (ab nb : Nat) (lim : Int) (A : List Nd) (e : Ending) (w' : World) : Prop :=
  ∃ X' nb' A' z ev, Grow X w ab nb lim A X' w' nb' A' ∧ e = .returned (.tuple #[.int .i64 z, ev]) ∧ ((ev = .nilIface ∧ (Valid A' z ∧ sz A' z ≤ n) ∧ Val A' nf z) ∨ ((∃ t v, ev = .iface t v) ∧ lim ≤ A'.length))
theorem Made.mvN {nf : Nf} {X : Nat → Prop} {w : World} {ab nb : Nat} {lim : Int} {A : List Nd} {e : Ending} {w' : World} {n : Nat} (h : Made nf X w ab nb lim A e w') (hb : ∀ {A' : List Nd} {z : Int}, Le A A' → Wf A' → Val A' nf z → sz A' z ≤ n) : MVN n nf X w ab nb lim A e w' := by
  obtain ⟨X', nb', A', z, ev, h1, h2, h3⟩ := h
  exact ⟨X', nb', A', z, ev, h1, h2, h3.imp (fun h => ⟨h.1, ⟨h.2.valid, hb h1.le h1.st.ar.wf h.2⟩, h.2⟩) (fun h => ⟨h.1, h.2.2.1⟩)⟩
theorem MVN.hundredN {nf : Nf} {X : Nat → Prop} {w : World} {ab nb : Nat} {lim : Int} {A : List Nd} {e : Ending} {w' : World} (h : MVN 60 nf X w ab nb lim A e w') : MVN 100 nf X w ab nb lim A e w' := by
  obtain ⟨X', nb', A', z, ev, h1, h2, h3⟩ := h
  exact ⟨X', nb', A', z, ev, h1, h2, h3.imp (fun h => ⟨h.1, ⟨h.2.1.1, by have := h.2.1.2; omega⟩, h.2.2⟩) id⟩
theorem MadeN.made {nf : Nf} {X : Nat → Prop} {w : World} {ab nb : Nat} {lim : Int} {A : List Nd} {e : Ending} {w' : World} (h : MadeN nf X w ab nb lim A e w') : Made nf X w ab nb lim A e w' := by
  obtain ⟨X', nb', A', z, ev, h1, h2, h3⟩ := h
  exact ⟨X', nb', A', z, ev, h1, h2, h3.imp (fun h => ⟨h.1, h.2.1⟩) (fun h => ⟨h.1, h.2.1, h.2.2.1⟩)⟩
theorem mk_class {A' : List Nd} {l : List Nat} {z : Int} (hB : Wf A') (h : Val A' (classN l) z) : sz A' z ≤ 100 := by
  unfold classN at h
  split at h
  · rw [← h.1, sz0 hB]; omega
  · rw [sz_low hB h.1 (by rw [h.2])]; omega
end Go.Proofs.Qxb6500848aGreatDoor
