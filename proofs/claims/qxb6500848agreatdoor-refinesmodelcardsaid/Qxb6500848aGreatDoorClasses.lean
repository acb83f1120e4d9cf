/-
  The walk of Classes.
-/
import Derived.Test.Qxb6500848aGreatDoorSmall
import Derived.Deep.RegionLaw
import Derived.Deep.AppendLies
namespace Go.Proofs.Qxb6500848aGreatDoor.Pl

/-- y is met from x by way of kids. -/
inductive Rch (A : List Nd) (x : Int) : Int → Prop
  | refl : Rch A x x
  | step {y k : Int} (h : Rch A x y) (hk : k ∈ (nodeAt A y).kids) : Rch A x k

/-- F lists the classes that are met from x. -/
def IsCls (A : List Nd) (x : Int) (F : List (List Nat)) : Prop := ∀ l, l ∈ F ↔ ∃ y, Rch A x y ∧ (nodeAt A y).kind = 3 ∧ (nodeAt A y).bits = l

abbrev IK (y : Int) : Lit := .int .i64 y
structure CR (A : List Nd) (R : Int → Prop) (ks : List Lit) (L : List (List Nat)) : Prop where
  key : ∀ y, IK y ∈ ks → R y
  cls : ∀ l ∈ L, ∃ y, R y ∧ (nodeAt A y).kind = 3 ∧ (nodeAt A y).bits = l
/-- What was marked since is done. -/
structure Grew (A : List Nd) (ks : List Lit) (L : List (List Nat)) (ks' : List Lit) (L' : List (List Nat)) : Prop where
  sub : ∀ k ∈ ks, k ∈ ks'
  subL : ∀ l ∈ L, l ∈ L'
  kids : ∀ y, IK y ∈ ks' → IK y ∉ ks → ∀ k ∈ (nodeAt A y).kids, IK k ∈ ks'
  cls : ∀ y, IK y ∈ ks' → IK y ∉ ks → (nodeAt A y).kind = 3 → (nodeAt A y).bits ∈ L'
theorem Grew.refl (A : List Nd) (ks : List Lit) (L : List (List Nat)) : Grew A ks L ks L := ⟨fun _ h => h, fun _ h => h, fun _ h h' => absurd h h', fun _ h h' => absurd h h'⟩
theorem Grew.trans {A : List Nd} {ks ks' ks'' : List Lit} {L L' L'' : List (List Nat)} (h : Grew A ks L ks' L') (k : Grew A ks' L' ks'' L'') : Grew A ks L ks'' L'' := by
  refine ⟨fun x hx => k.sub x (h.sub x hx), fun x hx => k.subL x (h.subL x hx), fun y hy hn q hq => ?_, fun y hy hn h3 => ?_⟩
  · by_cases e : IK y ∈ ks'
    · exact k.sub _ (h.kids y e hn q hq)
    · exact k.kids y hy e q hq
  · by_cases e : IK y ∈ ks'
    · exact k.subL _ (h.cls y e hn h3)
    · exact k.cls y hy e h3
/-- The visit of x has done k of its kids. -/
structure VMid (A : List Nd) (R : Int → Prop) (x : Int) (ks : List Lit) (L : List (List Nat)) (k : Nat) (ks' : List Lit) (L' : List (List Nat)) : Prop where
  cr : CR A R ks' L'
  gr : Grew A (IK x :: ks) L ks' L'
  kid : ∀ i (h : i < (nodeAt A x).kids.length), i < k → IK (nodeAt A x).kids[i] ∈ ks'
theorem CR.mark {A : List Nd} {R : Int → Prop} {ks : List Lit} {L : List (List Nat)} (h : CR A R ks L) {x : Int} (hx : R x) : CR A R (IK x :: ks) L :=
  ⟨fun y hy => by
    rcases List.mem_cons.1 hy with e | e
    · cases e; exact hx
    · exact h.key y e, h.cls⟩
theorem CR.push {A : List Nd} {R : Int → Prop} {ks : List Lit} {L : List (List Nat)} (h : CR A R ks L) {x : Int} (hx : R x) (h3 : (nodeAt A x).kind = 3) : CR A R ks (L ++ [(nodeAt A x).bits]) :=
  ⟨h.key, fun l hl => by
    rcases List.mem_append.1 hl with e | e
    · exact h.cls l e
    · exact ⟨x, hx, h3, (List.mem_singleton.1 e).symm⟩⟩
theorem VMid.start {A : List Nd} {R : Int → Prop} {x : Int} {ks : List Lit} {L : List (List Nat)} (h : CR A R (IK x :: ks) L) : VMid A R x ks L 0 (IK x :: ks) L := ⟨h, Grew.refl _ _ _, fun _ _ h => by omega⟩
theorem VMid.next {A : List Nd} {R : Int → Prop} {x : Int} {ks ks' ks'' : List Lit} {L L' L'' : List (List Nat)} {k : Nat} (h : VMid A R x ks L k ks' L') (hc : CR A R ks'' L'') (hg : Grew A ks' L' ks'' L'') (hk : k < (nodeAt A x).kids.length) (hin : IK (nodeAt A x).kids[k] ∈ ks'') : VMid A R x ks L (k + 1) ks'' L'' :=
  ⟨hc, h.gr.trans hg, fun i hi hik => by
    by_cases e : i = k
    · subst e; exact hin
    · exact hg.sub _ (h.kid i hi (by omega))⟩
theorem VMid.done {A : List Nd} {R : Int → Prop} {x : Int} {ks ks' : List Lit} {L L1 L' : List (List Nat)} (h : VMid A R x ks L1 (nodeAt A x).kids.length ks' L') (h3 : (nodeAt A x).kind = 3 → (nodeAt A x).bits ∈ L1) (hs : ∀ l ∈ L, l ∈ L1) : CR A R ks' L' ∧ Grew A ks L ks' L' ∧ IK x ∈ ks' := by
  refine ⟨h.cr, ⟨fun k hk => h.gr.sub k (List.mem_cons_of_mem _ hk), fun l hl => h.gr.subL l (hs l hl), fun y hy hn q hq => ?_, fun y hy hn h3' => ?_⟩, h.gr.sub _ (by simp)⟩
  · by_cases e : y = x
    · subst e
      obtain ⟨i, hi, rfl⟩ := List.getElem_of_mem hq
      exact h.kid i hi hi
    · exact h.gr.kids y hy (fun e2 => by rcases List.mem_cons.1 e2 with e2 | e2; · cases e2; exact e rfl
                                         · exact hn e2) q hq
  · by_cases e : y = x
    · subst e
      exact h.gr.subL _ (h3 h3')
    · exact h.gr.cls y hy (fun e2 => by rcases List.mem_cons.1 e2 with e2 | e2; · cases e2; exact e rfl
                                        · exact hn e2) h3'
theorem isCls_of {A : List Nd} {x : Int} {ks : List Lit} {L : List (List Nat)} (h : CR A (Rch A x) ks L) (g : Grew A [] [] ks L) (hx : IK x ∈ ks) : IsCls A x L := by
  have all : ∀ y, Rch A x y → IK y ∈ ks := by
    intro y hy
    induction hy with
    | refl => exact hx
    | step h hk ih => exact g.kids _ ih (by simp) _ hk
  intro l
  constructor
  · exact h.cls l
  · rintro ⟨y, hy, h3, rfl⟩
    exact g.cls y (all y hy) (by simp) h3
end Go.Proofs.Qxb6500848aGreatDoor.Pl
namespace Go.Proofs.Qxb6500848aGreatDoor
open Go.RowKit Pl Go.Maps
set_option maxRecDepth 100000

theorem Mp.hit0 {K : TypeId} {w : World} {b : Nat} {get : Lit → Value} {ks : List Lit} (h : Mp K w b get ks) {t e : TypeId} (KK : Keyed Tryz.prog K) (ht : Tryz.prog.underlying t = some (.map K e)) {z : Value} (hz : (zeroValue e).run Tryz.prog w = .ok z w)
    {key : Value} {kl : Lit} (hkey : keyOf Tryz.prog K key = some kl) (hm : kl ∈ ks) : (Instr.lookup t (.map (some b)) key false).run Tryz.prog w = .ok (get kl) w := by
  obtain ⟨D, h1, h2, h3, h4, h5⟩ := h
  obtain ⟨v, ps, hrun, hv⟩ := h1.lookup KK ht hz (zd := .held z) (zp := []) rfl hkey
  have : DataW.held v = DataW.held (get kl) := by
    have e := (Option.some.inj hv)
    have e1 : DataW.held v = D.atKey kl (.held z) := congrArg Prod.fst e
    rw [e1, h4 kl hm]
  cases this
  exact hrun
theorem Mp.miss0 {K : TypeId} {w : World} {b : Nat} {get : Lit → Value} {ks : List Lit} (h : Mp K w b get ks) {t e : TypeId} (KK : Keyed Tryz.prog K) (ht : Tryz.prog.underlying t = some (.map K e)) {z : Value} (hz : (zeroValue e).run Tryz.prog w = .ok z w)
    {key : Value} {kl : Lit} (hkey : keyOf Tryz.prog K key = some kl) (hm : kl ∉ ks) : (Instr.lookup t (.map (some b)) key false).run Tryz.prog w = .ok z w := by
  obtain ⟨D, h1, h2, h3, h4, h5⟩ := h
  obtain ⟨v, ps, hrun, hv⟩ := h1.lookup KK ht hz (zd := .held z) (zp := []) rfl hkey
  have hf : Maps.has D kl = false := by
    cases hh : Maps.has D kl
    · rfl
    · exact absurd ((h3 kl).1 hh) hm
  have : DataW.held v = DataW.held z := by
    have e := (Option.some.inj hv)
    have e1 : DataW.held v = D.atKey kl (.held z) := congrArg Prod.fst e
    rw [e1, Maps.atKey_of_not_has hf]
  cases this
  exact hrun

theorem zero_bool (w : World) : (zeroValue 4).run Tryz.prog w = .ok (.bool false) w := by kernel_rfl

def fvV (s : Nat) : Value := .func (.func 74) #[] #[.pointer (some ⟨s + 3, 0, none⟩), .pointer (some ⟨s, 0, none⟩), .pointer (some ⟨s + 1, 0, none⟩), .pointer (some ⟨s + 4, 0, none⟩)]

/-- What visit keeps; w0 is the world in which Classes was called. -/
structure CV (X : Nat → Prop) (w0 : World) (ab : Nat) (A : List Nd) (w : World) (get : Lit → Value) (ks : List Lit) (v : Value) (vs : List Value) (L : List (List Nat)) : Prop where
  below : Below w0.heap.size w0 w
  k0 : w.heap[w0.heap.size]? = some (.cells #[.pointer (some ⟨ab, 0, none⟩)] 35 (0, 0))
  k1 : w.heap[w0.heap.size + 1]? = some (.cells #[v] 42 (0, 0))
  k2 : w.heap[w0.heap.size + 3]? = some (.cells #[.map (some (w0.heap.size + 2))] 82 (0, 0))
  k3 : w.heap[w0.heap.size + 4]? = some (.cells #[fvV w0.heap.size] 107 (0, 0))
  mp : Mp 28 w (w0.heap.size + 2) get ks
  keys : ∀ k ∈ ks, ∃ x, k = .int .i64 x ∧ Valid A x ∧ get k = .bool true
  row : w.ownsRow (w0.heap.size + 5) 53 1 v vs.length vs
  len : vs.length = L.length
  few : L.length ≤ ks.length
  wds : ∀ i (h : i < vs.length) (h' : i < L.length), Words X w0 vs[i] L[i]
  cls : ∀ l ∈ L, Cl l

theorem CV.cnt {X : Nat → Prop} {w0 : World} {ab : Nat} {A : List Nd} {w : World} {get : Lit → Value} {ks : List Lit} {v : Value} {vs : List Value} {L : List (List Nat)} (h : CV X w0 ab A w get ks v vs L) : ks.length ≤ A.length :=
  keys_le h.mp.nodup (fun l => match l with | .int _ y => y.toNat | _ => 0) A.length
    (fun k hk => by obtain ⟨y, rfl, hy, _⟩ := h.keys k hk; exact hy.2)
    (fun k hk k' hk' e => by
      obtain ⟨y, rfl, hy, _⟩ := h.keys k hk
      obtain ⟨y', rfl, hy', _⟩ := h.keys k' hk'
      have : y = y' := by have h1 := hy.1; have h2 := hy'.1; simp only at e; omega
      rw [this])

/-- x is marked. -/
theorem CV.mark {X : Nat → Prop} {w0 : World} {ab : Nat} {A : List Nd} {w : World} {get : Lit → Value} {ks : List Lit} {v : Value} {vs : List Value} {L : List (List Nat)} (h : CV X w0 ab A w get ks v vs L) (hA : A.length ≤ 65536) {x : Int} (hx : Valid A x) (hin : (Lit.int .i64 x) ∉ ks) :
    ∃ w' get', (Instr.mapUpdate 82 (.map (some (w0.heap.size + 2))) (.int .i64 x) (.bool true)).run Tryz.prog w = .ok () w' ∧ CV X w0 ab A w' get' (.int .i64 x :: ks) v vs L := by
  have hc := h.cnt
  have hkey := key_int x hx.1 (by have := hx.2; omega)
  obtain ⟨w', get', r1, r2, r3, r4, r5⟩ := h.mp.store law_id Tryz.underlying82 (by unfold maxLen; omega) hkey trivial hin (.bool true)
  have l1 := heap_lt h.k3
  have kp : ∀ b, b < w.heap.size → b ≠ w0.heap.size + 2 → w'.heap[b]? = w.heap[b]? := fun b hb hn => r5.block b hb hn
  refine ⟨w', get', r1, ⟨h.below.trans (r5.below' (Nat.le_trans (Nat.le_refl _) h.below.size) (fun k hk e => by omega)), (kp _ (by omega) (by omega)).trans h.k0, (kp _ (by omega) (by omega)).trans h.k1, (kp _ (by omega) (by omega)).trans h.k2, (kp _ (by omega) (by omega)).trans h.k3, r2, fun k hk => ?_, ?_, h.len, by simp; have := h.few; omega, h.wds, h.cls⟩⟩
  · rcases List.mem_cons.1 hk with rfl | hk
    · exact ⟨x, rfl, hx, r3⟩
    · obtain ⟨y, e, hy, hg⟩ := h.keys k hk
      exact ⟨y, e, hy, (r4 k hk).trans hg⟩
  · exact ownsRow_ext h.row r5 (fun g hg e => by have := (ownsRow_block h.row hg).1; omega)

/-- A class is appended. -/
theorem CV.push {X : Nat → Prop} {w0 : World} {ab : Nat} {A : List Nd} {w w1 w2 : World} {get : Lit → Value} {ks : List Lit} {v sv : Value} {vs : List Value} {L : List (List Nat)} {l : List Nat} {g cap : Nat} (h : CV X w0 ab A w get ks v vs L) (hb : Below w.heap.size w w1) (hs : Words X w0 sv l) (hl : Cl l) (hf : L.length < ks.length)
    (hown : w2.ownsRow (w0.heap.size + 5) 53 1 (.slice (some ⟨g, 0, none⟩) (vs.length + 1) cap) (vs.length + 1) (vs ++ [sv])) (hg : w1.grownBy w2 v.ownBlock) :
    CV X w0 ab A (w2.setCell ⟨w0.heap.size + 1, 0, none⟩ (.slice (some ⟨g, 0, none⟩) (vs.length + 1) cap)) get ks (.slice (some ⟨g, 0, none⟩) (vs.length + 1) cap) (vs ++ [sv]) (L ++ [l]) := by
  have l1 := heap_lt h.k3
  have lm := h.mp.lt
  have ob : ∀ q, v.ownBlock = some q → w0.heap.size + 5 ≤ q := fun q hq => (ownsRow_block h.row hq).1
  have e1 : Ext w.heap.size (fun b => w0.heap.size + 5 ≤ b) w w2 := ((Ext.of_below hb _)).grown hg hb.size (fun k e => Or.inr (ob k e))
  have e2 : Ext w.heap.size (fun b => w0.heap.size + 5 ≤ b ∨ b = w0.heap.size + 1) w (w2.setCell ⟨w0.heap.size + 1, 0, none⟩ (.slice (some ⟨g, 0, none⟩) (vs.length + 1) cap)) := Ext.setCell (X := fun b => w0.heap.size + 5 ≤ b ∨ b = w0.heap.size + 1) (p := ⟨w0.heap.size + 1, 0, none⟩) (e1.mono (Nat.le_refl _) (fun i _ e => Or.inl e)) (Or.inr (Or.inr rfl)) _
  have kp : ∀ b, b < w0.heap.size + 5 → b ≠ w0.heap.size + 1 → (w2.setCell ⟨w0.heap.size + 1, 0, none⟩ (.slice (some ⟨g, 0, none⟩) (vs.length + 1) cap)).heap[b]? = w.heap[b]? := fun b hb hn => e2.block b (by omega) (fun e => by omega)
  have hgo : w0.heap.size + 5 ≤ g := (ownsRow_block hown (g := g) rfl).1
  refine ⟨h.below.trans (e2.below' h.below.size (fun k hk e => by omega)), (kp _ (by omega) (by omega)).trans h.k0, ?_, (kp _ (by omega) (by omega)).trans h.k2, (kp _ (by omega) (by omega)).trans h.k3, h.mp.ext e2 lm (fun e => by omega), h.keys, ?_, by simp [h.len], by simp; omega, fun i hi hi' => ?_, fun q hq => ?_⟩
  · have hk : w2.heap[w0.heap.size + 1]? = w.heap[w0.heap.size + 1]? := e1.block _ (by omega) (fun e => by omega)
    simp only [World.setCell, Array.getElem?_modify, hk, h.k1]
    simp
  · have e4 : Ext w2.heap.size (fun b => b = w0.heap.size + 1) w2 (w2.setCell ⟨w0.heap.size + 1, 0, none⟩ (.slice (some ⟨g, 0, none⟩) (vs.length + 1) cap)) := Ext.setCell (X := fun b => b = w0.heap.size + 1) (p := ⟨w0.heap.size + 1, 0, none⟩) (Ext.refl _ _ _) (Or.inr rfl) _
    have := ownsRow_ext hown e4 (fun q hq e => by have := (ownsRow_block hown hq).1; omega)
    simpa using this
  · by_cases hlt : i < vs.length
    · rw [List.getElem_append_left hlt, List.getElem_append_left (by have := h.len; omega)]
      exact h.wds i hlt (by have := h.len; omega)
    · have e : i = vs.length := by simp at hi; omega
      subst e
      have e1 : (vs ++ [sv])[vs.length]'hi = sv := by simp
      have e2 : (L ++ [l])[vs.length]'hi' = l := by simp [h.len]
      rw [e1, e2]
      exact hs
  · rcases List.mem_append.1 hq with hq | hq
    · exact h.cls q hq
    · rw [List.mem_singleton.1 hq]; exact hl

def VPost (R : Int → Prop) (x : Int) (ks0 : List Lit) (L0 : List (List Nat)) (X : Nat → Prop) (w0 : World) (ab : Nat) (A : List Nd) (e : Ending) (w' : World) : Prop := ∃ get ks v vs L, e = .returned (.tuple #[]) ∧ CV X w0 ab A w' get ks v vs L ∧ CR A R ks L ∧ Grew A ks0 L0 ks L ∧ IK x ∈ ks

theorem CV.cells {X : Nat → Prop} {w0 : World} {ab : Nat} {A : List Nd} {w : World} {get : Lit → Value} {ks : List Lit} {v : Value} {vs : List Value} {L : List (List Nat)} (h : CV X w0 ab A w get ks v vs L) :
    w.cell? ⟨w0.heap.size, 0, none⟩ = some (.pointer (some ⟨ab, 0, none⟩)) ∧ w.cell? ⟨w0.heap.size + 1, 0, none⟩ = some v ∧ w.cell? ⟨w0.heap.size + 3, 0, none⟩ = some (.map (some (w0.heap.size + 2))) ∧ w.cell? ⟨w0.heap.size + 4, 0, none⟩ = some (fvV w0.heap.size) :=
  ⟨box_cell h.k0 0, box_cell h.k1 0, box_cell h.k2 0, box_cell h.k3 0⟩

set_option maxHeartbeats 8000000 in
theorem visit_walk {X : Nat → Prop} {w0 : World} {ab nb : Nat} {lim : Int} {A : List Nd} (hS : St X w0 ab nb lim A) (R : Int → Prop) (hRk : ∀ y k, R y → k ∈ (nodeAt A y).kids → R k) : ∀ (m : Nat) (x : Int), x.toNat = m → Valid A x → R x → ∀ (w : World) (get : Lit → Value) (ks : List Lit) (v : Value) (vs : List Value) (L : List (List Nat)), CV X w0 ab A w get ks v vs L → CR A R ks L →
    Calls Tryz.prog 74 #[.int .i64 x, .pointer (some ⟨w0.heap.size + 3, 0, none⟩), .pointer (some ⟨w0.heap.size, 0, none⟩), .pointer (some ⟨w0.heap.size + 1, 0, none⟩), .pointer (some ⟨w0.heap.size + 4, 0, none⟩)] w (VPost R x ks L X w0 ab A) := by
  intro m
  induction m using Nat.strongRecOn with
  | ind m ih =>
  intro x hm hx hRx w get ks v vs L hV hCR
  subst hm
  obtain ⟨cap, n0, _, n1⟩ := hS.ar.node
  obtain ⟨sv, kv, d0, d1, d2, d3, d4, hk, hs⟩ := n1 x hx
  have x0 := hx.1
  have x1 : x < (A.length : Int) := by have := hx.2; omega
  have hok := hS.ar.wf.at hx
  have hfew := few64 hS.ar.wf hS.ar.len hx
  have HKV : Hid (∀ k ∈ (nodeAt A x).kids, Valid A k ∧ k.toNat < x.toNat) := fun k hk => hS.ar.wf.kidValid hx hk
  have HIH := hideIt ih
  have HRK := hideIt hRk
  have HRx := hideIt hRx
  have HCR := hideIt hCR
  have HRkid : Hid (∀ k ∈ (nodeAt A x).kids, R k) := fun k hk => hRk x k hRx hk
  clear hRk hRx hCR
  have hlen := hS.ar.len
  have la := hS.ar.la
  have ln := hS.xlt nb hS.ar.xn
  have hkey := key_int x x0 (by omega)
  obtain ⟨q0, q1, q2, q3⟩ := hV.cells
  by_cases hin : (Lit.int .i64 x) ∈ ks
  · obtain ⟨y, ey, _, eg⟩ := hV.keys _ hin
    have hl := hV.mp.hit0 law_id Tryz.underlying82 (zero_bool w) hkey hin
    rw [eg] at hl
    have HV := hideIt hV
    have Hin := hideIt hin
    clear hin hV ih n1 hS hk hs hok
    go_enter Tryz.func74, Tryz.ntmps74
    go_wp2
    go_end0
    exact ⟨get, ks, v, vs, L, rfl, HV.out, HCR.out, Grew.refl _ _ _, Hin.out⟩
  · have hl := hV.mp.miss0 law_id Tryz.underlying82 (zero_bool w) hkey hin
    obtain ⟨w1, get1, hput, hV1⟩ := hV.mark hlen hx hin
    obtain ⟨p0, p1, p2, p3⟩ := hV1.cells
    have n0' := (hV1.below.cell (p := ⟨ab, 0, none⟩) la).trans n0
    have e0 := (hV1.below.cell (p := ⟨nb, x.toNat * 5, none⟩) ln).trans d0
    have e1 := (hV1.below.cell (p := ⟨nb, x.toNat * 5 + 1, none⟩) ln).trans d1
    have e2 := (hV1.below.cell (p := ⟨nb, x.toNat * 5 + 2, none⟩) ln).trans d2
    have Hs := hideIt hs
    have Hok := hideIt hok
    obtain ⟨ka, kc, rfl, k1, k2, k3⟩ := hk
    obtain ⟨sa, sc, rfl, s1, s2, s3⟩ := hs
    have K3 := hideIt k3
    have hcnt := hV1.cnt
    have hfw := hV1.few
    have hfw0 := hV.few
    have hvl := hV1.len
    have Hfew : Hid (L.length < (Lit.int IntKind.i64 x :: ks).length) := by show L.length < _; simp; omega
    have hvb : vs.length ≤ 65536 := by omega
    have HV1 := hideIt hV1
    have hw1 : w0.heap.size + 4 < w1.heap.size := heap_lt hV1.k3
    have Hk1 := hideIt hV1.k1
    obtain ⟨i0, hi0, hz0, hz1, hz2⟩ := info_parts info_set
    clear hV hV1 ih n1 hok k3 s3 d0 d1 d3 d4 hcnt hfw hfw0 hvl
    have Hw5 : Hid (w0.heap.size + 5 ≤ w1.heap.size) := hw1
    have Hl1 : Hid (w0.heap.size + 1 < w1.heap.size) := by show _ < _; omega
    have Hob : Hid (some (w0.heap.size + 1) ≠ v.ownBlock) := fun e => by have := (ownsRow_block HV1.out.row e.symm).1; omega
    by_cases h3 : (nodeAt A x).kind = 3
    · have b3 : ((nodeAt A x).kind == 3) = true := by rw [h3]; rfl
      have Hcl : Hid (Cl (nodeAt A x).bits) := Hok.out.cls h3
      have ne1 : w1.heap.size ≠ w0.heap.size + 1 := by omega
      have pA : ∀ o : Obj, (w1.alloc o).cell? ⟨w0.heap.size + 1, 0, none⟩ = some v := fun o => ((alloc_below o).cell (p := ⟨w0.heap.size + 1, 0, none⟩) Hl1.out).trans p1
      have Hnk : Hid ((nodeAt A x).kids = []) := Hok.out.nokids (by omega)
      have HM0 : Hid (VMid A R x ks (L ++ [(nodeAt A x).bits]) 0 (IK x :: ks) (L ++ [(nodeAt A x).bits])) := VMid.start ((HCR.out.mark HRx.out).push HRx.out h3)
      clear h3
      go_enter Tryz.func74, Tryz.ntmps74
      go_wp2_with fail
      go_region_law ((refine step_append_lies _ (by rfl) _ _ _ (by rfl) (w0.heap.size + 5) 53 i0 _ 1 24 Tryz.underlying42 hi0 hz0 hz1 hz2 rfl (by omega) v vs.length vs (by rfl) ((HV1.out.row.alloc _).drew) ⟨w1.heap.size, 0, none⟩ 1 1 [(.slice sa (nodeAt A x).bits.length sc)] (by rfl) (by rfl) (World.news_of_block (cs := #[(.slice sa (nodeAt A x).bits.length sc)]) (t := 53) (fr := (0, 0)) (heap_alloc_new w1 _)) (one_slice _ _ _) (by omega) (by unfold maxLen; omega) (by omega) (Nat.le_trans Hw5.out (alloc_below _).size) (w1.heap.size + 1) (by simp) ?_; intro g cap3 w5 hown hgrow hat hglt; have hz5 := (hgrow.block (w0.heap.size + 1) (Nat.lt_of_lt_of_le Hl1.out (alloc_below _).size) (Hob.out)).trans ((Deep.blk_alloc_lt w1 _ (w0.heap.size + 1) Hl1.out).trans Hk1.out); have cz5 := box_cell hz5 0; simp only [List.getElem?_toArray, List.getElem?_cons_zero] at cz5; have fz5 : w5.frozen? ⟨w0.heap.size + 1, 0, none⟩ = false := by simp [World.frozen?, hz5]))
      all_goals
        have HV5 := hideIt (HV1.out.push (w1 := (w1.alloc (.cells #[(.slice sa (nodeAt A x).bits.length sc)] 53)).drew) ((alloc_below _).trans ((below_d _).mono (alloc_below _).size)) Hs.out Hcl.out Hfew.out hown hgrow)
        clear hown hgrow hat hglt hz5 cz5 fz5
        obtain ⟨t0, t1, t2, t3⟩ := HV5.out.cells
        have n5 := (HV5.out.below.cell (p := ⟨ab, 0, none⟩) la).trans n0
        have e5 := (HV5.out.below.cell (p := ⟨nb, x.toNat * 5 + 2, none⟩) ln).trans d2
        go_wp2_with fail
        go_loopw [42] (fun i wr => ∃ (k : Nat) (get' : Lit → Value) (ks' : List Lit) (v' : Value) (vs' : List Value) (L' : List (List Nat)), k ≤ (nodeAt A x).kids.length ∧ i = .int .i64 k ∧ CV X w0 ab A wr get' ks' v' vs' L' ∧ VMid A R x ks (L ++ [(nodeAt A x).bits]) k ks' L') (fun i _ => (nodeAt A x).kids.length - (intOf i).toNat)
        case atStart => exact ⟨0, _, _, _, _, _, by omega, rfl, HV5.out, HM0.out⟩
        case round =>
          obtain ⟨k, get', ks', v', vs', L', hk, rfl, hW, hMd⟩ := hrel
          by_cases hlt : k < (nodeAt A x).kids.length
          · have hlt' : (k : Int) < ((nodeAt A x).kids.length : Int) := by omega
            obtain ⟨g, o, rfl, _, hc⟩ := K3.out (fun e => by rw [e] at hlt; cases hlt)
            have gl : g < w0.heap.size := cell_lt (hc k hlt)
            have ck := (hW.below.cell (p := ⟨g, o + k, none⟩) gl).trans (hc k hlt)
            have hv := HKV.out _ (List.getElem_mem hlt)
            have hrk := HRkid.out _ (List.getElem_mem hlt)
            have HNX : Hid (∀ (ks2 : List Lit) (L2 : List (List Nat)), CR A R ks2 L2 → Grew A ks' L' ks2 L2 → IK (nodeAt A x).kids[k] ∈ ks2 → VMid A R x ks (L ++ [(nodeAt A x).bits]) (k + 1) ks2 L2) := fun ks2 L2 a b c => hMd.next a b hlt c
            have HMd := hideIt hMd
            have Hrk := hideIt hrk
            obtain ⟨_, _, _, r3⟩ := hW.cells
            have Hv := hideIt hv
            have HW := hideIt hW
            have hww : w0.heap.size + 4 < wr.heap.size := heap_lt hW.k3
            generalize (nodeAt A x).kids[k] = y at *
            clear hc hv hW hMd hrk
            unfold fvV at r3
            go_wp2_with (go_at_call 74; refine (HIH.out _ Hv.out.2 y rfl Hv.out.1 Hrk.out wr _ _ _ _ _ HW.out HMd.out.cr).mono ?_; rintro e w5 ⟨get5, ks5, v5, vs5, L5, rfl, hV5, hC5, hG5, hI5⟩)
            go_roundw
            case rel => exact ⟨k + 1, _, _, _, _, _, by omega, by go_num, hV5, HNX.out _ _ hC5 hG5 hI5⟩
            case measure => simp [intOf]; omega
          · obtain rfl : k = (nodeAt A x).kids.length := by omega
            have HW := hideIt hW
            have HMd := hideIt hMd
            clear hW hMd
            go_wp2_with fail
            go_end0
            exact ⟨_, _, _, _, _, rfl, HW.out, HMd.out.done (fun _ => by simp) (fun l hl => by simp [hl])⟩
    · have b3 : ((nodeAt A x).kind == 3) = false := by simp [h3]
      have Hn3 : Hid (¬ (nodeAt A x).kind = 3) := h3
      have HM0 : Hid (VMid A R x ks L 0 (IK x :: ks) L) := VMid.start (HCR.out.mark HRx.out)
      clear h3
      go_enter Tryz.func74, Tryz.ntmps74
      go_wp2_with fail
      go_loopw [42] (fun i wr => ∃ (k : Nat) (get' : Lit → Value) (ks' : List Lit) (v' : Value) (vs' : List Value) (L' : List (List Nat)), k ≤ (nodeAt A x).kids.length ∧ i = .int .i64 k ∧ CV X w0 ab A wr get' ks' v' vs' L' ∧ VMid A R x ks L k ks' L') (fun i _ => (nodeAt A x).kids.length - (intOf i).toNat)
      case atStart => exact ⟨0, _, _, _, _, _, by omega, rfl, HV1.out, HM0.out⟩
      case round =>
        obtain ⟨k, get', ks', v', vs', L', hk, rfl, hW, hMd⟩ := hrel
        by_cases hlt : k < (nodeAt A x).kids.length
        · have hlt' : (k : Int) < ((nodeAt A x).kids.length : Int) := by omega
          obtain ⟨g, o, rfl, _, hc⟩ := K3.out (fun e => by rw [e] at hlt; cases hlt)
          have gl : g < w0.heap.size := cell_lt (hc k hlt)
          have ck := (hW.below.cell (p := ⟨g, o + k, none⟩) gl).trans (hc k hlt)
          have hv := HKV.out _ (List.getElem_mem hlt)
          have hrk := HRkid.out _ (List.getElem_mem hlt)
          have HNX : Hid (∀ (ks2 : List Lit) (L2 : List (List Nat)), CR A R ks2 L2 → Grew A ks' L' ks2 L2 → IK (nodeAt A x).kids[k] ∈ ks2 → VMid A R x ks L (k + 1) ks2 L2) := fun ks2 L2 a b c => hMd.next a b hlt c
          have HMd := hideIt hMd
          have Hrk := hideIt hrk
          obtain ⟨_, _, _, r3⟩ := hW.cells
          have Hv := hideIt hv
          have HW := hideIt hW
          have hww : w0.heap.size + 4 < wr.heap.size := heap_lt hW.k3
          generalize (nodeAt A x).kids[k] = y at *
          clear hc hv hW hMd hrk
          unfold fvV at r3
          go_wp2_with (go_at_call 74; refine (HIH.out _ Hv.out.2 y rfl Hv.out.1 Hrk.out wr _ _ _ _ _ HW.out HMd.out.cr).mono ?_; rintro e w5 ⟨get5, ks5, v5, vs5, L5, rfl, hV5, hC5, hG5, hI5⟩)
          go_roundw
          case rel => exact ⟨k + 1, _, _, _, _, _, by omega, by go_num, hV5, HNX.out _ _ hC5 hG5 hI5⟩
          case measure => simp [intOf]; omega
        · obtain rfl : k = (nodeAt A x).kids.length := by omega
          have HW := hideIt hW
          have HMd := hideIt hMd
          clear hW hMd
          go_wp2_with fail
          go_end0
          exact ⟨_, _, _, _, _, rfl, HW.out, HMd.out.done (fun h => absurd h Hn3.out) (fun l hl => hl)⟩
end Go.Proofs.Qxb6500848aGreatDoor
