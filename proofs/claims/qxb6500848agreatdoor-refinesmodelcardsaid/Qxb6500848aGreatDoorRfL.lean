/-
  RefinesModel.
-/
import Derived.Test.Qxb6500848aGreatDoorRfN
import Derived.Test.Qxb6500848aGreatDoorRfO
import Derived.Laws.StructEq
namespace Go.Proofs.Qxb6500848aGreatDoor
open Go.RowKit Pl Go.Maps
set_option maxRecDepth 100000

/-- The phases of a round. -/
def Ph (w : World) (kb eb mb ab hb ab2 : Nat) (ad af an : Addr) (kd oa ob oc : Int) (u' p' : Word) (Sc : Nat → Prop) (w' : World) (u v : Value) : Bool → Bool → Prop
  | false, false => Jw w kb eb mb ab hb ab2 ad af an Sc pl0 w'
  | true, false => ∃ f0 f1 f2 f3 n, u = .agg #[.bool f0, .bool f1, .bool f2, .bool f3, .int .i64 n] ∧ Jw w kb eb mb ab hb ab2 ad af an Sc (pl1 kd oa ob oc u' p' u) w'
  | true, true => ∃ f0 f1 f2 f3 n g0 g1 g2 g3 m, u = .agg #[.bool f0, .bool f1, .bool f2, .bool f3, .int .i64 n] ∧ v = .agg #[.bool g0, .bool g1, .bool g2, .bool g3, .int .i64 m] ∧ Jw w kb eb mb ab hb ab2 ad af an Sc (pl2 kd f2 u v) w'
  | false, true => False
def Bk (Sc : Nat → Prop) (w' : World) (t : Value) (a : Bool) : Prop := a = true → ∃ b, t = .pointer (some ⟨b, 0, none⟩) ∧ Sc b ∧ ∃ p0 p1 p2 p3 p4, w'.heap[b]? = some (.cells #[p0, p1, p2, p3, p4] 95 (0, 0))
def J7 (w : World) (kb eb mb ab hb ab2 : Nat) (ad af an : Addr) (kd oa ob oc : Int) (u' p' : Word) (opb : Nat) (opc : Array Value) (c1 c2 a7 a8 : Bool) (t7 t8 u v : Value) (w' : World) : Prop :=
  ∃ Sc : Nat → Prop, Ph w kb eb mb ab hb ab2 ad af an kd oa ob oc u' p' Sc w' u v c1 c2 ∧ Bk Sc w' t7 a7 ∧ Bk Sc w' t8 a8 ∧ (a7 = true → a8 = true → t7 ≠ t8) ∧ Sc opb ∧ w'.heap[opb]? = some (.cells opc 31 (0, 0)) ∧ (a7 = true → t7 ≠ .pointer (some ⟨opb, 0, none⟩)) ∧ (a8 = true → t8 ≠ .pointer (some ⟨opb, 0, none⟩))
/-- Behind the stores. -/
def J89 (w : World) (kb eb mb ab hb ab2 : Nat) (ad af an : Addr) (kd : Int) (opb : Nat) (opc : Array Value) (s8 : Bool) (t7 t8 u v : Value) (w' : World) : Prop :=
  ∃ (Sc : Nat → Prop) (b7 b8 : Nat) (f0 f1 f2 f3 : Bool) (n : Int) (g0 g1 g2 g3 : Bool) (m : Int), t7 = .pointer (some ⟨b7, 0, none⟩) ∧ t8 = .pointer (some ⟨b8, 0, none⟩) ∧ b7 ≠ b8 ∧ b7 ≠ opb ∧ b8 ≠ opb ∧ Sc b7 ∧ Sc b8 ∧ u = .agg #[.bool f0, .bool f1, .bool f2, .bool f3, .int .i64 n] ∧ v = .agg #[.bool g0, .bool g1, .bool g2, .bool g3, .int .i64 m] ∧ Jw w kb eb mb ab hb ab2 ad af an Sc (pl2 kd f2 u v) w' ∧ w'.heap[opb]? = some (.cells opc 31 (0, 0)) ∧ w'.heap[b7]? = some (.cells #[.bool f0, .bool f1, .bool f2, .bool f3, .int .i64 n] 95 (0, 0)) ∧ (∃ p0 p1 p2 p3 p4, w'.heap[b8]? = some (.cells #[p0, p1, p2, p3, p4] 95 (0, 0))) ∧ (s8 = true → w'.heap[b8]? = some (.cells #[.bool g0, .bool g1, .bool g2, .bool g3, .int .i64 m] 95 (0, 0)))

section
variable {w w' w2 : World} {kb eb mb ab hb ab2 opb : Nat} {ad af an : Addr} {kd oa ob oc : Int} {u' p' : Word} {opc : Array Value} {Sc : Nat → Prop} {t t7 t8 u v : Value} {a : Bool}
theorem Bk.keep (h : Bk Sc w' t a) (hk : ∀ b, Sc b → w2.heap[b]? = w'.heap[b]?) : Bk Sc w2 t a := fun ha => by
  obtain ⟨b, e, sb, p0, p1, p2, p3, p4, q⟩ := h ha
  exact ⟨b, e, sb, p0, p1, p2, p3, p4, (hk b sb).trans q⟩
theorem Bk.alloc (h : Bk Sc w' t a) (o : Obj) : Bk (fun b => Sc b ∨ b = w'.heap.size) (w'.alloc o) t a := fun ha => by
  obtain ⟨b, e, sb, p0, p1, p2, p3, p4, q⟩ := h ha
  exact ⟨b, e, Or.inl sb, p0, p1, p2, p3, p4, ((alloc_below o).block _ (heap_lt q)).trans q⟩
theorem Bk.new (w' : World) (Sc : Nat → Prop) (p0 p1 p2 p3 p4 : Value) (a : Bool) : Bk (fun b => Sc b ∨ b = w'.heap.size) (w'.alloc (.cells #[p0, p1, p2, p3, p4] 95)) (.pointer (some ⟨w'.heap.size, 0, none⟩)) a :=
  fun _ => ⟨_, rfl, Or.inr rfl, _, _, _, _, _, heap_new _ _⟩
theorem Bk.old (h : Bk Sc w' t a) (ha : a = true) : t ≠ .pointer (some ⟨w'.heap.size, 0, none⟩) := fun e => by
  obtain ⟨b, e', sb, p0, p1, p2, p3, p4, q⟩ := h ha
  rw [e'] at e
  simp only [Value.pointer.injEq, Option.some.injEq, Addr.mk.injEq] at e
  have := heap_lt q
  omega
theorem Ph.alloc {c1 c2 : Bool} (h : Ph w kb eb mb ab hb ab2 ad af an kd oa ob oc u' p' Sc w' u v c1 c2) (o : Obj) : Ph w kb eb mb ab hb ab2 ad af an kd oa ob oc u' p' (fun b => Sc b ∨ b = w'.heap.size) (w'.alloc o) u v c1 c2 := by
  cases c1 <;> cases c2
  · exact Jw.alloc h o
  · exact h
  · obtain ⟨f0, f1, f2, f3, n, e, j⟩ := h
    exact ⟨f0, f1, f2, f3, n, e, j.alloc o⟩
  · obtain ⟨f0, f1, f2, f3, n, g0, g1, g2, g3, m, e, e', j⟩ := h
    exact ⟨f0, f1, f2, f3, n, g0, g1, g2, g3, m, e, e', j.alloc o⟩
theorem J7.alloc7 {c1 c2 a8 : Bool} (h : J7 w kb eb mb ab hb ab2 ad af an kd oa ob oc u' p' opb opc c1 c2 false a8 t7 t8 u v w') (p0 p1 p2 p3 p4 : Value) : J7 w kb eb mb ab hb ab2 ad af an kd oa ob oc u' p' opb opc c1 c2 true a8 (.pointer (some ⟨w'.heap.size, 0, none⟩)) t8 u v (w'.alloc (.cells #[p0, p1, p2, p3, p4] 95)) := by
  obtain ⟨Sc, hp, b7, b8, hne, hs, ho, n7, n8⟩ := h
  exact ⟨_, hp.alloc _, Bk.new w' Sc p0 p1 p2 p3 p4 true, b8.alloc _, fun _ h8 e => b8.old h8 e.symm, Or.inl hs, ((alloc_below _).block _ (heap_lt ho)).trans ho, fun _ e => by simp only [Value.pointer.injEq, Option.some.injEq, Addr.mk.injEq] at e; have := heap_lt ho; omega, n8⟩
theorem J7.alloc8 {c1 c2 a7 : Bool} (h : J7 w kb eb mb ab hb ab2 ad af an kd oa ob oc u' p' opb opc c1 c2 a7 false t7 t8 u v w') (p0 p1 p2 p3 p4 : Value) : J7 w kb eb mb ab hb ab2 ad af an kd oa ob oc u' p' opb opc c1 c2 a7 true t7 (.pointer (some ⟨w'.heap.size, 0, none⟩)) u v (w'.alloc (.cells #[p0, p1, p2, p3, p4] 95)) := by
  obtain ⟨Sc, hp, b7, b8, hne, hs, ho, n7, n8⟩ := h
  exact ⟨_, hp.alloc _, b7.alloc _, Bk.new w' Sc p0 p1 p2 p3 p4 true, fun h7 _ e => b7.old h7 e, Or.inl hs, ((alloc_below _).block _ (heap_lt ho)).trans ho, n7, fun _ e => by simp only [Value.pointer.injEq, Option.some.injEq, Addr.mk.injEq] at e; have := heap_lt ho; omega⟩
theorem J7.real {a7 a8 : Bool} {o6 : Int} {wa pa : Option Addr} {wn wc pn pc : Nat} {wd pd : Word} (h : J7 w kb eb mb ab hb ab2 ad af an kd oa ob oc (wd.take 5) (pd.take 5) opb opc false false a7 a8 t7 t8 u v w') (hw : Ints (fun _ => False) w (.slice wa wn wc) wd) (hp : Ints (fun _ => False) w (.slice pa pn pc) pd) :
    Calls Tryz.prog 61 #[.pointer (some ⟨kb, 0, none⟩), .agg #[.int .i64 kd, .int .i64 oa, .int .i64 ob, .int .i64 oc, .slice wa wn wc, .slice pa pn pc, .int .i64 o6]] w' fun e w2 => ∃ u2, e = .returned u2 ∧ J7 w kb eb mb ab hb ab2 ad af an kd oa ob oc (wd.take 5) (pd.take 5) opb opc true false a7 a8 t7 t8 u2 v w2 := by
  obtain ⟨Sc, hj, b7, b8, hne, hs, ho, n7, n8⟩ := h
  refine (Jw.real (o6 := o6) hj hw hp).mono ?_
  rintro e w2 ⟨f0, f1, f2, f3, n, rfl, j, hk⟩
  exact ⟨_, rfl, Sc, ⟨f0, f1, f2, f3, n, rfl, j⟩, b7.keep hk, b8.keep hk, hne, hs, (hk _ hs).trans ho, n7, n8⟩
theorem J7.model {a7 a8 : Bool} {o6 : Int} {wa pa : Option Addr} {wn wc pn pc : Nat} {wd pd : Word} (h : J7 w kb eb mb ab hb ab2 ad af an kd oa ob oc (wd.take 5) (pd.take 5) opb opc true false a7 a8 t7 t8 u v w') (hw : Ints (fun _ => False) w (.slice wa wn wc) wd) (hwz : Nz (.slice wa wn wc)) (hwl : wd.length ≤ 65536) (hp : Ints (fun _ => False) w (.slice pa pn pc) pd) (hpz : Nz (.slice pa pn pc)) (hpl : pd.length ≤ 65536) :
    Calls Tryz.prog 62 #[.pointer (some ⟨hb, 0, none⟩), .agg #[.int .i64 kd, .int .i64 oa, .int .i64 ob, .int .i64 oc, .slice wa wn wc, .slice pa pn pc, .int .i64 o6]] w' fun e w2 => ∃ v2, e = .returned v2 ∧ J7 w kb eb mb ab hb ab2 ad af an kd oa ob oc (wd.take 5) (pd.take 5) opb opc true true a7 a8 t7 t8 u v2 w2 := by
  obtain ⟨Sc, ⟨f0, f1, f2, f3, n, rfl, hj⟩, b7, b8, hne, hs, ho, n7, n8⟩ := h
  refine (Jw.model (o6 := o6) hj hw hwz hwl hp hpz hpl).mono ?_
  rintro e w2 ⟨g0, g1, g2, g3, m, rfl, j, hk⟩
  exact ⟨_, rfl, Sc, ⟨f0, f1, f2, f3, n, g0, g1, g2, g3, m, rfl, rfl, j⟩, b7.keep hk, b8.keep hk, hne, hs, (hk _ hs).trans ho, n7, n8⟩
/-- The first store: what stands before it, and behind it. -/
theorem J7.st8 (h : J7 w kb eb mb ab hb ab2 ad af an kd oa ob oc u' p' opb opc true true true true t7 t8 u v w') : ∃ (b7 : Nat) (f0 f1 f2 f3 : Bool) (n : Int) (p0 p1 p2 p3 p4 : Value), t7 = .pointer (some ⟨b7, 0, none⟩) ∧ u = .agg #[.bool f0, .bool f1, .bool f2, .bool f3, .int .i64 n] ∧ w'.heap[b7]? = some (.cells #[p0, p1, p2, p3, p4] 95 (0, 0)) ∧ J89 w kb eb mb ab hb ab2 ad af an kd opb opc false t7 t8 u v (five w' b7 (.bool f0) (.bool f1) (.bool f2) (.bool f3) (.int .i64 n)) := by
  obtain ⟨Sc, ⟨f0, f1, f2, f3, n, g0, g1, g2, g3, m, eu, ev, j⟩, b7, b8, hne, hs, ho, n7, n8⟩ := h
  obtain ⟨b7, e7, s7, p0, p1, p2, p3, p4, h7⟩ := b7 rfl
  obtain ⟨b8, e8, s8, q0, q1, q2, q3, q4, h8⟩ := b8 rfl
  have ne1 : b7 ≠ b8 := fun e => hne rfl rfl (by rw [e7, e8, e])
  have ne2 : b7 ≠ opb := fun e => n7 rfl (by rw [e7, e])
  have ne3 : b8 ≠ opb := fun e => n8 rfl (by rw [e8, e])
  have hE := five_ext w' b7 (.bool f0) (.bool f1) (.bool f2) (.bool f3) (.int .i64 n)
  exact ⟨b7, f0, f1, f2, f3, n, p0, p1, p2, p3, p4, e7, eu, h7, Sc, b7, b8, f0, f1, f2, f3, n, g0, g1, g2, g3, m, e7, e8, ne1, ne2, ne3, s7, s8, eu, ev, j.turn s7 hE, (hE.block opb (heap_lt ho) (fun q => ne2 q.symm)).trans ho, five_heap h7 _ _ _ _ _, ⟨q0, q1, q2, q3, q4, (hE.block b8 (heap_lt h8) (fun q => ne1 q.symm)).trans h8⟩, fun q => by cases q⟩
theorem J89.st9 (h : J89 w kb eb mb ab hb ab2 ad af an kd opb opc false t7 t8 u v w') : ∃ (b8 : Nat) (g0 g1 g2 g3 : Bool) (m : Int) (p0 p1 p2 p3 p4 : Value), t8 = .pointer (some ⟨b8, 0, none⟩) ∧ v = .agg #[.bool g0, .bool g1, .bool g2, .bool g3, .int .i64 m] ∧ w'.heap[b8]? = some (.cells #[p0, p1, p2, p3, p4] 95 (0, 0)) ∧ J89 w kb eb mb ab hb ab2 ad af an kd opb opc true t7 t8 u v (five w' b8 (.bool g0) (.bool g1) (.bool g2) (.bool g3) (.int .i64 m)) := by
  obtain ⟨Sc, b7, b8, f0, f1, f2, f3, n, g0, g1, g2, g3, m, e7, e8, ne1, ne2, ne3, s7, s8, eu, ev, j, ho, h7, ⟨q0, q1, q2, q3, q4, h8⟩, _⟩ := h
  have hE := five_ext w' b8 (.bool g0) (.bool g1) (.bool g2) (.bool g3) (.int .i64 m)
  have h8' := five_heap h8 (.bool g0) (.bool g1) (.bool g2) (.bool g3) (.int .i64 m)
  exact ⟨b8, g0, g1, g2, g3, m, q0, q1, q2, q3, q4, e8, ev, h8, Sc, b7, b8, f0, f1, f2, f3, n, g0, g1, g2, g3, m, e7, e8, ne1, ne2, ne3, s7, s8, eu, ev, j.turn s8 hE, (hE.block opb (heap_lt ho) (fun q => ne3 q.symm)).trans ho, (hE.block b7 (heap_lt h7) ne1).trans h7, ⟨_, _, _, _, _, h8'⟩, fun _ => h8'⟩
end

set_option maxHeartbeats 8000000 in
theorem law_rf (w : World) (hg : Gd tabC w) {ad af an : Addr} (hsn : Sn (fun _ => False) w ad af an) (a0 : Option Addr) (b off n cap : Nat) (f : Nat → OpV) (hn : n ≤ 1152921504606846976) (ha : 0 < n → a0 = some ⟨b, off, none⟩) (hf : ∀ i, i < n → OpAt w b (off + i * 7) (f i)) :
    Calls Tryz.prog 9 #[.slice a0 n cap] w fun e w' => e = .returned (.bool true) ∧ Below w.heap.size w w' := by
  have Hs := hideIt (small_walk w a0 b off n cap f hn ha hf)
  have HF : Hid (∀ i, i < n → OpAt w b (off + i * 7) (f i)) := hf
  have HA : Hid (0 < n → a0 = some ⟨b, off, none⟩) := ha
  have he : Ge w := ⟨_, _, hsn.gf⟩
  have hn0 : Gp w ad := hsn.gp
  have lgn : 1 < w.heap.size := cell_lt hn0
  have lgd : 3 < w.heap.size := cell_lt (hg 0 (by omega))
  obtain ⟨X0, nb0, hM0, hA0, hX0⟩ := mc_new2 he 65536
  have s1 : ∀ (W : World) (o : Obj), (W.alloc o).heap.size = W.heap.size + 1 := Deep.nblk_alloc
  have sn : (nw w 65536).heap.size = w.heap.size + 1 + 1 := by unfold nw; rw [s1, s1]
  have bn : Below w.heap.size w (nw w 65536) := (alloc_below _).trans ((alloc_below _).mono (by rw [s1]; omega))
  have be : Below (nw w 65536).heap.size (nw w 65536) (ew (nw w 65536) (w.heap.size + 1)) := ((((alloc_below _).trans ((alloc_below _).mono (by rw [s1]; omega))).trans ((alloc_below _).mono (by rw [s1, s1]; omega))).trans ((alloc_below _).mono (by rw [s1, s1, s1]; omega))).trans ((alloc_below _).mono (by rw [s1, s1, s1, s1]; omega))
  have bw : Below w.heap.size w ((ew (nw w 65536) (w.heap.size + 1)).alloc (.cells #[.pointer (some ⟨w.heap.size + 1, 0, none⟩), .pointer (some ⟨(nw w 65536).heap.size + 4, 0, none⟩), .slice none 0 0] 39)) := (bn.trans (be.mono (by omega))).trans ((alloc_below _).mono (by have := be.size; omega))
  have Hnm := hideIt (newMachine_walk w)
  generalize ((ew (nw w 65536) (w.heap.size + 1)).alloc (.cells #[.pointer (some ⟨w.heap.size + 1, 0, none⟩), .pointer (some ⟨(nw w 65536).heap.size + 4, 0, none⟩), .slice none 0 0] 39)) = w0 at *
  generalize (ew (nw w 65536) (w.heap.size + 1)).heap.size = kb at *
  generalize (nw w 65536).heap.size + 4 = eb at *
  generalize (nw w 65536).heap.size = mb at *
  generalize w.heap.size + 1 = ab at *
  have hMD : MD kb eb mb ab 65536 [] ad X0 w0 nb0 A0 := ⟨hM0, hA0, fun j hj => (bw.cell (p := ⟨3, j, none⟩) lgd).trans (hg j hj), fun x => by have := hX0 _ x; omega, (bw.cell (p := ⟨1, 0, none⟩) lgn).trans hn0, fun x => by have := hX0 _ x; omega⟩
  have hSn : Sn X0 w0 ad af an := by
    have h0 : Sn (fun _ => False) w0 ad af an := hsn.ext (Ext.of_below bw (fun _ => False)) (fun _ _ q => q) (fun _ _ => Iff.rfl)
    obtain ⟨c1, t1, q1⟩ := hsn.hf
    obtain ⟨c2, t2, q2⟩ := hsn.hd
    have l1 := heap_lt q1
    have l2 := heap_lt q2
    have l3 := cell_lt hsn.gf
    have l4 := cell_lt hsn.gb
    exact ⟨h0.gf, h0.gp, h0.gb, fun x => by have := hX0 _ x; omega, fun x => by have := hX0 _ x; omega, fun x => by have := hX0 _ x; omega, h0.hf, h0.hd, fun x => by have := hX0 _ x; omega, fun x => by have := hX0 _ x; omega, h0.ne⟩
  have hBm := bm_start hMD hSn hX0 bw.size
  have Hmm := hideIt (mnew_walk w0)
  have bz : Below w0.heap.size w0 ((nw w0 65536).alloc (.cells #[.pointer (some ⟨w0.heap.size + 1, 0, none⟩), .slice none 0 0] 141)) := by
    have s2 : (nw w0 65536).heap.size = w0.heap.size + 2 := by unfold nw; rw [s1, s1]
    have b1 : Below w0.heap.size w0 (nw w0 65536) := (alloc_below _).trans ((alloc_below _).mono (by rw [s1]; omega))
    exact b1.trans ((alloc_below _).mono (by omega))
  have HRL : Hid (Jw w kb eb mb ab (w0.heap.size + 2) (w0.heap.size + 1) ad af an (fun _ => False) pl0 ((nw w0 65536).alloc (.cells #[.pointer (some ⟨w0.heap.size + 1, 0, none⟩), .slice none 0 0] 141))) := ⟨_, _, _, A0, A0, [], [], hBm, by simp, by simp, ⟨rs0, im0⟩, bw.trans (bz.mono bw.size), fun b q => q.elim⟩
  clear hMD hSn hBm bz bw bn be sn s1 hM0 hA0 hX0 hsn hg he hn0 lgn lgd hf ha
  generalize (nw w0 65536).alloc (.cells #[.pointer (some ⟨w0.heap.size + 1, 0, none⟩), .slice none 0 0] 141) = ws at *
  generalize w0.heap.size + 2 = hb at *
  generalize w0.heap.size + 1 = ab2 at *
  go_enter Tryz.func9, Tryz.ntmps9
  go_wp2_with fail
  go_at_call 10
  refine Hs.out.mono ?_
  rintro e w1 ⟨hw1, r, rfl, hr⟩
  obtain rfl := hw1.symm
  have Hr := hideIt hr
  clear hr hw1
  cases r
  · go_wp2_with fail
    go_ret
    exact ⟨rfl, Below.refl _ _⟩
  · have HS := Hr.out rfl
    obtain ⟨hn6, hS⟩ := HS
    have HS : Hid (∀ i, i < n → (f i).wd.length ≤ 65536 ∧ (f i).pd.length ≤ 65536) := hS
    clear hS Hr Hs
    go_wp2_with (first
      | (go_at_call 59; refine Hnm.out.mono ?_; rintro e w' ⟨rfl, rfl⟩)
      | (go_at_call 60; refine Hmm.out.mono ?_; rintro e w' ⟨rfl, rfl⟩))
    go_loopw [16] (fun i wr => ∃ k : Nat, k ≤ n ∧ i = .int .i64 k ∧ Jw w kb eb mb ab hb ab2 ad af an (fun _ => False) pl0 wr) (fun i _ => n - (intOf i).toNat)
    case atStart => exact ⟨0, by omega, rfl, HRL.out⟩
    case round =>
      obtain ⟨k, hk, rfl, hRL⟩ := hrel
      have HR := hideIt hRL
      have hB := hRL.bel
      have hsz := hB.size
      clear hRL
      by_cases hlt : k < n
      · have hlt' : (k : Int) < (n : Int) := by omega
        obtain rfl := HA.out (by omega)
        have hO := HF.out k hlt
        obtain ⟨z4, z5⟩ := HS.out k hlt
        generalize f k = o at hO z4 z5
        have kk : ∀ {p : Addr} {u : Value}, w.cell? p = some u → wr.cell? p = some u := fun {p u} e => (hB.cell (p := p) (cell_lt e)).trans e
        have c0 := kk hO.c0
        have c1 := kk hO.c1
        have c2 := kk hO.c2
        have c3 := kk hO.c3
        have c4 := kk hO.c4
        have c5 := kk hO.c5
        have c6 := kk hO.c6
        have lb : b < wr.heap.size := cell_lt c0
        clear kk
        have Hiw := hideIt hO.wi
        have Hip := hideIt hO.pi
        have Hzw := hideIt hO.wz
        have Hzp := hideIt hO.pz
        clear hO hB
        obtain ⟨kd, oa, ob, oc, od, wa, wc, wd, pa, pc, pd⟩ := o
        simp only at c0 c1 c2 c3 c4 c5 c6 z4 z5
        go_upto_region 7 with fail
        clear c0 c1 c2 c3 c4 c5 c6
        have hop : (wr.alloc (.cells #[.int .i64 kd, .int .i64 oa, .int .i64 ob, .int .i64 oc, .slice wa wd.length wc, .slice pa pd.length pc, .int .i64 od] 31)).heap[wr.heap.size]? = some (.cells #[.int .i64 kd, .int .i64 oa, .int .i64 ob, .int .i64 oc, .slice wa wd.length wc, .slice pa pd.length pc, .int .i64 od] 31 (0, 0)) := heap_new _ _
        have HJ : Hid (Jw w kb eb mb ab hb ab2 ad af an (fun b => False ∨ b = wr.heap.size) pl0 (wr.alloc (.cells #[.int .i64 kd, .int .i64 oa, .int .i64 ob, .int .i64 oc, .slice wa wd.length wc, .slice pa pd.length pc, .int .i64 od] 31))) := HR.out.alloc _
        generalize wr.alloc (.cells #[.int .i64 kd, .int .i64 oa, .int .i64 ob, .int .i64 oc, .slice wa wd.length wc, .slice pa pd.length pc, .int .i64 od] 31) = w1 at *
        have d0 := box_cell hop 0
        have d1 := box_cell hop 1
        have d2 := box_cell hop 2
        have d3 := box_cell hop 3
        have d4 := box_cell hop 4
        have d5 := box_cell hop 5
        have d6 := box_cell hop 6
        simp only [List.getElem?_toArray, List.getElem?_cons_zero, List.getElem?_cons_succ] at d0 d1 d2 d3 d4 d5 d6
        have HOp := hideIt hop
        clear hop
        go_cut [7, 8, 16] from 16 to 34 (fun v7 v8 v16 wx => v16 = .int .i64 (k : Int) ∧ ∃ u v, J89 w kb eb mb ab hb ab2 ad af an kd wr.heap.size #[.int .i64 kd, .int .i64 oa, .int .i64 ob, .int .i64 oc, .slice wa wd.length wc, .slice pa pd.length pc, .int .i64 od] true v7 v8 u v wx)
        case first =>
          refine wp_region_held_drew (S := fun w' => w'.cell? ⟨wr.heap.size, 0, none⟩ = some (.int .i64 kd) ∧ w'.cell? ⟨wr.heap.size, 1, none⟩ = some (.int .i64 oa) ∧ w'.cell? ⟨wr.heap.size, 2, none⟩ = some (.int .i64 ob) ∧ w'.cell? ⟨wr.heap.size, 3, none⟩ = some (.int .i64 oc) ∧ w'.cell? ⟨wr.heap.size, 4, none⟩ = some (.slice wa wd.length wc) ∧ w'.cell? ⟨wr.heap.size, 5, none⟩ = some (.slice pa pd.length pc) ∧ w'.cell? ⟨wr.heap.size, 6, none⟩ = some (.int .i64 od)) (by kernel_rfl) ?_ (fun hHeld => ?_)
          · exact ⟨d0, d1, d2, d3, d4, d5, d6⟩
          · refine anyH_do (i := 0) (d := some 20) (v := .pointer (some ⟨kb, 0, none⟩)) rfl (by kernel_rfl) (by kernel_rfl) (by kernel_rfl) (fun _ _ _ h => h) (by intro w hw; go_simp) hHeld ?_
            simp only [Act.put, List.setIfInBounds_toArray, List.set_cons_zero, List.set_cons_succ]
            refine anyH_do (i := 1) (d := some 21) (v := .agg #[.int .i64 kd, .int .i64 oa, .int .i64 ob, .int .i64 oc, .slice wa wd.length wc, .slice pa pd.length pc, .int .i64 od]) rfl (by kernel_rfl) (by kernel_rfl) (by kernel_rfl) (fun _ _ _ h => h) (by intro w hw; go_simp) hHeld ?_
            simp only [Act.put, List.setIfInBounds_toArray, List.set_cons_zero, List.set_cons_succ]
            refine anyH_do (i := 3) (d := some 23) (v := .pointer (some ⟨hb, 0, none⟩)) rfl (by kernel_rfl) (by kernel_rfl) (by kernel_rfl) (fun _ _ _ h => h) (by intro w hw; go_simp) hHeld ?_
            simp only [Act.put, List.setIfInBounds_toArray, List.set_cons_zero, List.set_cons_succ]
            refine anyH_do (i := 4) (d := some 24) (v := .agg #[.int .i64 kd, .int .i64 oa, .int .i64 ob, .int .i64 oc, .slice wa wd.length wc, .slice pa pd.length pc, .int .i64 od]) rfl (by kernel_rfl) (by kernel_rfl) (by kernel_rfl) (fun _ _ _ h => h) (by intro w hw; go_simp) hHeld ?_
            simp only [Act.put, List.setIfInBounds_toArray, List.set_cons_zero, List.set_cons_succ]
            clear hHeld
            refine draw7 (fun t7 t8 u v => ⟨#[.slice (some ⟨b, off, none⟩) n cap, undef, u2, .pointer (some ⟨kb, 0, none⟩), .pointer (some ⟨hb, 0, none⟩), undef, .pointer (some ⟨wr.heap.size, 0, none⟩), t7, t8, .slice (some ⟨b, off, none⟩) n cap, .bool true, .bool false, .pointer (some ⟨kb, 0, none⟩), .pointer (some ⟨hb, 0, none⟩), .slice (some ⟨b, off, none⟩) n cap, .int .i64 (n : Int), .int .i64 (k : Int), .bool true, .pointer (some ⟨b, off + k * 7, none⟩), .agg #[.int .i64 kd, .int .i64 oa, .int .i64 ob, .int .i64 oc, .slice wa wd.length wc, .slice pa pd.length pc, .int .i64 od], .pointer (some ⟨kb, 0, none⟩), .agg #[.int .i64 kd, .int .i64 oa, .int .i64 ob, .int .i64 oc, .slice wa wd.length wc, .slice pa pd.length pc, .int .i64 od], u, .pointer (some ⟨hb, 0, none⟩), .agg #[.int .i64 kd, .int .i64 oa, .int .i64 ob, .int .i64 oc, .slice wa wd.length wc, .slice pa pd.length pc, .int .i64 od], v, u26, u27, u28, u29, u30, u31, u32, u33, u34], []⟩) (J7 w kb eb mb ab hb ab2 ad af an kd oa ob oc (wd.take 5) (pd.take 5) wr.heap.size #[.int .i64 kd, .int .i64 oa, .int .i64 ob, .int .i64 oc, .slice wa wd.length wc, .slice pa pd.length pc, .int .i64 od]) (J89 w kb eb mb ab hb ab2 ad af an kd wr.heap.size #[.int .i64 kd, .int .i64 oa, .int .i64 ob, .int .i64 oc, .slice wa wd.length wc, .slice pa pd.length pc, .int .i64 od] false) (J89 w kb eb mb ab hb ab2 ad af an kd wr.heap.size #[.int .i64 kd, .int .i64 oa, .int .i64 ob, .int .i64 oc, .slice wa wd.length wc, .slice pa pd.length pc, .int .i64 od] true) ?hS ?hS8 ?hS9 ?hR ?hR8 ?hR9 ?h2 ?h5 ?h6 ?h7 ?h8 ?h9 ?hQ u7 u8 u22 u25 w1.drew ?start
            case start => exact ⟨_, (HJ.out.below (below_d _)), (fun q => by cases q), (fun q => by cases q), (fun q => by cases q), Or.inr rfl, HOp.out, (fun q => by cases q), (fun q => by cases q)⟩
            case hS =>
              intro c1 c2 a7 a8 t7 t8 u v w h
              obtain ⟨Sc, hp, b7, b8, hne, hs, ho, n7, n8⟩ := h
              exact ⟨box_cell ho 0, box_cell ho 1, box_cell ho 2, box_cell ho 3, box_cell ho 4, box_cell ho 5, box_cell ho 6⟩
            case hS8 =>
              intro t7 t8 u v w h
              obtain ⟨Sc, b7, b8, f0, f1, f2, f3, n, g0, g1, g2, g3, m, e7, e8, ne1, ne2, ne3, s7, s8, eu, ev, j, ho, _⟩ := h
              exact ⟨box_cell ho 0, box_cell ho 1, box_cell ho 2, box_cell ho 3, box_cell ho 4, box_cell ho 5, box_cell ho 6⟩
            case hS9 =>
              intro t7 t8 u v w h
              obtain ⟨Sc, b7, b8, f0, f1, f2, f3, n, g0, g1, g2, g3, m, e7, e8, ne1, ne2, ne3, s7, s8, eu, ev, j, ho, _⟩ := h
              exact ⟨box_cell ho 0, box_cell ho 1, box_cell ho 2, box_cell ho 3, box_cell ho 4, box_cell ho 5, box_cell ho 6⟩
            case hR =>
              intro c1 c2 a7 a8 h
              cases c1 <;> cases c2 <;> cases a7 <;> cases a8 <;> first
                | exact absurd (h rfl) (by decide)
                | kernel_rfl
            case hR8 => kernel_rfl
            case hR9 => kernel_rfl
            case h2 =>
              intro a7 a8 t7 t8 u v w' hj
              have Hj := hideIt hj
              clear hj HJ HOp d0 d1 d2 d3 d4 d5 d6
              refine wpOp_step rfl (fun K hK' => ?_)
              have HK := hideIt hK'
              clear hK'
              go_simp
              go_at_call 61
              refine (Hj.out.real Hiw.out Hip.out).mono ?_
              rintro e w2 ⟨ur, rfl, hj2⟩
              have Hj2 := hideIt hj2
              clear hj2
              try go_wp2_with fail
              exact HK.out _ _ ⟨ur, rfl, Hj2.out⟩
            case h5 =>
              intro a7 a8 t7 t8 u v w' hj
              have Hj := hideIt hj
              clear hj HJ HOp d0 d1 d2 d3 d4 d5 d6
              refine wpOp_step rfl (fun K hK' => ?_)
              have HK := hideIt hK'
              clear hK'
              go_simp
              go_at_call 62
              refine (Hj.out.model Hiw.out Hzw.out z4 Hip.out Hzp.out z5).mono ?_
              rintro e w2 ⟨vr, rfl, hj2⟩
              have Hj2 := hideIt hj2
              clear hj2
              try go_wp2_with fail
              exact HK.out _ _ ⟨vr, rfl, Hj2.out⟩
            case h6 =>
              intro c1 c2 a8 t7 t8 u v w' hj
              have Hj := hideIt hj
              clear hj HJ HOp d0 d1 d2 d3 d4 d5 d6
              refine wpOp_step rfl (fun K hK' => ?_)
              have HK := hideIt hK'
              clear hK'
              go_simp
              exact HK.out _ _ ⟨_, rfl, Hj.out.alloc7 _ _ _ _ _⟩
            case h7 =>
              intro c1 c2 a7 t7 t8 u v w' hj
              have Hj := hideIt hj
              clear hj HJ HOp d0 d1 d2 d3 d4 d5 d6
              refine wpOp_step rfl (fun K hK' => ?_)
              have HK := hideIt hK'
              clear hK'
              go_simp
              exact HK.out _ _ ⟨_, rfl, Hj.out.alloc8 _ _ _ _ _⟩
            case h8 =>
              intro t7 t8 u v w' hj
              obtain ⟨bs, f0, f1, f2, f3, m, p0, p1, p2, p3, p4, e1, e2, hq, hJ⟩ := hj.st8
              subst e1
              subst e2
              have HJ8 := hideIt hJ
              have r0 := box_cell hq 0
              have r1 := box_cell hq 1
              have r2 := box_cell hq 2
              have r3 := box_cell hq 3
              have r4 := box_cell hq 4
              have z : ∀ i, w'.frozen? ⟨bs, i, none⟩ = false := fun i => by simp [World.frozen?, hq]
              have z0 := z 0
              have z1 := z 1
              have z2 := z 2
              have z3 := z 3
              have z4 := z 4
              simp only [List.getElem?_toArray, List.getElem?_cons_zero, List.getElem?_cons_succ] at r0 r1 r2 r3 r4
              clear hj hJ hq z HJ HOp d0 d1 d2 d3 d4 d5 d6
              refine wpOp_step rfl (fun K hK' => ?_)
              have HK := hideIt hK'
              clear hK'
              go_simp
              exact HK.out _ _ ⟨rfl, HJ8.out⟩
            case h9 =>
              intro t7 t8 u v w' hj
              obtain ⟨bs, f0, f1, f2, f3, m, p0, p1, p2, p3, p4, e1, e2, hq, hJ⟩ := hj.st9
              subst e1
              subst e2
              have HJ8 := hideIt hJ
              have r0 := box_cell hq 0
              have r1 := box_cell hq 1
              have r2 := box_cell hq 2
              have r3 := box_cell hq 3
              have r4 := box_cell hq 4
              have z : ∀ i, w'.frozen? ⟨bs, i, none⟩ = false := fun i => by simp [World.frozen?, hq]
              have z0 := z 0
              have z1 := z 1
              have z2 := z 2
              have z3 := z 3
              have z4 := z 4
              simp only [List.getElem?_toArray, List.getElem?_cons_zero, List.getElem?_cons_succ] at r0 r1 r2 r3 r4
              clear hj hJ hq z HJ HOp d0 d1 d2 d3 d4 d5 d6
              refine wpOp_step rfl (fun K hK' => ?_)
              have HK := hideIt hK'
              clear hK'
              go_simp
              exact HK.out _ _ ⟨rfl, HJ8.out⟩
            case hQ =>
              intro t7 t8 u v w' hj
              have Hj := hideIt hj
              clear hj HJ HOp d0 d1 d2 d3 d4 d5 d6
              dsimp only
              try go_wp2_with fail
              go_meet
              exact ⟨rfl, u, v, Hj.out⟩
        case rest =>
          obtain ⟨e16, u, v, Sc, b7, b8, f0, f1, f2, f3, m, g0, g1, g2, g3, m2, e7, e8, ne1, ne2, ne3, s7, s8, eu, ev, j, ho, h7, _, h8⟩ := hcut
          subst e16
          subst e7
          subst e8
          have h8 := h8 rfl
          have r0 := box_cell h7 0
          have r1 := box_cell h7 1
          have r2 := box_cell h7 2
          have r3 := box_cell h7 3
          have r4 := box_cell h7 4
          have q0 := box_cell h8 0
          have q1 := box_cell h8 1
          have q2 := box_cell h8 2
          have q3 := box_cell h8 3
          have q4 := box_cell h8 4
          have o0 := box_cell ho 0
          simp only [List.getElem?_toArray, List.getElem?_cons_zero, List.getElem?_cons_succ] at r0 r1 r2 r3 r4 q0 q1 q2 q3 q4 o0
          have Hj := hideIt j
          have HE : Hid (u = .agg #[.bool f0, .bool f1, .bool f2, .bool f3, .int .i64 m]) := eu
          have HV : Hid (v = .agg #[.bool g0, .bool g1, .bool g2, .bool g3, .int .i64 m2]) := ev
          clear j ho h7 h8 eu ev s7 s8 ne1 ne2 ne3 HJ HOp d0 d1 d2 d3 d4 d5 d6
          cases f2
          · have hJ0 : Jw w kb eb mb ab hb ab2 ad af an (fun _ => False) pl0 wc ∧ v = u := by
              obtain ⟨Z, nb, nb2, A, B, regs, regs2, hM, h8, h8', hpl, hB, hsc⟩ := Hj.out
              rcases hpl with ⟨t, _⟩ | ⟨_, t, hp⟩
              · cases t
              · exact ⟨⟨Z, nb, nb2, A, B, regs, regs2, hM, h8, h8', hp, hB, fun b q => q.elim⟩, t⟩
            have HJ0 := hideIt hJ0.1
            have hv := hJ0.2
            rw [HE.out, HV.out] at hv
            simp only [Value.agg.injEq, Array.mk.injEq, List.cons.injEq, Value.bool.injEq, Value.int.injEq, and_true, true_and] at hv
            obtain ⟨rfl, rfl, rfl, rfl, rfl⟩ := hv
            clear hJ0 Hj HE HV
            go_wp2_with fail
            exact ⟨⟨k + 1, by omega, by go_num, HJ0.out⟩, by simp [intOf]; omega⟩
          · have HB9 := hideIt Hj.out.bel
            by_cases q14 : 0 ≤ kd ∧ kd ≤ 14
            · have bb : decide (0 ≤ kd ∧ kd ≤ 14) = true := by simp [q14]
              clear Hj HE HV h8
              go_wp2_with (go_at_call 63; refine (builds_walk kd _).mono ?_; rintro e w' ⟨rfl, hw'⟩; obtain rfl := hw'.symm; rw [bb])
              go_ret
              exact ⟨rfl, HB9.out⟩
            · have bb : decide (0 ≤ kd ∧ kd ≤ 14) = false := by simp; omega
              have HJ0 : Hid (Jw w kb eb mb ab hb ab2 ad af an (fun _ => False) pl0 wc) := by
                obtain ⟨Z, nb, nb2, A, B, regs, regs2, hM, h8, h8', hpl, hB, hsc⟩ := Hj.out
                rcases hpl with ⟨_, t⟩ | ⟨t, _⟩
                · rcases t with t | t
                  · exact absurd t q14
                  · exact ⟨Z, nb, nb2, A, B, regs, regs2, hM, h8, h8', t, hB, fun b q => q.elim⟩
                · cases t
              clear Hj HE HV h8
              go_wp2_with (go_at_call 63; refine (builds_walk kd _).mono ?_; rintro e w' ⟨rfl, hw'⟩; obtain rfl := hw'.symm; rw [bb])
              exact ⟨⟨k + 1, by omega, by go_num, HJ0.out⟩, by simp [intOf]; omega⟩
      · obtain rfl : k = n := by omega
        go_wp2_with fail
        go_ret
        exact ⟨rfl, HR.out.bel⟩
end Go.Proofs.Qxb6500848aGreatDoor
