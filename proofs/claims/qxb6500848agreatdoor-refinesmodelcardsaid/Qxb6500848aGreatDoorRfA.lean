/-
  The real machine: its limit, the sentinels, answer.
-/
import Derived.Test.Qxb6500848aGreatDoorMqA
import Derived.Test.Qxb6500848aGreatDoorBuildC
import Derived.Test.Qxb6500848aGreatDoorAmW
import Derived.Test.Qxb6500848aGreatDoorIs
import Derived.Test.Qxb6500848aGreatDoorMatchW
import Derived.Stop.Asserts
import Derived.Defers
namespace Go.Proofs.Qxb6500848aGreatDoor
open Go.RowKit Pl Go.Maps
set_option maxRecDepth 100000

section
variable {X X' : Nat → Prop} {w w' w2 : World} {kb eb mb ab nb nb' m eb2 mb2 D : Nat} {lim : Int} {A A' : List Nd} {regs : List Int} {ad af an : Addr}

theorem setLim_ext (w : World) (ab : Nat) (l : Int) : Ext w.heap.size (fun b => b = ab) w (w.setCell ⟨ab, 1, none⟩ (.int .i64 l)) := Ext.setCell (X := fun b => b = ab) (p := ⟨ab, 1, none⟩) (Ext.refl _ _ _) (Or.inr rfl) _

theorem St.relim (h : St X w ab nb lim A) (l : Int) : St X (w.setCell ⟨ab, 1, none⟩ (.int .i64 l)) ab nb l A := by
  obtain ⟨cap, S, h1, h2, ⟨h3, h4⟩, h5⟩ := h.ar.ex
  obtain ⟨e1, t, v, e2⟩ := h.ar.er
  have e := setLim_ext w ab l
  have hY : ∀ b, b < w.heap.size → b = ab → X b := fun b _ q => by rw [q]; exact h.ar.xa
  refine ⟨⟨h.ar.wf, h.ar.len, h.ar.xa, h.ar.xn, h.ar.ne, ⟨e1, t, v, ?_⟩, cap, S, ?_, h2, ⟨h3, ?_⟩, fun i hi hi' => ⟨(h5 i hi hi').1.ext e (Nat.le_refl _) hY, (h5 i hi hi').2.ext e (Nat.le_refl _) hY⟩⟩, fun z hz => Nat.lt_of_lt_of_le (h.xlt z hz) e.size⟩
  · exact (e.cell (p := ⟨2, 0, none⟩) (cell_lt e2) (fun q => e1 (by show X _; rw [show 2 = ab from q]; exact h.ar.xa))).trans e2
  · simp [World.setCell, Array.getElem?_modify, h1]
  · rcases h4 with h4 | ⟨g, cap', cur, q, hb, hh, r⟩
    · exact Or.inl h4
    · refine Or.inr ⟨g, cap', cur, q, hb, ?_, r⟩
      have eg : g = nb := by simp only [Value.slice.injEq, Option.some.injEq, Addr.mk.injEq] at q; exact q.1.1.symm
      subst eg
      exact (e.block g (heap_lt hh) (fun q => h.ar.ne q.symm)).trans hh
theorem En.relim (h : En X w eb mb ab nb lim A) (l : Int) : En X (w.setCell ⟨ab, 1, none⟩ (.int .i64 l)) eb mb ab nb l A := by
  have e := setLim_ext w ab l
  obtain ⟨a, b, c, he⟩ := h.eng
  obtain ⟨get, ks, hM, hk⟩ := h.memo
  exact ⟨h.st.relim l, ⟨a, b, c, (e.block eb (heap_lt he) (fun q => h.xe (by rw [show eb = ab from q]; exact h.st.ar.xa))).trans he⟩, h.xe, h.xm, h.ma, h.mn, get, ks, hM.ext e h.lm h.ma, hk⟩
theorem Es.relim (h : Es X w eb mb ab nb lim A) (l : Int) : Es X (w.setCell ⟨ab, 1, none⟩ (.int .i64 l)) eb mb ab nb l A :=
  ⟨h.en.relim l, h.ax.keep h.en.xe ((setLim_ext w ab l).mono (Nat.le_refl _) (fun i _ q => by rw [show i = ab from q]; exact h.en.st.ar.xa)) (fun _ _ => Iff.rfl) (Le.refl _) h.en.st.ar.wf h.en.st.ar.wf⟩
theorem MD.relim (h : MD kb eb mb ab lim regs ad X w nb A) (l : Int) : MD kb eb mb ab l regs ad X (w.setCell ⟨ab, 1, none⟩ (.int .i64 l)) nb A := by
  have e := setLim_ext w ab l
  have hE := h.es.relim l
  have xa := h.mc.en.st.ar.xa
  have na : ∀ b, ¬ X b → ¬ b = ab := fun b hb q => hb (by rw [q]; exact xa)
  obtain ⟨rv, h1, h2⟩ := h.mc.reg
  refine ⟨⟨hE.en, h.mc.xk, h.mc.ka, h.mc.kn, h.mc.km, ⟨rv, (e.block kb (heap_lt h1) h.mc.ka).trans h1, ?_⟩, h.mc.val⟩, hE.ax, fun j hj => (e.cell (p := ⟨3, j, none⟩) h.lt (na _ h.xt)).trans (h.gd j hj), h.xt, (e.cell (p := ⟨1, 0, none⟩) (cell_lt h.gn) (na _ h.xn)).trans h.gn, h.xn⟩
  rcases h2 with h2 | ⟨rb, off, cap, cells, e1, xr, ⟨n1, n2, n3, n4⟩, hh, r⟩
  · exact Or.inl h2
  · exact Or.inr ⟨rb, off, cap, cells, e1, xr, ⟨n1, n2, n3, n4⟩, (e.block rb (heap_lt hh) n2).trans hh, r⟩


/-- The sentinels. -/
structure Sn (X : Nat → Prop) (w : World) (ad af an : Addr) : Prop where
  gf : w.cell? ⟨2, 0, none⟩ = some (.iface 216 (.pointer (some af)))
  gp : w.cell? ⟨1, 0, none⟩ = some (.iface 216 (.pointer (some ad)))
  gb : Gn w an
  xf : ¬ X 2
  xp : ¬ X 1
  xb : ¬ X 0
  hf : ∃ c t, w.heap[af.block]? = some (.cells c t (0, 0))
  hd : ∃ c t, w.heap[ad.block]? = some (.cells c t (0, 0))
  xaf : ¬ X af.block
  xad : ¬ X ad.block
  ne : ad ≠ af
theorem Sn.step (h : Sn X w ad af an) (hE : Es X w eb mb ab nb lim A) (g : GrX X w eb mb ab nb lim A X' w' nb' A') : Sn X' w' ad af an := by
  obtain ⟨c1, t1, h1⟩ := h.hf
  obtain ⟨c2, t2, h2⟩ := h.hd
  exact ⟨g.cell hE h.gf h.xf, g.cell hE h.gp h.xp, g.cell hE h.gb h.xb, fun x => h.xf ((g.sub _ (cell_lt h.gf)).1 x), fun x => h.xp ((g.sub _ (cell_lt h.gp)).1 x), fun x => h.xb ((g.sub _ (cell_lt h.gb)).1 x), ⟨c1, t1, g.block hE h1 h.xaf⟩, ⟨c2, t2, g.block hE h2 h.xad⟩, fun x => h.xaf ((g.sub _ (heap_lt h1)).1 x), fun x => h.xad ((g.sub _ (heap_lt h2)).1 x), h.ne⟩
/-- Blocks of one's own turn. -/
theorem Sn.ext {T : Nat → Prop} (h : Sn X w ad af an) (e : Ext w.heap.size T w w') (hT : ∀ b, b < w.heap.size → T b → X b) (sub : ∀ b, b < w.heap.size → (X' b ↔ X b)) : Sn X' w' ad af an := by
  obtain ⟨c1, t1, h1⟩ := h.hf
  obtain ⟨c2, t2, h2⟩ := h.hd
  have l1 := cell_lt h.gf
  have l2 := cell_lt h.gp
  have l3 := cell_lt h.gb
  have l4 := heap_lt h1
  have l5 := heap_lt h2
  exact ⟨(e.cell (p := ⟨2, 0, none⟩) l1 (fun q => h.xf (hT _ l1 q))).trans h.gf, (e.cell (p := ⟨1, 0, none⟩) l2 (fun q => h.xp (hT _ l2 q))).trans h.gp, (e.cell (p := ⟨0, 0, none⟩) l3 (fun q => h.xb (hT _ l3 q))).trans h.gb, fun x => h.xf ((sub _ l1).1 x), fun x => h.xp ((sub _ l2).1 x), fun x => h.xb ((sub _ l3).1 x), ⟨c1, t1, (e.block _ l4 (fun q => h.xaf (hT _ l4 q))).trans h1⟩, ⟨c2, t2, (e.block _ l5 (fun q => h.xad (hT _ l5 q))).trans h2⟩, fun x => h.xaf ((sub _ l4).1 x), fun x => h.xad ((sub _ l5).1 x), h.ne⟩
end

theorem is_assert1 (v : Value) (w : World) : (Instr.typeAssert (.iface 216 v) 33 165 true).run Tryz.prog w = .ok (.tuple #[.nilIface, .bool false]) w := run_typeAssert_lacksB Tryz.underlying165 (by kernel_rfl) (by kernel_rfl) v 33 w
theorem is_assert2 (v : Value) (w : World) : (Instr.typeAssert (.iface 216 v) 33 168 true).run Tryz.prog w = .ok (.tuple #[.nilIface, .bool false]) w := run_typeAssert_lacksB Tryz.underlying168 (by kernel_rfl) (by kernel_rfl) v 33 w
theorem is_assert3 (v : Value) (w : World) : (Instr.typeAssert (.iface 216 v) 33 170 true).run Tryz.prog w = .ok (.tuple #[.nilIface, .bool false]) w := run_typeAssert_lacksB Tryz.underlying170 (by kernel_rfl) (by kernel_rfl) v 33 w


theorem is_diff {w : World} {a b : Addr} (hab : a ≠ b) (ha : ∃ c t, w.heap[a.block]? = some (.cells c t (0, 0))) (hb : ∃ c t, w.heap[b.block]? = some (.cells c t (0, 0))) :
    Calls Tryz.prog 27 #[.iface 216 (.pointer (some a)), .iface 216 (.pointer (some b))] w fun e w' => e = .returned (.bool false) ∧ w' = w := by
  obtain ⟨i, hi, hcmp⟩ := Option.map_eq_some_iff.1 isComp
  obtain ⟨j, hj, hjs⟩ := Option.map_eq_some_iff.1 isSize
  obtain ⟨ca, ta, ha⟩ := ha
  obtain ⟨cb, tb, hb⟩ := hb
  have h8 := @run_callFunc_extern Tryz.prog 80 _ Extern.ReflectliteType.typeOf Tryz.func80 (by kernel_rfl) (by kernel_rfl) (by kernel_rfl) (by kernel_rfl)
  have h32 := @run_callFunc_extern Tryz.prog 184 _ cmpFn Tryz.func184 (by kernel_rfl) (by kernel_rfl) (by kernel_rfl) (by kernel_rfl)
  have tT := isTypeOf
  have cT := isComparable
  have mR := isMethodComparable
  have heq := run_eql_iface_ptr_other (P := Tryz.prog) w Tryz.underlying33 Tryz.underlying216 hi hcmp hj (by rw [hjs]; decide) hab ha hb
  have a1 := is_assert1
  have a2 := is_assert2
  have a3 := is_assert3
  clear ha hb
  go_enter Tryz.func27, Tryz.ntmps27
  go_wp2
  refine wp_loop_rounds 1 ?_
  rw [rounds_succ]
  go_wp2
  go_ret
  exact ⟨rfl, rfl⟩


theorem guard_nil1 (v : Value) (w : World) : (eqGuard .eql 33 (.tmp 12) (.tmp 13) .nilIface (.iface 216 v)).run Tryz.prog w = .ok () w := by kernel_rfl
theorem is_nil1 (v : Value) (w : World) : Calls Tryz.prog 27 #[.nilIface, .iface 216 v] w fun e w' => e = .returned (.bool false) ∧ w' = w := by
  have h2 := guard_nil1 v w
  have h := run_eql_iface_nil_left (P := Tryz.prog) w 216 v Tryz.underlying33
  go_enter Tryz.func27, Tryz.ntmps27
  go_wp2
  go_ret
  exact ⟨rfl, rfl⟩

def fullV : Value := .agg #[.bool false, .bool false, .bool true, .bool false, .int .i64 0]
/-- What answer makes of what the layer returned. -/
def AnR (b : Bool) (ev : Value) (ad af : Addr) (v : Value) : Prop :=
  (ev = .nilIface ∧ v = numV (if b then 1 else 0)) ∨ (ev = .iface 216 (.pointer (some af)) ∧ v = fullV) ∨ (ev = .iface 216 (.pointer (some ad)) ∧ v = refV)

set_option maxHeartbeats 1000000 in
theorem answer_walk {X : Nat → Prop} {w : World} {ad af an : Addr} (hS : Sn X w ad af an) (b : Bool) {ev : Value} (hev : ev = .nilIface ∨ ev = .iface 216 (.pointer (some af)) ∨ ev = .iface 216 (.pointer (some ad))) :
    Calls Tryz.prog 131 #[.bool b, ev] w fun e w' => ∃ (f0 f1 f2 f3 : Bool) (n : Int), e = .returned (.agg #[.bool f0, .bool f1, .bool f2, .bool f3, .int .i64 n]) ∧ AnR b ev ad af (.agg #[.bool f0, .bool f1, .bool f2, .bool f3, .int .i64 n]) ∧ Below w.heap.size w w' := by
  have g1 : ∀ o : Obj, (w.alloc o).cell? ⟨2, 0, none⟩ = some (.iface 216 (.pointer (some af))) := fun o => ((alloc_below o).cell (p := ⟨2, 0, none⟩) (cell_lt hS.gf)).trans hS.gf
  have g2 : ∀ o : Obj, (w.alloc o).cell? ⟨1, 0, none⟩ = some (.iface 216 (.pointer (some ad))) := fun o => ((alloc_below o).cell (p := ⟨1, 0, none⟩) (cell_lt hS.gp)).trans hS.gp
  have Hd : Hid (∀ o : Obj, Calls Tryz.prog 27 #[.iface 216 (.pointer (some ad)), .iface 216 (.pointer (some af))] (w.alloc o) fun e w' => e = .returned (.bool false) ∧ w' = w.alloc o) := fun o => by
    obtain ⟨c1, t1, h1⟩ := hS.hf
    obtain ⟨c2, t2, h2⟩ := hS.hd
    exact is_diff hS.ne ⟨c2, t2, ((alloc_below o).block _ (heap_lt h2)).trans h2⟩ ⟨c1, t1, ((alloc_below o).block _ (heap_lt h1)).trans h1⟩
  clear hS
  rcases hev with rfl | rfl | rfl
  · cases b
    · go_enter Tryz.func131, Tryz.ntmps131
      go_wp2_with (go_at_call 27; refine (is_nil1 _ _).mono ?_; rintro e w' ⟨rfl, hw'⟩; obtain rfl := hw'.symm)
      refine bodyPost_ret (v := numV 0) ?_ rfl ⟨_, _, _, _, _, rfl, Or.inl ⟨rfl, rfl⟩, alloc_below _⟩
      exact results_cell_row (by exact Tryz.results131) _ _ (w.heap.size) _ _ _ _ (by rfl) (heap_new _ _) Tryz.underlying95 rfl (by kernel_rfl)
    · go_enter Tryz.func131, Tryz.ntmps131
      go_wp2_with (go_at_call 27; refine (is_nil1 _ _).mono ?_; rintro e w' ⟨rfl, hw'⟩; obtain rfl := hw'.symm)
      refine bodyPost_ret (v := numV 1) ?_ rfl ⟨_, _, _, _, _, rfl, Or.inl ⟨rfl, rfl⟩, alloc_below _⟩
      exact results_cell_row (by exact Tryz.results131) _ _ (w.heap.size) _ _ _ _ (by rfl) (heap_new _ _) Tryz.underlying95 rfl (by kernel_rfl)
  · go_enter Tryz.func131, Tryz.ntmps131
    go_wp2_with (go_at_call 27; refine (is_same _ _).mono ?_; rintro e w' ⟨rfl, hw'⟩; obtain rfl := hw'.symm)
    refine bodyPost_ret (v := fullV) ?_ rfl ⟨_, _, _, _, _, rfl, Or.inr (Or.inl ⟨rfl, rfl⟩), alloc_below _⟩
    exact results_cell_row (by exact Tryz.results131) _ _ (w.heap.size) _ _ _ _ (by rfl) (heap_new _ _) Tryz.underlying95 rfl (by kernel_rfl)
  · go_enter Tryz.func131, Tryz.ntmps131
    go_wp2_with (first
      | (go_at_call_of 27 (Value.iface 216 (Value.pointer (some af))); refine (Hd.out _).mono ?_; rintro e w' ⟨rfl, hw'⟩; obtain rfl := hw'.symm)
      | (go_at_call 27; refine (is_same _ _).mono ?_; rintro e w' ⟨rfl, hw'⟩; obtain rfl := hw'.symm))
    refine bodyPost_ret (v := refV) ?_ rfl ⟨_, _, _, _, _, rfl, Or.inr (Or.inr ⟨rfl, rfl⟩), alloc_below _⟩
    exact results_cell_row (by exact Tryz.results131) _ _ (w.heap.size) _ _ _ _ (by rfl) (heap_new _ _) Tryz.underlying95 rfl (by kernel_rfl)
end Go.Proofs.Qxb6500848aGreatDoor
