/-
  Both machines at the start.
-/
import Derived.Test.Qxb6500848aGreatDoorRfJ
import Derived.Test.Qxb6500848aGreatDoorRfK
import Derived.Test.Qxb6500848aGreatDoorRunN
namespace Go.Proofs.Qxb6500848aGreatDoor
open Go.RowKit Pl Go.Maps
set_option maxRecDepth 100000

set_option maxHeartbeats 400000 in
theorem mnew_walk (w : World) : Calls Tryz.prog 60 #[] w fun e w' => e = .returned (.pointer (some ⟨w.heap.size + 2, 0, none⟩)) ∧ w' = (nw w 65536).alloc (.cells #[.pointer (some ⟨w.heap.size + 1, 0, none⟩), .slice none 0 0] 141) := by
  have s2 : (nw w 65536).heap.size = w.heap.size + 2 := by unfold nw; rw [Deep.nblk_alloc, Deep.nblk_alloc]
  go_enter Tryz.func60, Tryz.ntmps60
  go_wp2_with (go_at_call 97; refine (new_walk 65536).mono ?_; rintro e w1 ⟨rfl, rfl⟩)
  go_ret
  exact ⟨rfl, rfl⟩

/-- The blocks of both. -/
def Zs (X : Nat → Prop) (w : World) (b : Nat) : Prop := X b ∨ (w.heap.size ≤ b ∧ b < w.heap.size + 3)
section
variable {X : Nat → Prop} {w : World} {B0 kb eb mb ab nb : Nat} {A : List Nd} {regs : List Int} {ad af an : Addr}
theorem bm_start (h : MD kb eb mb ab 65536 regs ad X w nb A) (sn : Sn X w ad af an) (hX : ∀ z, X z → B0 ≤ z) (hB : B0 ≤ w.heap.size) :
    Bm B0 kb eb mb ab (w.heap.size + 2) (w.heap.size + 1) ad af an (Zs X w) ((nw w 65536).alloc (.cells #[.pointer (some ⟨w.heap.size + 1, 0, none⟩), .slice none 0 0] 141)) nb w.heap.size A A0 regs [] := by
  have s2 : (nw w 65536).heap.size = w.heap.size + 2 := by unfold nw; rw [Deep.nblk_alloc, Deep.nblk_alloc]
  have b1 : Below w.heap.size w (nw w 65536) := (alloc_below _).trans ((alloc_below _).mono (by rw [Deep.nblk_alloc]; omega))
  have hn : (nw w 65536).heap[w.heap.size]? = some nodes0 := (Deep.blk_alloc_lt _ _ _ (by rw [Deep.nblk_alloc]; omega)).trans (heap_new _ _)
  have ha : (nw w 65536).heap[w.heap.size + 1]? = some (.cells #[.slice (some ⟨w.heap.size, 0, none⟩) 3 3, .int .i64 65536] 113 (0, 0)) := new_at _ _ (Deep.nblk_alloc _ _)
  generalize nw w 65536 = w2 at *
  have b2 := alloc_below (w := w2) (.cells #[.pointer (some ⟨w.heap.size + 1, 0, none⟩), .slice none 0 0] 141)
  have s3 : (w2.alloc (.cells #[.pointer (some ⟨w.heap.size + 1, 0, none⟩), .slice none 0 0] 141)).heap.size = w.heap.size + 3 := by rw [Deep.nblk_alloc, s2]
  have hn := (b2.block _ (by omega)).trans hn
  have ha := (b2.block _ (by omega)).trans ha
  have hh : (w2.alloc (.cells #[.pointer (some ⟨w.heap.size + 1, 0, none⟩), .slice none 0 0] 141)).heap[w.heap.size + 2]? = some (.cells #[.pointer (some ⟨w.heap.size + 1, 0, none⟩), .slice none 0 0] 141 (0, 0)) := new_at _ _ s2
  have hb : Below w.heap.size w (w2.alloc (.cells #[.pointer (some ⟨w.heap.size + 1, 0, none⟩), .slice none 0 0] 141)) := b1.trans (b2.mono (by omega))
  generalize w2.alloc (.cells #[.pointer (some ⟨w.heap.size + 1, 0, none⟩), .slice none 0 0] 141) = w3 at *
  have sub : ∀ b, b < w.heap.size → (Zs X w b ↔ X b) := fun b hl => ⟨fun q => q.elim id (fun q => by omega), Or.inl⟩
  have hlt : ∀ b, Zs X w b → b < w3.heap.size := fun b q => by
    rcases q with q | q
    · have := h.mc.en.st.xlt b q; omega
    · omega
  have hE := Ext.of_below hb (fun _ => False)
  obtain ⟨xe, t, v, e⟩ := h.mc.en.st.ar.er
  have le := cell_lt e
  have st : St (Zs X w) w3 (w.heap.size + 1) w.heap.size 65536 A0 := by
    refine ⟨⟨wf0, by simp [A0], Or.inr ⟨by omega, by omega⟩, Or.inr ⟨by omega, by omega⟩, by omega, ⟨fun q => xe ((sub _ le).1 q), t, v, (hb.cell (p := ⟨2, 0, none⟩) le).trans e⟩, 3, [(.slice none 0 0, .slice none 0 0), (.slice none 0 0, .slice none 0 0), (.slice none 0 0, .slice none 0 0)], ha, rfl, ⟨by simp [rowOf, ndVals, A0], Or.inr ⟨w.heap.size, 3, _, rfl, by omega, hn, by simp [A0], by simp [maxLen], by simp, by simp [rowOf, ndVals, A0, noneNd]⟩⟩, fun i h h' => ?_⟩, hlt⟩
    have hi : i = 0 ∨ i = 1 ∨ i = 2 := by simp [A0] at h; omega
    rcases hi with rfl | rfl | rfl <;> exact ⟨Seq.nil _ _, Seq.nil _ _⟩
  refine ⟨h.keepM hE (fun _ _ q => q.elim) sub hlt, sn.ext hE (fun _ _ q => q.elim) sub, ⟨st, Or.inr ⟨by omega, by omega⟩, by omega, by omega, ⟨_, hh, Or.inl ⟨rfl, rfl⟩⟩, fun r hr => absurd hr (by simp)⟩, fun b tb m => ?_, fun b q => ?_, Nat.le_trans hB hb.size⟩
  · have lb := (Tr.at h hb tb).lt h
    rcases m with m | m | m | ⟨off, n, cap, m⟩
    · omega
    · omega
    · omega
    · rw [box_cell hh 1] at m
      simp at m
  · rcases q with q | q
    · exact hX b q
    · omega
end
theorem im0 : Im A0 A0 := by
  intro y hy
  have hy' : y = 0 ∨ y = 1 ∨ y = 2 := by
    obtain ⟨h1, h2⟩ := hy
    simp [A0] at h2
    omega
  rcases hy' with rfl | rfl | rfl
  · exact ⟨0, sim0 wf0 wf0⟩
  · exact ⟨1, sim1 wf0 wf0⟩
  · exact ⟨2, sim2 wf0 wf0⟩
theorem rs0 : Rs A0 A0 [] [] := ⟨rfl, fun i hi => absurd hi (by simp)⟩

theorem mor_form {k oa ob oc : Int} {B B' : List Nd} {regs regs' : List Int} {u p : Word} {v : Value} (h : MoR k oa ob oc B regs u p B' regs' v) : ∃ g0 g1 g2 g3 m, v = .agg #[.bool g0, .bool g1, .bool g2, .bool g3, .int .i64 m] := by
  have hz : v = zeroV → ∃ g0 g1 g2 g3 m, v = .agg #[.bool g0, .bool g1, .bool g2, .bool g3, .int .i64 m] := fun e => ⟨_, _, _, _, _, e⟩
  unfold MoR at h
  split at h
  · split at h
    · exact hz h.2.2
    · obtain ⟨f0, f2, rfl, _⟩ := h
      exact ⟨_, _, _, _, _, rfl⟩
  · split at h
    · exact hz h.2.2
    · exact ask_form (Or.inr h.2.2)
/-- Both machines and scratch blocks; pl: what is known of registers and arenas. -/
def Jw (w : World) (kb eb mb ab hb ab2 : Nat) (ad af an : Addr) (Sc : Nat → Prop) (pl : List Nd → List Nd → List Int → List Int → Prop) (wr : World) : Prop :=
  ∃ Z nb nb2 A B regs regs2, Bm w.heap.size kb eb mb ab hb ab2 ad af an Z wr nb nb2 A B regs regs2 ∧ regs.length ≤ 8 ∧ regs2.length ≤ 8 ∧ pl A B regs regs2 ∧ Below w.heap.size w wr ∧ ∀ b, Sc b → Z b ∧ ¬ Tr wr kb mb ab nb b ∧ ¬ Tm wr hb ab2 nb2 b
def pl0 (A B : List Nd) (regs regs2 : List Int) : Prop := Rs A B regs regs2 ∧ Im A B
def pl1 (k oa ob oc : Int) (u p : Word) (v : Value) (A B : List Nd) (regs regs2 : List Int) : Prop := ∃ A0 regs0, Rs A0 B regs0 regs2 ∧ Im A0 B ∧ Wf A0 ∧ Le A0 A ∧ StR k oa ob oc A0 regs0 u p A regs v
def pl2 (k : Int) (f2 : Bool) (v v' : Value) (A B : List Nd) (regs regs2 : List Int) : Prop := (f2 = true ∧ ((0 ≤ k ∧ k ≤ 14) ∨ pl0 A B regs regs2)) ∨ (f2 = false ∧ v' = v ∧ pl0 A B regs regs2)
section
variable {w wr w' : World} {kb eb mb ab hb ab2 : Nat} {ad af an : Addr} {Sc Sc' : Nat → Prop} {pl pl' : List Nd → List Nd → List Int → List Int → Prop}
theorem Jw.mono (h : Jw w kb eb mb ab hb ab2 ad af an Sc pl wr) (hs : ∀ b, Sc' b → Sc b) (hp : ∀ a b c d, pl a b c d → pl' a b c d) : Jw w kb eb mb ab hb ab2 ad af an Sc' pl' wr := by
  obtain ⟨Z, nb, nb2, A, B, regs, regs2, hM, h8, h8', hpl, hB, hsc⟩ := h
  exact ⟨Z, nb, nb2, A, B, regs, regs2, hM, h8, h8', hp _ _ _ _ hpl, hB, fun b q => hsc b (hs b q)⟩
theorem Jw.bel (h : Jw w kb eb mb ab hb ab2 ad af an Sc pl wr) : Below w.heap.size w wr := by
  obtain ⟨Z, nb, nb2, A, B, regs, regs2, hM, h8, h8', hpl, hB, hsc⟩ := h
  exact hB
theorem Tm.at {B : List Nd} {regs2 : List Int} {Z : Nat → Prop} {nb2 : Nat} (h : Mo Z wr hb ab2 nb2 B regs2) (k : Below wr.heap.size wr w') {b : Nat} (m : Tm w' hb ab2 nb2 b) : Tm wr hb ab2 nb2 b := by
  have ec : w'.cell? ⟨hb, 1, none⟩ = wr.cell? ⟨hb, 1, none⟩ := k.cell (p := ⟨hb, 1, none⟩) h.lh
  rcases m with m | m | m | ⟨off, n, cap, m⟩
  · exact Or.inl m
  · exact Or.inr (Or.inl m)
  · exact Or.inr (Or.inr (Or.inl m))
  · exact Or.inr (Or.inr (Or.inr ⟨off, n, cap, ec.symm.trans m⟩))
theorem Jw.below (h : Jw w kb eb mb ab hb ab2 ad af an Sc pl wr) (k : Below wr.heap.size wr w') : Jw w kb eb mb ab hb ab2 ad af an Sc pl w' := by
  obtain ⟨Z, nb, nb2, A, B, regs, regs2, hM, h8, h8', hpl, hB, hsc⟩ := h
  exact ⟨Z, nb, nb2, A, B, regs, regs2, hM.below k, h8, h8', hpl, hB.trans (k.mono hM.big), fun b q => ⟨(hsc b q).1, fun t => (hsc b q).2.1 (Tr.at hM.md k t), fun t => (hsc b q).2.2 (Tm.at hM.mo k t)⟩⟩
/-- A block of one's own is laid. -/
theorem Jw.alloc (h : Jw w kb eb mb ab hb ab2 ad af an Sc pl wr) (o : Obj) : Jw w kb eb mb ab hb ab2 ad af an (fun b => Sc b ∨ b = wr.heap.size) pl (wr.alloc o) := by
  obtain ⟨Z, nb, nb2, A, B, regs, regs2, hM, h8, h8', hpl, hB, hsc⟩ := h
  have k := alloc_below (w := wr) o
  have s1 : (wr.alloc o).heap.size = wr.heap.size + 1 := Deep.nblk_alloc _ _
  have hE := Ext.of_below k (fun _ => False)
  have sub : ∀ b, b < wr.heap.size → ((Z b ∨ b = wr.heap.size) ↔ Z b) := fun b hl => ⟨fun q => q.elim id (fun q => by omega), Or.inl⟩
  have hlt : ∀ b, (Z b ∨ b = wr.heap.size) → b < (wr.alloc o).heap.size := fun b q => by
    rcases q with q | q
    · have := hM.mo.st.xlt b q; omega
    · omega
  refine ⟨fun b => Z b ∨ b = wr.heap.size, nb, nb2, A, B, regs, regs2, ⟨hM.md.keepM hE (fun _ _ q => q.elim) sub hlt, hM.sn.ext hE (fun _ _ q => q.elim) sub, hM.mo.keepM hE (fun _ _ q => q.elim) sub hlt, (hM.below k).dis, fun b q => ?_, (hM.below k).big⟩, h8, h8', hpl, hB.trans (k.mono hM.big), fun b q => ?_⟩
  · rcases q with q | q
    · exact hM.lo b q
    · have := hM.big; omega
  · rcases q with q | q
    · exact ⟨Or.inl (hsc b q).1, fun t => (hsc b q).2.1 (Tr.at hM.md k t), fun t => (hsc b q).2.2 (Tm.at hM.mo k t)⟩
    · exact ⟨Or.inr q, fun t => by have := (Tr.at hM.md k t).lt hM.md; omega, fun t => by have := hM.mo.st.xlt _ ((Tm.at hM.mo k t).z hM.mo); omega⟩
/-- A block of one's own turns. -/
theorem Jw.turn (h : Jw w kb eb mb ab hb ab2 ad af an Sc pl wr) {D : Nat} (hD : Sc D) (e : Ext wr.heap.size (fun b => b = D) wr w') : Jw w kb eb mb ab hb ab2 ad af an Sc pl w' := by
  obtain ⟨Z, nb, nb2, A, B, regs, regs2, hM, h8, h8', hpl, hB, hsc⟩ := h
  obtain ⟨zD, rD, mD⟩ := hsc D hD
  have is : ∀ {b : Nat}, (fun b => b = D) b → b = D := fun q => q
  have hlt : ∀ b, Z b → b < w'.heap.size := fun b q => Nat.lt_of_lt_of_le (hM.mo.st.xlt b q) e.size
  have ek : w'.cell? ⟨kb, 2, none⟩ = wr.cell? ⟨kb, 2, none⟩ := e.cell (p := ⟨kb, 2, none⟩) hM.md.mc.lk (fun t => rD (by rw [← is t]; exact Or.inl (Or.inr (Or.inr (Or.inl rfl)))))
  have eh : w'.cell? ⟨hb, 1, none⟩ = wr.cell? ⟨hb, 1, none⟩ := e.cell (p := ⟨hb, 1, none⟩) hM.mo.lh (fun t => mD (by rw [← is t]; exact Or.inr (Or.inr (Or.inl rfl))))
  have tr : ∀ {b : Nat}, Tr w' kb mb ab nb b → Tr wr kb mb ab nb b := fun t => by
    rcases t with t | t
    · rcases t with t | t | t | t | ⟨off, n, cap, t⟩
      · exact Or.inl (Or.inl t)
      · exact Or.inl (Or.inr (Or.inl t))
      · exact Or.inl (Or.inr (Or.inr (Or.inl t)))
      · exact Or.inl (Or.inr (Or.inr (Or.inr (Or.inl t))))
      · exact Or.inl (Or.inr (Or.inr (Or.inr (Or.inr ⟨off, n, cap, ek.symm.trans t⟩))))
    · exact Or.inr t
  have tm : ∀ {b : Nat}, Tm w' hb ab2 nb2 b → Tm wr hb ab2 nb2 b := fun m => by
    rcases m with m | m | m | ⟨off, n, cap, m⟩
    · exact Or.inl m
    · exact Or.inr (Or.inl m)
    · exact Or.inr (Or.inr (Or.inl m))
    · exact Or.inr (Or.inr (Or.inr ⟨off, n, cap, eh.symm.trans m⟩))
  refine ⟨Z, nb, nb2, A, B, regs, regs2, ⟨hM.md.keepM e (fun b _ q => ⟨by rw [is q]; exact zD, fun t => rD (by rw [← is q]; exact Or.inl t)⟩) (fun _ _ => Iff.rfl) hlt, hM.sn.ext e (fun b _ q => by rw [is q]; exact zD) (fun _ _ => Iff.rfl), hM.mo.keepM e (fun b _ q => ⟨Or.inl (by rw [is q]; exact zD), fun t => mD (by rw [← is q]; exact t)⟩) (fun _ _ => Iff.rfl) hlt, fun b t m => hM.dis b (tr t) (tm m), hM.lo, Nat.le_trans hM.big e.size⟩, h8, h8', hpl, hB.trans (e.below' hM.big (fun k hk q => by have := hM.lo D zD; have := is q; omega)), fun b q => ⟨(hsc b q).1, fun t => (hsc b q).2.1 (tr t), fun t => (hsc b q).2.2 (tm t)⟩⟩

variable {kd oa ob oc o6 : Int} {wa pa : Option Addr} {wn wc pn pc : Nat} {wd pd : Word}
theorem Jw.real (h : Jw w kb eb mb ab hb ab2 ad af an Sc pl0 wr) (hw : Ints (fun _ => False) w (.slice wa wn wc) wd) (hp : Ints (fun _ => False) w (.slice pa pn pc) pd) :
    Calls Tryz.prog 61 #[.pointer (some ⟨kb, 0, none⟩), .agg (opA kd oa ob oc (.slice wa wn wc) (.slice pa pn pc) o6)] wr fun e w2 => ∃ f0 f1 f2 f3 n, e = .returned (.agg #[.bool f0, .bool f1, .bool f2, .bool f3, .int .i64 n]) ∧ Jw w kb eb mb ab hb ab2 ad af an Sc (pl1 kd oa ob oc (wd.take 5) (pd.take 5) (.agg #[.bool f0, .bool f1, .bool f2, .bool f3, .int .i64 n])) w2 ∧ ∀ b, Sc b → w2.heap[b]? = wr.heap[b]? := by
  obtain ⟨Z, nb, nb2, A, B, regs, regs2, hM, h8, h8', ⟨rs, im⟩, hB, hsc⟩ := h
  refine (rstep_walk kd oa ob oc o6 wa pa wn wc pn pc hM.md hM.sn h8 (hw.of_script hB hM.lo) (hp.of_script hB hM.lo)).mono ?_
  intro e w2 hp
  obtain ⟨Z', nb', A', regs', f0, f1, f2, f3, n, rfl, hR, hM', h8n, le, hB', keep, sub, ht, hm⟩ := hM.real hp
  have lt : ∀ b, Sc b → b < wr.heap.size := fun b q => hM.mo.st.xlt b (hsc b q).1
  exact ⟨f0, f1, f2, f3, n, rfl, ⟨Z', nb', nb2, A', B, regs', regs2, hM', h8n, h8', ⟨A, regs, rs, im, hM.md.mc.en.st.ar.wf, le, hR⟩, hB.trans hB', fun b q => ⟨(sub b (lt b q)).2 (hsc b q).1, fun t => (hsc b q).2.1 (ht b (lt b q) t), fun t => (hsc b q).2.2 (hm b t)⟩⟩, fun b q => keep b (lt b q) (hsc b q).2.1⟩
theorem Jw.model {f0 f1 f2 f3 : Bool} {n : Int} (h : Jw w kb eb mb ab hb ab2 ad af an Sc (pl1 kd oa ob oc (wd.take 5) (pd.take 5) (.agg #[.bool f0, .bool f1, .bool f2, .bool f3, .int .i64 n])) wr) (hw : Ints (fun _ => False) w (.slice wa wn wc) wd) (hwz : Nz (.slice wa wn wc)) (hwl : wd.length ≤ 65536) (hp : Ints (fun _ => False) w (.slice pa pn pc) pd) (hpz : Nz (.slice pa pn pc)) (hpl : pd.length ≤ 65536) :
    Calls Tryz.prog 62 #[.pointer (some ⟨hb, 0, none⟩), .agg (opA kd oa ob oc (.slice wa wn wc) (.slice pa pn pc) o6)] wr fun e w3 => ∃ g0 g1 g2 g3 m, e = .returned (.agg #[.bool g0, .bool g1, .bool g2, .bool g3, .int .i64 m]) ∧ Jw w kb eb mb ab hb ab2 ad af an Sc (pl2 kd f2 (.agg #[.bool f0, .bool f1, .bool f2, .bool f3, .int .i64 n]) (.agg #[.bool g0, .bool g1, .bool g2, .bool g3, .int .i64 m])) w3 ∧ ∀ b, Sc b → w3.heap[b]? = wr.heap[b]? := by
  obtain ⟨Z, nb, nb2, A, B, regs, regs2, hM, h8, h8', ⟨A0', regs0, rs, im, wf0', le, hR⟩, hB, hsc⟩ := h
  refine (mstep_walk hM.mo h8' kd oa ob oc o6 wa pa wn wc pn pc (hw.of_script hB hM.lo) hwz hwl (hp.of_script hB hM.lo) hpz hpl hM.md.gd hM.md.lt).mono ?_
  intro e w3 hp
  obtain ⟨Z', nb', B', regs', v, rfl, hm, hM', h8n, leB, hB', keep, sub, ht, hmm⟩ := hM.model hp
  have hj := joint wf0' hM.mo.st.ar.wf hM.md.mc.en.st.ar.wf hM'.mo.st.ar.wf le leB im rs (by have := hM.md.mc.en.st.ar.len; omega) hR hm
  obtain ⟨g0, g1, g2, g3, m, rfl⟩ := mor_form hm
  have lt : ∀ b, Sc b → b < wr.heap.size := fun b q => hM.mo.st.xlt b (hsc b q).1
  refine ⟨g0, g1, g2, g3, m, rfl, ⟨Z', nb, nb', A, B', regs, regs', hM', h8, h8n, ?_, hB.trans hB', fun b q => ⟨(sub b (lt b q)).2 (hsc b q).1, fun t => (hsc b q).2.1 (ht b t), fun t => (hsc b q).2.2 (hmm b (lt b q) t)⟩⟩, fun b q => keep b (lt b q) (hsc b q).2.2⟩
  rcases hj with ⟨t, q⟩ | ⟨t, q, r, s⟩
  · exact Or.inl ⟨t, q⟩
  · exact Or.inr ⟨t, by rw [t]; exact q, r, s⟩
end
end Go.Proofs.Qxb6500848aGreatDoor
