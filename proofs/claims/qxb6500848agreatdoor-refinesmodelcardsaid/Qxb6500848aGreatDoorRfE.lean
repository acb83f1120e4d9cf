/-
  ask.
-/
import Derived.Test.Qxb6500848aGreatDoorAk15
import Derived.Test.Qxb6500848aGreatDoorAk16
import Derived.Test.Qxb6500848aGreatDoorAk17
import Derived.Test.Qxb6500848aGreatDoorAk18
import Derived.Test.Qxb6500848aGreatDoorAk19
import Derived.Test.Qxb6500848aGreatDoorAk20
import Derived.Test.Qxb6500848aGreatDoorRegN
namespace Go.Proofs.Qxb6500848aGreatDoor
open Go.RowKit Pl Go.Maps
set_option maxRecDepth 100000

abbrev opA (k oa ob oc : Int) (o4 o5 : Value) (o6 : Int) : Array Value := #[.int .i64 k, .int .i64 oa, .int .i64 ob, .int .i64 oc, o4, o5, .int .i64 o6]

section
variable {X X' : Nat → Prop} {w w' : World} {kb eb mb ab nb nb' D bo bm br bw bp : Nat} {lim : Int} {A A' : List Nd} {regs : List Int} {ad af an : Addr} {k oa ob oc o6 r : Int} {o4 o5 wv pv : Value} {u p : Word}

theorem ak_all (hk : 15 ≤ k ∧ k ≤ 20) (hlim : lim ≤ 65536) (h : AQ kb eb mb ab lim regs ad af an D bo bm br bw bp (opA k oa ob oc o4 o5 o6) r wv pv u p X w nb A) :
    Calls Tryz.prog 130 #[.pointer (some ⟨bo, 0, none⟩), .pointer (some ⟨bm, 0, none⟩), .pointer (some ⟨br, 0, none⟩), .pointer (some ⟨bw, 0, none⟩), .pointer (some ⟨bp, 0, none⟩), .pointer (some ⟨D, 0, none⟩)] w fun e w' => e = .returned (.tuple #[]) ∧ AkPost k ob kb eb mb ab lim regs ad af an D bo bm br bw bp (opA k oa ob oc o4 o5 o6) r wv pv u p X w nb A w' := by
  have : k = 15 ∨ k = 16 ∨ k = 17 ∨ k = 18 ∨ k = 19 ∨ k = 20 := by omega
  rcases this with rfl | rfl | rfl | rfl | rfl | rfl
  · exact ak15 hlim h
  · exact ak16 hlim h
  · exact ak17 hlim h
  · exact ak18 hlim h
  · exact ak19 hlim h
  · exact ak20 hlim h

theorem AQ.crm (h : AQ kb eb mb ab lim regs ad af an D bo bm br bw bp (opA k oa ob oc o4 o5 o6) r wv pv u p X w nb A) : CrA kb ab lim w := by
  obtain ⟨cap, S, h1, _⟩ := h.md.mc.en.st.ar.ex
  exact ⟨h.cells.2.2.2.2.1, ⟨_, A.length, cap, h.md.mc.en.st.ar.len, box_cell h1 0⟩, box_cell h1 1, by simp [World.frozen?, h1]⟩

/-- Before and behind the closure. -/
def PreA (kb eb mb ab : Nat) (regs : List Int) (ad af an : Addr) (D bo bm br bw bp : Nat) (opc : Array Value) (r : Int) (wv pv : Value) (u p : Word) (X : Nat → Prop) (w : World) (nb : Nat) (A : List Nd) (l : Int) (W : World) : Prop :=
  ∃ X' nb' A', AQ kb eb mb ab l regs ad af an D bo bm br bw bp opc r wv pv u p X' W nb' A' ∧ Gz mb ab nb D X w A X' W nb' A'
def PostA (k ob : Int) (kb eb mb ab : Nat) (regs : List Int) (ad af an : Addr) (D bo bm br bw bp : Nat) (opc : Array Value) (r : Int) (wv pv : Value) (u p : Word) (X : Nat → Prop) (w : World) (nb : Nat) (A : List Nd) (l : Int) (W : World) : Prop :=
  AkPost k ob kb eb mb ab l regs ad af an D bo bm br bw bp opc r wv pv u p X w nb A W

theorem cramped_ask (hk : 15 ≤ k ∧ k ≤ 20) (h : AQ kb eb mb ab 65536 regs ad af an D bo bm br bw bp (opA k oa ob oc o4 o5 o6) r wv pv u p X w nb A) (room : Int) :
    Calls Tryz.prog 53 #[.pointer (some ⟨kb, 0, none⟩), .int .i64 room, .func (.func 130) #[] #[.pointer (some ⟨bo, 0, none⟩), .pointer (some ⟨bm, 0, none⟩), .pointer (some ⟨br, 0, none⟩), .pointer (some ⟨bw, 0, none⟩), .pointer (some ⟨bp, 0, none⟩), .pointer (some ⟨D, 0, none⟩)]] w fun e w' => e = .returned (.tuple #[]) ∧ AkPost k ob kb eb mb ab 65536 regs ad af an D bo bm br bw bp (opA k oa ob oc o4 o5 o6) r wv pv u p X w nb A w' := by
  refine cramped_walk (ab := ab) (Pre := PreA kb eb mb ab regs ad af an D bo bm br bw bp (opA k oa ob oc o4 o5 o6) r wv pv u p X w nb A) (Post := PostA k ob kb eb mb ab regs ad af an D bo bm br bw bp (opA k oa ob oc o4 o5 o6) r wv pv u p X w nb A) ?_ ?_ ?_ ?_ ?_ ⟨X, nb, A, h, Gz.refl⟩ room ?_
  · rintro l W ⟨X', nb', A', q, _⟩
    exact q.crm
  · rintro l W ⟨X', nb', A', q, _⟩
    exact q.crm
  · rintro l l' W ⟨X', nb', A', q, g⟩
    exact ⟨X', nb', A', q.relim l', g.limd l'⟩
  · rintro l l' W ⟨X', nb', A', q, g, v0, v1, v2, v3, v4, hd, hv⟩
    exact ⟨X', nb', A', q.relim l', g.limd l', v0, v1, v2, v3, v4, ((setLim_ext W ab l').block D (heap_lt hd) q.sp.da).trans hd, hv⟩
  · rintro l W ⟨X', nb', A', q, g⟩
    exact ⟨X', nb', A', q.below (below_d W), g.below (below_d W)⟩
  · rintro l W hl ⟨X', nb', A', q, g⟩
    refine (ak_all hk hl q).mono ?_
    rintro e w' ⟨rfl, X2, nb2, A2, q2, g2, hr⟩
    exact ⟨rfl, X2, nb2, A2, q2, g.trans g2, hr⟩

/-- The state as ask lays it. -/
theorem AQ.start (h : MD kb eb mb ab 65536 regs ad X w nb A) (sn : Sn X w ad af an) (opc : Array Value) {z0 z1 z2 z3 z4 : Value} {W : World} (hW : Below (w.heap.size + 3) (((w.alloc (.cells #[.pointer (some ⟨kb, 0, none⟩)] 27)).alloc (.cells opc 31)).alloc (.cells #[z0, z1, z2, z3, z4] 95)) W) (hr : Valid A r)
    (xr : W.heap[br]? = some (.cells #[.int .i64 r] 28 (0, 0))) (lr : w.heap.size + 3 ≤ br) (xw : W.heap[bw]? = some (.cells #[wv] 24 (0, 0))) (lw : w.heap.size + 3 ≤ bw) (xp : W.heap[bp]? = some (.cells #[pv] 24 (0, 0))) (lp : w.heap.size + 3 ≤ bp) (hu : Ints (fun b => X b ∨ b = w.heap.size + 2) W wv u) (hp : Ints (fun b => X b ∨ b = w.heap.size + 2) W pv p) (ul : u.length ≤ 5) (pl : p.length ≤ 5) :
    AQ kb eb mb ab 65536 regs ad af an (w.heap.size + 2) (w.heap.size + 1) w.heap.size br bw bp opc r wv pv u p (fun b => X b ∨ b = w.heap.size + 2) W nb A ∧ Gz mb ab nb (w.heap.size + 2) X w A (fun b => X b ∨ b = w.heap.size + 2) W nb A := by
  have s1 : ∀ (W : World) (o : Obj), (W.alloc o).heap.size = W.heap.size + 1 := Deep.nblk_alloc
  have b1 := alloc_below (w := w) (.cells #[.pointer (some ⟨kb, 0, none⟩)] 27)
  have b2 : Below w.heap.size w ((w.alloc (.cells #[.pointer (some ⟨kb, 0, none⟩)] 27)).alloc (.cells opc 31)) := b1.trans ((alloc_below _).mono b1.size)
  have e2 : ((w.alloc (.cells #[.pointer (some ⟨kb, 0, none⟩)] 27)).alloc (.cells opc 31)).heap.size = w.heap.size + 2 := by rw [s1, s1]
  have g1 := ((GrX.refl h.es).below b2).addNew (.cells #[z0, z1, z2, z3, z4] 95)
  rw [e2] at g1
  have hh : Below (((w.alloc (.cells #[.pointer (some ⟨kb, 0, none⟩)] 27)).alloc (.cells opc 31)).alloc (.cells #[z0, z1, z2, z3, z4] 95)).heap.size (((w.alloc (.cells #[.pointer (some ⟨kb, 0, none⟩)] 27)).alloc (.cells opc 31)).alloc (.cells #[z0, z1, z2, z3, z4] 95)) W := by rw [s1, e2]; exact hW
  have g := g1.below hh
  have l1 := h.mc.en.st.xlt _ h.mc.en.st.ar.xa
  have l2 := h.mc.en.st.xlt _ h.mc.en.st.ar.xn
  have l3 := h.mc.lk
  have l4 := h.mc.en.lm
  have xl := h.mc.en.st.xlt
  have nx : ∀ b, w.heap.size ≤ b → b ≠ w.heap.size + 2 → ¬ (X b ∨ b = w.heap.size + 2) := fun b hb hne q => q.elim (fun q => by have := xl b q; omega) hne
  obtain ⟨rv, r1, r2⟩ := h.mc.reg
  have hb3 : Below w.heap.size w W := (b2.trans ((alloc_below _).mono b2.size)).trans (hW.mono (by omega))
  refine ⟨⟨h.step g, sn.step h.es g, Or.inr rfl, ⟨by omega, by omega, by omega, by omega, fun rb off n cap e => ?_⟩, ⟨z0, z1, z2, z3, z4, (hW.block _ (by omega)).trans (new_at _ _ e2)⟩, ⟨(hW.block _ (by omega)).trans (((alloc_below _).block _ (by rw [e2]; omega)).trans (new_at _ _ (s1 _ _))), nx _ (by omega) (by omega)⟩, ⟨(hW.block _ (by omega)).trans (((alloc_below _).block _ (by rw [e2]; omega)).trans (((alloc_below _).block _ (by rw [s1]; omega)).trans (heap_new _ _))), nx _ (by omega) (by omega)⟩, ⟨xr, nx _ (by omega) (by omega)⟩, ⟨xw, nx _ (by omega) (by omega)⟩, ⟨xp, nx _ (by omega) (by omega)⟩, hu, hp, ul, pl, hr⟩, Gz.of g⟩
  rw [hb3.cell (p := ⟨kb, 2, none⟩) l3, box_cell r1 2] at e
  rcases r2 with ⟨q, _⟩ | ⟨rb', off', cap', cells, q, xr', _⟩
  · rw [q] at e; simp at e
  · rw [q] at e
    simp at e
    have := xl _ xr'
    omega
end
end Go.Proofs.Qxb6500848aGreatDoor
