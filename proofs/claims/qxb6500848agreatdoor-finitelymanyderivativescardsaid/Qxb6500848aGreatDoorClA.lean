/-
  A set of one's own that is being explored.
-/
import Derived.Test.Qxb6500848aGreatDoorKnW
import Derived.Test.Qxb6500848aGreatDoorPlainH
namespace Go.Proofs.Qxb6500848aGreatDoor
open Go.RowKit Pl Go.Maps
set_option maxRecDepth 100000

structure Cl0 (S : List Nd → Int → Int → List Int → Prop) (X : Nat → Prop) (w0 : World) (eb mb ab nb : Nat) (lim : Int) (A : List Nd) (cs : List Int) (r : Int) (X' : Nat → Prop) (w1 : World) (nb' : Nat) (A' : List Nd) (m : Nat) (K T : List Int) (v : Value) (P : Int → Prop) : Prop where
  gr : GrX X w0 eb mb ab nb lim A X' w1 nb' A'
  kn : Kn w0.heap.size X' w1 m K
  qu : Qu w0.heap.size X' ab nb' mb w1 v T
  nd : K.Nodup
  kr : r ∈ K
  rc : ∀ x ∈ K, Rc S A' cs r x
  tk : ∀ x ∈ T, x ∈ K
  tl : T.length ≤ K.length
  sh : ∀ x ∈ K, x ∈ T ∨ P x ∨ Don S A' cs K x

section
variable {S : List Nd → Int → Int → List Int → Prop} {X : Nat → Prop} {w0 : World} {eb mb ab nb : Nat} {lim : Int} {A : List Nd} {cs : List Int} {r : Int} {X' : Nat → Prop} {w1 : World} {nb' : Nat} {A' : List Nd} {m : Nat} {K T : List Int} {v : Value} {P : Int → Prop}
theorem Cl0.val (h : Cl0 S X w0 eb mb ab nb lim A cs r X' w1 nb' A' m K T v P) (hS : Stp S) (hr : Valid A r) : ∀ x ∈ K, Valid A' x := fun x hx => (h.rc x hx).valid hS h.gr.en.st.ar.wf (h.gr.le.valid hr)
theorem Cl0.few (h : Cl0 S X w0 eb mb ab nb lim A cs r X' w1 nb' A' m K T v P) (hS : Stp S) (hr : Valid A r) : K.length ≤ 65536 := by
  have h1 := few_of h.nd (h.val hS hr)
  have h2 := h.gr.en.st.ar.len
  omega
theorem Cl0.grow (h : Cl0 S X w0 eb mb ab nb lim A cs r X' w1 nb' A' m K T v P) (hS : Stp S) (hr : Valid A r) (h3 : mb + 3 < w0.heap.size) {X2 : Nat → Prop} {w2 : World} {nb2 : Nat} {A2 : List Nd} (g : GrX X' w1 eb mb ab nb' lim A' X2 w2 nb2 A2) : Cl0 S X w0 eb mb ab nb lim A cs r X2 w2 nb2 A2 m K T v P :=
  ⟨h.gr.trans g, h.kn.growX h3 h.gr.es g, h.qu.growX h3 g, h.nd, h.kr, fun x hx => (h.rc x hx).le hS h.gr.en.st.ar.wf g.en.st.ar.wf g.le (h.gr.le.valid hr), h.tk, h.tl,
    fun x hx => (h.sh x hx).imp id (fun e => e.imp id (fun e => e.le hS h.gr.en.st.ar.wf g.en.st.ar.wf g.le (h.val hS hr x hx)))⟩
theorem Cl0.below (h : Cl0 S X w0 eb mb ab nb lim A cs r X' w1 nb' A' m K T v P) {w2 : World} (k : Below w1.heap.size w1 w2) : Cl0 S X w0 eb mb ab nb lim A cs r X' w2 nb' A' m K T v P :=
  ⟨h.gr.below k, h.kn.below k, h.qu.below k, h.nd, h.kr, h.rc, h.tk, h.tl, h.sh⟩
theorem Cl0.pushed (h : Cl0 S X w0 eb mb ab nb lim A cs r X' w1 nb' A' m K T v P) {w3 w5 : World} {d : Int} {v' : Value} (hk : Kn w0.heap.size X' w3 m (d :: K)) (e3 : Ext w1.heap.size (fun b => b = m) w1 w3) (ap : ApR X w0 eb mb ab nb lim A X' w3 nb' A' v' w5 (T ++ [d])) (hd : d ∉ K) (hrc : Rc S A' cs r d) :
    ∃ X5, Cl0 S X w0 eb mb ab nb lim A cs r X5 w5 nb' A' m (d :: K) (T ++ [d]) v' P ∧ (∀ b, b < w1.heap.size → (X5 b ↔ X' b)) ∧ ∀ (u : Value) (l : List Int), Ints X' w1 u l → Ints X5 w5 u l := by
  obtain ⟨X5, g5, q5, s5, x5⟩ := ap
  have hT := Turn.one e3 h.kn.ismap
  refine ⟨X5, ⟨g5, hk.keep x5 s5, q5, List.nodup_cons.2 ⟨hd, h.nd⟩, List.mem_cons_of_mem _ h.kr, fun x hx => ?_, fun x hx => ?_, by simp; exact h.tl, fun x hx => ?_⟩, fun b hb => s5 b (Nat.lt_of_lt_of_le hb e3.size), fun u l hu => (hT.seq hu).keepX x5 s5⟩
  · rcases List.mem_cons.1 hx with rfl | hx
    · exact hrc
    · exact h.rc x hx
  · rcases List.mem_append.1 hx with hx | hx
    · exact List.mem_cons_of_mem _ (h.tk x hx)
    · rw [List.mem_singleton.1 hx]; exact List.mem_cons_self ..
  · rcases List.mem_cons.1 hx with rfl | hx
    · exact Or.inl (by simp)
    · exact (h.sh x hx).imp (fun e => List.mem_append_left _ e) (fun e => e.imp id (fun e => e.more (fun d hd => List.mem_cons_of_mem _ hd)))
theorem Cl0.pop {t : Int} {g off off' cap : Nat} (h : Cl0 S X w0 eb mb ab nb lim A cs r X' w1 nb' A' m K (t :: T) (.slice (some ⟨g, off, none⟩) (t :: T).length cap) (fun _ => False)) (ho : off' = off + 1 ∨ (off' = off ∧ cap = 1)) : Cl0 S X w0 eb mb ab nb lim A cs r X' w1 nb' A' m K T (.slice (some ⟨g, off', none⟩) T.length (cap - 1)) (fun x => x = t) := by
  have tl := h.tl
  simp only [List.length_cons] at tl
  exact ⟨h.gr, h.kn, h.qu.tail ho, h.nd, h.kr, h.rc, fun x hx => h.tk x (List.mem_cons_of_mem _ hx), by omega, fun x hx => by
    rcases h.sh x hx with e | e | e
    · rcases List.mem_cons.1 e with e | e
      · exact Or.inr (Or.inl e)
      · exact Or.inl e
    · exact e.elim
    · exact Or.inr (Or.inr e)⟩
theorem Cl0.round {s : Int} (h : Cl0 S X w0 eb mb ab nb lim A cs r X' w1 nb' A' m K T v (fun x => x = s)) (hd : Don S A' cs K s) : Cl0 S X w0 eb mb ab nb lim A cs r X' w1 nb' A' m K T v (fun _ => False) :=
  ⟨h.gr, h.kn, h.qu, h.nd, h.kr, h.rc, h.tk, h.tl, fun x hx => (h.sh x hx).imp id (fun e => Or.inr (e.elim (fun e => by rw [e]; exact hd) id))⟩
theorem Cl0.shut (h : Cl0 S X w0 eb mb ab nb lim A cs r X' w1 nb' A' m K [] v (fun _ => False)) : Pl.Shut S A' cs K := fun x hx c hc => by
  rcases h.sh x hx with e | e | e
  · cases e
  · exact e.elim
  · exact e c hc
/-- The start: a new map with r, a new queue with r. -/
theorem Cl0.start (hE : Es X w0 eb mb ab nb lim A) (h3 : mb + 3 < w0.heap.size) (hr : Valid A r) (P : Int → Prop) {W : World} (hW : Below w0.heap.size w0 W) :
    ∃ w2, (Instr.mapUpdate 82 (.map (some W.heap.size)) (.int .i64 r) (.bool true)).run Tryz.prog (W.alloc (.map #[] 0)) = .ok () w2 ∧ (Below w0.heap.size w0 w2) ∧
      Cl0 S X w0 eb mb ab nb lim A cs r (fun b => X b ∨ b = w2.heap.size) (w2.alloc (.cells #[encI r] 28)) nb A W.heap.size [r] [r] (.slice (some ⟨w2.heap.size, 0, none⟩) 1 1) P := by
  have hA := hE.en.st.ar.len
  have hr0 := hr.1
  have hr1 := hr.2
  have sW := hW.size
  have hk := Kn.new (B := w0.heap.size) (X := X) W sW (fun x => by have := hE.en.st.xlt _ x; omega)
  obtain ⟨w2, hput, hk2, hx2⟩ := hk.put (x := r) hr0 (by omega) (by simp) (by simp)
  have g1 : GrX X w0 eb mb ab nb lim A X (W.alloc (.map #[] 0)) nb A := ((GrX.refl hE).below hW).below (alloc_below _)
  have g2 := g1.turnOwn hx2 hk.ismap hk.base h3
  obtain ⟨g3, q3⟩ := Qu.one g2 r
  have hb2 : Below w0.heap.size w0 w2 := (hW.alloc sW _).trans (hx2.below' (by rw [Deep.nblk_alloc]; omega) (fun k hk' e => by omega))
  refine ⟨w2, hput, hb2, ⟨g3, ?_, q3, by simp, by simp, fun x hx => ?_, fun x hx => hx, Nat.le_refl _, fun x hx => Or.inl hx⟩⟩
  · have hk3 := hk2.below (alloc_below (.cells #[encI r] 28))
    exact ⟨hk3.base, fun x => x.elim hk3.nx (fun e => by have := hk2.lt; omega), hk3.mp⟩
  · rw [List.mem_singleton.1 hx]; exact .refl
end
end Go.Proofs.Qxb6500848aGreatDoor
