/-
  The kids' loop of 'table': what it keeps.
-/
import Derived.Test.Qxb6500848aGreatDoorTableA
namespace Go.Proofs.Qxb6500848aGreatDoor
open Go.RowKit Pl Go.Maps

theorem ownsRow_ext {w w' : World} {base : Nat} {e : TypeId} {size : Nat} {v : Value} {n : Nat} {xs : List Value} {Y : Nat → Prop} (h : w.ownsRow base e size v n xs) (k : Ext w.heap.size Y w w') (hY : ∀ g, v.ownBlock = some g → ¬ Y g) : w'.ownsRow base e size v n xs := by
  obtain ⟨h1, h2⟩ := h
  refine ⟨h1, ?_⟩
  rcases h2 with h2 | ⟨g, cap, cur, e1, e2, e3, r⟩
  · left; exact h2
  · right
    subst e1
    exact ⟨g, cap, cur, rfl, e2, by rw [k.block g (heap_lt e3) (hY g rfl)]; exact e3, r⟩

theorem ownsRow_block {w : World} {base : Nat} {e : TypeId} {size : Nat} {v : Value} {n : Nat} {xs : List Value} (h : w.ownsRow base e size v n xs) {g : Nat} (hg : v.ownBlock = some g) : base ≤ g ∧ g < w.heap.size := by
  rcases h.2 with ⟨rfl, _⟩ | ⟨g', cap, cur, rfl, e2, e3, r⟩
  · cases hg
  · cases hg
    exact ⟨e2, heap_lt e3⟩

/-- After k kids. -/
structure KL (X X' : Nat → Prop) (A : List Nd) (wd : Word) (wv : Value) (ab nb db : Nat) (lim : Int) (w : World) (kids : List Int) (box : Obj) (k : Nat) (v : Value) (bs : List Nat) (fs : List (Nat → Nat → Bool)) (wr : World) : Prop where
  lb : bs.length = k
  lf : fs.length = k
  row : wr.ownsRow w.heap.size 134 1 v k (bs.map fun b => tabV b wd.length)
  tabs : ∀ i (h : i < bs.length) (h' : i < fs.length) (h'' : i < kids.length), Tab wr bs[i] wd.length fs[i] ∧ Rep (lang A kids[i]) wd fs[i] ∧ Off X' bs[i] wd.length
  st : TSt X' A wd wv ab nb db lim wr
  up : ∀ b, X b → X' b
  down : ∀ b, b < w.heap.size → X' b → X b
  nobox : ¬ X' w.heap.size
  own : ∀ g, v.ownBlock = some g → X' g
  ext : Ext w.heap.size (fun b => b = db) w wr
  box : wr.heap[w.heap.size]? = some box

theorem KL.start {X : Nat → Prop} {A : List Nd} {wd : Word} {wv : Value} {ab nb db : Nat} {lim : Int} {w : World} (h : TSt X A wd wv ab nb db lim w) (kids : List Int) (box : Obj) :
    KL X X A wd wv ab nb db lim w kids box 0 (.slice none 0 0) [] [] (w.alloc box) :=
  ⟨rfl, rfl, ⟨rfl, Or.inl ⟨rfl, rfl⟩⟩, fun i h => absurd h (Nat.not_lt_zero i), h.below ((Below.refl _ _).alloc (Nat.le_refl _) _), fun _ h => h, fun _ _ h => h, fun hx => Nat.lt_irrefl _ (h.xlt _ hx), fun g hg => (by cases hg),
    (Ext.refl _ _ _).alloc (Nat.le_refl _) _, Array.getElem?_push_size⟩

theorem KL.step {X X' : Nat → Prop} {A : List Nd} {wd : Word} {wv : Value} {ab nb db : Nat} {lim : Int} {w : World} {kids : List Int} {box : Obj} {k : Nat} {v : Value} {bs : List Nat} {fs : List (Nat → Nat → Bool)} {wr : World}
    (h : KL X X' A wd wv ab nb db lim w kids box k v bs fs wr) (hdb : db < w.heap.size) (hab : ab < w.heap.size) (hnb : nb < w.heap.size)
    {w1 : World} {b : Nat} {f : Nat → Nat → Bool} (hk : k < kids.length) (hT : Tab w1 b wd.length f) (hR : Rep (lang A kids[k]) wd f) (hO : Off X' b wd.length) (hS : TSt X' A wd wv ab nb db lim w1) (hE : Ext wr.heap.size (fun b => b = db) wr w1)
    {v' : Value} {w2 : World} {o : Obj} (hown : w2.ownsRow w.heap.size 134 1 v' (k + 1) ((bs.map fun b => tabV b wd.length) ++ [tabV b wd.length])) (hg : (w1.alloc o).grownBy w2 v.ownBlock)
    (hloc : v'.ownBlock = v.ownBlock ∨ v'.ownBlock = some (w1.alloc o).heap.size) :
    KL X (fun z => X' z ∨ v'.ownBlock = some z) A wd wv ab nb db lim w kids box (k + 1) v' (bs ++ [b]) (fs ++ [f]) w2 := by
  have hsz : w.heap.size < wr.heap.size := heap_lt h.box
  have hs1 : wr.heap.size ≤ w1.heap.size := hE.size
  have vb : ∀ g, v.ownBlock = some g → w.heap.size ≤ g ∧ g < wr.heap.size := fun g hg => ownsRow_block h.row hg
  -- w1 to w2: only the row turned
  have e12 : Ext w1.heap.size (fun z => v.ownBlock = some z) w1 w2 :=
    ((Ext.refl _ _ w1).alloc (Nat.le_refl _) o).grown hg (by simp) (fun z e => Or.inr e)
  have st2 : TSt X' A wd wv ab nb db lim w2 := hS.keep e12 (fun z hz e => by
    have := vb z e
    exact ⟨h.own z e, by omega, by omega, by omega⟩)
  have hx2 : ∀ g, v'.ownBlock = some g → X' g ∨ w1.heap.size ≤ g := by
    intro g e
    rcases hloc with hl | hl
    · left; exact h.own g (hl ▸ e)
    · right
      rw [hl] at e
      have := Option.some.inj e
      simp at this
      omega
  have tabs1 : ∀ i (h1 : i < bs.length) (h' : i < fs.length), Tab w1 bs[i] wd.length fs[i] ∧ Off X' bs[i] wd.length := by
    intro i h1 h'
    have hl := h.lb
    obtain ⟨t1, t2, t3⟩ := h.tabs i h1 h' (by omega)
    exact ⟨t1.ext hE t1.top (fun z z1 z2 e => t3 z (e ▸ h.st.xd) ⟨z1, z2⟩), t3⟩
  have off2 : ∀ (c : Nat) (g : Nat → Nat → Bool), Tab w1 c wd.length g → Off X' c wd.length → Off (fun z => X' z ∨ v'.ownBlock = some z) c wd.length := by
    intro c g ht ho z hz hc
    have := ht.top
    rcases hz with hz | hz
    · exact ho z hz hc
    · rcases hx2 z hz with hz | hz
      · exact ho z hz hc
      · omega
  have tab2 : ∀ (c : Nat) (g : Nat → Nat → Bool), Tab w1 c wd.length g → Off X' c wd.length → Tab w2 c wd.length g :=
    fun c g ht ho => ht.ext e12 ht.top (fun z z1 z2 e => ho z (h.own z e) ⟨z1, z2⟩)
  refine ⟨by simp [h.lb], by simp [h.lf], by simpa using hown, ?_, ?_, fun z hz => Or.inl (h.up z hz), ?_, ?_, fun g e => Or.inr e, ?_, ?_⟩
  · intro i hi hi' hi''
    by_cases hlt : i < bs.length
    · have hlt' : i < fs.length := by rw [h.lf, ← h.lb]; exact hlt
      simp only [List.getElem_append_left hlt, List.getElem_append_left hlt']
      obtain ⟨t1, t2⟩ := tabs1 i hlt hlt'
      exact ⟨tab2 _ _ t1 t2, (h.tabs i hlt hlt' hi'').2.1, off2 _ _ t1 t2⟩
    · have e : i = k := by simp [h.lb] at hi; have := h.lb; omega
      subst e
      have e1 : (bs ++ [b])[i] = b := by
        rw [List.getElem_append_right (by have := h.lb; omega)]; simp
      have e2 : (fs ++ [f])[i] = f := by
        rw [List.getElem_append_right (by have := h.lf; omega)]; simp
      rw [e1, e2]
      exact ⟨tab2 _ _ hT hO, hR, off2 _ _ hT hO⟩
  · -- TSt with X' grown
    obtain ⟨get, ks, hm, hkk⟩ := hS.done
    have hnew : ∀ z, z < w1.heap.size → (X' z ∨ v'.ownBlock = some z) → X' z := fun z hz hx => hx.elim id (fun e => (hx2 z e).elim id (fun h' => by omega))
    have ar1 : Ar (fun z => X' z ∨ v'.ownBlock = some z) w1 ab nb lim A := hS.ar.more (fun z hz => Or.inl hz) hnew
    have wd1 : Ints (fun z => X' z ∨ v'.ownBlock = some z) w1 wv wd := hS.word.more hnew
    refine ⟨ar1.keep e12 (Nat.le_refl _) (fun z hz e => ?_), wd1.ext e12 (Nat.le_refl _) (fun z hz e => Or.inl (h.own z e)), Or.inl hS.xd, hS.da, hS.dn, ?_, get, ks, hm.ext e12 hm.lt (fun e => by have := vb db e; omega), fun kk hk1 => ?_⟩
    · have := vb z e
      exact ⟨Or.inl (h.own z e), by omega, by omega⟩
    · intro z hz
      rcases hz with hz | hz
      · exact st2.xlt z hz
      · exact (ownsRow_block hown hz).2
    · obtain ⟨x, c, g, h1, h2, h3, h4, h5, h6⟩ := hkk kk hk1
      exact ⟨x, c, g, h1, h2, h3, tab2 _ _ h4 h6, h5, off2 _ _ h4 h6⟩
  · intro z hz hx
    rcases hx with hx | hx
    · exact h.down z hz hx
    · have := (ownsRow_block hown hx).1; omega
  · rintro (hx | hx)
    · exact h.nobox hx
    · rcases hx2 _ hx with hx | hx
      · exact h.nobox hx
      · omega
  · exact (h.ext.trans hE (by omega) (fun _ _ e => e)).trans e12 (by omega) (fun z hz e => by have := vb z e; omega)
  · rw [e12.block w.heap.size (by omega) (fun e => h.nobox (h.own _ e)), hE.block w.heap.size hsz (fun e => by omega)]
    exact h.box
end Go.Proofs.Qxb6500848aGreatDoor
