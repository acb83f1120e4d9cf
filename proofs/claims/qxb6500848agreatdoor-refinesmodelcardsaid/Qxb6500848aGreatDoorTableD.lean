/-
  The end of 'table': the table goes into the map.
-/
import Derived.Test.Qxb6500848aGreatDoorTableB
namespace Go.Proofs.Qxb6500848aGreatDoor
open Go.RowKit Pl Go.Maps

theorem ownsMap_tight {H : Type} {P : Program} {k : TypeId} {R : Value → Option (DataW H × List MemPlace)} {w : World} {b n : Nat} {D : DataW H} (h : w.ownsMap P k R b n D) : w.ownsMap P k R b (Maps.size D) D := by
  obtain ⟨es, clock, hb, F, hs, rfl⟩ := h
  exact ⟨es, clock, hb, F, by rw [Maps.size_eq, length_read]; exact Nat.le_refl _, rfl⟩

theorem Mp.over {K : TypeId} {w : World} {b : Nat} {get : Lit → Value} {ks : List Lit} (h : Mp K w b get ks) {t e : TypeId} (KK : Keyed Tryz.prog K) (ht : Tryz.prog.underlying t = some (.map K e)) (hlen : ks.length < maxLen)
    {key : Value} {kl : Lit} (hkey : keyOf Tryz.prog K key = some kl) (hkl : WideAt.IsKeyLit kl) (hm : kl ∈ ks) (v : Value) :
    ∃ w' get', (Instr.mapUpdate t (.map (some b)) key v).run Tryz.prog w = .ok () w' ∧ Mp K w' b get' ks ∧ get' kl = v ∧ (∀ k ∈ ks, k ≠ kl → get' k = get k) ∧ Ext w.heap.size (fun k => k = b) w w' := by
  obtain ⟨D, h1, h2, h3, h4, h5⟩ := h
  obtain ⟨w', hrun, r1, r2⟩ := h1.store KK ht hlen hkey (val := v) (d := .held v) (ps := []) rfl
  have hex : ∃ get' : Lit → Value, get' kl = v ∧ ∀ k, k ≠ kl → get' k = get k :=
    ⟨fun k => @ite _ (k = kl) (Classical.propDecidable _) v (get k), if_pos rfl, fun k hk => if_neg hk⟩
  obtain ⟨get', g1, g2⟩ := hex
  have r1' := ownsMap_tight r1
  rw [Maps.size_put (h1.tidy KK), if_pos ((h3 kl).2 hm)] at r1'
  refine ⟨w', get', hrun, ⟨D.put kl (.held v), r1'.mono h1.size_le, h2, fun k => ?_, fun k hk z => ?_, h5⟩, g1, fun k hk => g2 k, (Ext.refl _ _ _).grown r2.grown (Nat.le_refl _) (fun k e => Or.inr (Option.some.inj e).symm)⟩
  · by_cases e : k = kl
    · subst e; simp [Maps.has_put_same h1.isMap hkl, hm]
    · rw [Maps.has_put_other e, h3 k]
  · by_cases e : k = kl
    · subst e; rw [g1, Maps.atKey_put_same h1.isMap hkl]
    · rw [g2 k e, Maps.atKey_put_other e]
      exact h4 k hk z

theorem Mp.nodup {K : TypeId} {w : World} {b : Nat} {get : Lit → Value} {ks : List Lit} (h : Mp K w b get ks) : ks.Nodup := by
  obtain ⟨D, _, h2, _⟩ := h
  exact h2

theorem TSt.put {X : Nat → Prop} {A : List Nd} {wd : Word} {wv : Value} {ab nb db : Nat} {lim : Int} {w : World} (h : TSt X A wd wv ab nb db lim w) {x : Int} (hx : Valid A x) {b : Nat} {f : Nat → Nat → Bool} (hT : Tab w b wd.length f) (hR : Rep (lang A x) wd f) (hO : Off X b wd.length) :
    ∃ w', (Instr.mapUpdate 136 (.map (some db)) (.int .i64 x) (tabV b wd.length)).run Tryz.prog w = .ok () w' ∧ TSt X A wd wv ab nb db lim w' ∧ Ext w.heap.size (fun z => z = db) w w' ∧ Tab w' b wd.length f := by
  obtain ⟨get, ks, hM, hks⟩ := h.done
  have hlen := h.ar.len
  have x1 := hx.2
  have hkey := key_int x hx.1 (by have := hx.2; omega)
  have law : Keyed Tryz.prog 28 := int_keyed Tryz.underlying28
  have hcnt : ks.length ≤ A.length := keys_le hM.nodup (fun l => match l with | .int _ y => y.toNat | _ => 0) A.length
    (fun k hk => by obtain ⟨y, _, _, rfl, hy, _⟩ := hks k hk; exact hy.2)
    (fun k hk k' hk' e => by
      obtain ⟨y, _, _, rfl, hy, _⟩ := hks k hk
      obtain ⟨y', _, _, rfl, hy', _⟩ := hks k' hk'
      have : y = y' := by have h1 := hy.1; have h2 := hy'.1; simp only at e; omega
      rw [this])
  have hmax : ks.length < maxLen := by unfold maxLen; omega
  have fin : ∀ w' get' ks', Mp 28 w' db get' ks' → Ext w.heap.size (fun z => z = db) w w' → get' (.int .i64 x) = tabV b wd.length → (∀ k ∈ ks', k = .int .i64 x ∨ (k ∈ ks ∧ get' k = get k)) → TSt X A wd wv ab nb db lim w' ∧ Tab w' b wd.length f := by
    intro w' get' ks' m' e' g1 g2
    have keepT : ∀ c g, Tab w c wd.length g → Off X c wd.length → Tab w' c wd.length g := fun c g ht ho => ht.ext e' ht.top (fun z z1 z2 e => ho z (e ▸ h.xd) ⟨z1, z2⟩)
    have hdlt := hM.lt
    refine ⟨⟨?_, ?_, h.xd, h.da, h.dn, fun z hz => Nat.lt_of_lt_of_le (h.xlt z hz) e'.size, get', ks', m', fun k hk => ?_⟩, keepT _ _ hT hO⟩
    · exact h.ar.keep e' (Nat.le_refl _) (fun z _ e => by subst e; exact ⟨h.xd, h.da, h.dn⟩)
    · exact h.word.ext e' (Nat.le_refl _) (fun z _ e => by subst e; exact h.xd)
    · rcases g2 k hk with rfl | ⟨hk, e⟩
      · exact ⟨x, b, f, rfl, hx, g1, keepT _ _ hT hO, hR, hO⟩
      · obtain ⟨y, c, g, h1, h2, h3, h4, h5, h6⟩ := hks k hk
        exact ⟨y, c, g, h1, h2, e.trans h3, keepT _ _ h4 h6, h5, h6⟩
  by_cases hin : (Lit.int .i64 x) ∈ ks
  · obtain ⟨w', get', r1, r2, r3, r4, r5⟩ := hM.over law Tryz.underlying136 hmax hkey trivial hin (tabV b wd.length)
    have := fin w' get' ks r2 r5 r3 (fun k hk => by
      by_cases e : k = .int .i64 x
      · exact Or.inl e
      · exact Or.inr ⟨hk, r4 k hk e⟩)
    exact ⟨w', r1, this.1, r5, this.2⟩
  · obtain ⟨w', get', r1, r2, r3, r4, r5⟩ := hM.store law Tryz.underlying136 hmax hkey trivial hin (tabV b wd.length)
    have := fin w' get' _ r2 r5 r3 (fun k hk => by
      rcases List.mem_cons.1 hk with e | hk
      · exact Or.inl e
      · exact Or.inr ⟨hk, r4 k hk⟩)
    exact ⟨w', r1, this.1, r5, this.2⟩

/-- Fewer blocks that may turn. -/
theorem TSt.less {X Y : Nat → Prop} {A : List Nd} {wd : Word} {wv : Value} {ab nb db : Nat} {lim : Int} {w : World} (h : TSt Y A wd wv ab nb db lim w) (hXY : ∀ b, X b → Y b) (xa : X ab) (xn : X nb) (xd : X db) : TSt X A wd wv ab nb db lim w := by
  obtain ⟨cap, S, h1, h2, h3, h5⟩ := h.ar.ex
  obtain ⟨get, ks, hM, hks⟩ := h.done
  refine ⟨⟨h.ar.wf, h.ar.len, xa, xn, h.ar.ne, ⟨fun y => h.ar.er.1 (hXY _ y), h.ar.er.2⟩, cap, S, h1, h2, h3, fun i hi hi' => ⟨(h5 i hi hi').1.more (fun b _ x => hXY b x), (h5 i hi hi').2.more (fun b _ x => hXY b x)⟩⟩, h.word.more (fun b _ x => hXY b x), xd, h.da, h.dn, fun z hz => h.xlt z (hXY z hz), get, ks, hM, fun k hk => ?_⟩
  obtain ⟨y, c, g, h1, h2, h3, h4, h5, h6⟩ := hks k hk
  exact ⟨y, c, g, h1, h2, h3, h4, h5, fun z hz => h6 z (hXY z hz)⟩

/-- A store into a map whose run is known. -/
theorem wpList_put {P : Program} (w : World) {ops : Array Oper} {rest : List Oper} {o : Oper} {a : Act} {Q : Exit → Act → World → Prop} (hg : o.guard = none) (m x v : Operand) (t : TypeId) (hop : o.op = Op.mapUpdate t m x v)
    {mv kv vv : Value} (hm : a.eval m = mv) (hx : a.eval x = kv) (hv : a.eval v = vv) {w' : World} (hrun : (Instr.mapUpdate t mv kv vv).run P w = .ok () w') (hK : wpList P ops Q rest (a.put o.dst undef) w') : wpList P ops Q (o :: rest) a w := by
  refine wpList_plain hg fun K' hK' => ?_
  unfold Oper.wp
  simp [execOp, hop, hm, hx, hv, hrun, Result.andThen]
  exact hK' _ _ hK

theorem box_cell {w : World} {b : Nat} {cs : Array Value} {t : TypeId} {fr : Nat × Nat} (h : w.heap[b]? = some (.cells cs t fr)) (i : Nat) : w.cell? ⟨b, i, none⟩ = cs[i]? := by simp [World.cell?, h]

theorem KL.cells {X X' : Nat → Prop} {A : List Nd} {wd : Word} {wv : Value} {ab nb db : Nat} {lim : Int} {w : World} {kids : List Int} {box : Obj} {k : Nat} {v : Value} {bs : List Nat} {fs : List (Nat → Nat → Bool)} {wr : World}
    (h : KL X X' A wd wv ab nb db lim w kids box k v bs fs wr) (hk : 0 < k) : ∃ g cap, v = .slice (some ⟨g, 0, none⟩) k cap ∧ g < wr.heap.size ∧ ∀ i (hi : i < bs.length), wr.cell? ⟨g, i, none⟩ = some (tabV bs[i] wd.length) := by
  obtain ⟨r1, r2⟩ := h.row
  rcases r2 with ⟨_, r2⟩ | ⟨g, cap, cur, rfl, _, e3, _, _, e5, e6⟩
  · omega
  · refine ⟨g, cap, rfl, heap_lt e3, fun i hi => ?_⟩
    have hl := h.lb
    have e : wr.cell? ⟨g, i, none⟩ = cur.toList[i]? := by simp [World.cell?, e3]
    rw [e, ← List.getElem?_take_of_lt (show i < k * 1 by omega), e6]
    simp [hi]

/-- The last steps of 'table': from the table that was made. -/
theorem KL.finish {X X' : Nat → Prop} {A : List Nd} {wd : Word} {wv : Value} {ab nb db : Nat} {lim : Int} {w : World} {kids : List Int} {box : Obj} {k : Nat} {v : Value} {bs : List Nat} {fs : List (Nat → Nat → Bool)} {wr : World}
    (h : KL X X' A wd wv ab nb db lim w kids box k v bs fs wr) (hS : TSt X A wd wv ab nb db lim w) {x : Int} (hx : Valid A x) {w4 : World} {b : Nat} {f : Nat → Nat → Bool} (hT : Tab w4 b wd.length f) (hR : Rep (lang A x) wd f) (hb : wr.heap.size ≤ b) (h4 : Below wr.heap.size wr w4) :
    ∃ w', (Instr.mapUpdate 136 (.map (some db)) (.int .i64 x) (tabV b wd.length)).run Tryz.prog w4 = .ok () w' ∧
      Tab w' b wd.length f ∧ Rep (lang A x) wd f ∧ Off X b wd.length ∧ TSt X A wd wv ab nb db lim w' ∧ Ext w.heap.size (fun z => z = db) w w' := by
  have hO : Off X' b wd.length := fun z hz hc => by have := h.st.xlt z hz; omega
  obtain ⟨w', r1, r2, r3, r4⟩ := (h.st.below h4).put hx hT hR hO
  have hsz : w.heap.size < wr.heap.size := heap_lt h.box
  refine ⟨w', r1, r4, hR, fun z hz => hO z (h.up z hz), r2.less h.up hS.ar.xa hS.ar.xn hS.xd, ?_⟩
  exact (h.ext.andThen (h4.mono (Nat.le_of_lt hsz)) (Nat.le_refl _)).trans (r3.mono (Nat.le_trans (Nat.le_of_lt hsz) h4.size) (fun _ _ e => e)) (Nat.le_refl _) (fun _ _ e => e)

theorem powers_int (n : Nat) (hn : n ≤ 1000) (s : Nat) (lo hi : Int) (h0 : 0 ≤ lo) (h1 : lo ≤ 5) (h2 : hi = -1 ∨ (0 ≤ hi ∧ hi ≤ 5)) (f : Nat → Nat → Bool) (wd : Word) (hw : wd.length = n) (L : Lang) (hR : Rep L wd f) (w : World) (hs : Tab w s n f) :
    Calls Tryz.prog 125 #[tabV s n, .int .i64 lo, .int .i64 hi] w fun e w' => ∃ b g, e = .returned (tabV b n) ∧ Tab w' b n g ∧ Below w.heap.size w w' ∧ w.heap.size ≤ b ∧ Rep (loopL L lo hi) wd g := by
  subst hw
  obtain ⟨l, rfl⟩ := Int.eq_ofNat_of_zero_le h0
  by_cases e : hi = -1
  · subst e
    refine (powers_any wd.length hn s l (by omega) (-1) _ (Or.inl ⟨rfl, rfl⟩) f w hs).mono ?_
    rintro e w' ⟨b, rfl, hT, hb, hle⟩
    refine ⟨b, _, rfl, hT, hb, hle, ?_⟩
    have := rep_powers_inf l hR
    rw [show ((l : Int) + (wd.length : Int)).toNat + 1 = l + wd.length + 1 by omega]
    exact this
  · obtain ⟨t, rfl⟩ := Int.eq_ofNat_of_zero_le (show 0 ≤ hi by omega)
    refine (powers_any wd.length hn s l (by omega) (t : Int) (t : Int) (Or.inr ⟨e, by omega, by omega, rfl⟩) f w hs).mono ?_
    rintro e w' ⟨b, rfl, hT, hb, hle⟩
    refine ⟨b, _, rfl, hT, hb, hle, ?_⟩
    have := rep_powers l t hR
    rw [show ((t : Nat) : Int).toNat + 1 = t + 1 by omega]
    exact this

theorem upd_self (f : Nat → Nat → Bool) (i j : Nat) (b : Bool) : upd f i j b i j = b := by simp [upd]
theorem upd_upd (f : Nat → Nat → Bool) (i j : Nat) (b c : Bool) (i' j' : Nat) : upd (upd f i j b) i j c i' j' = upd f i j c i' j' := by
  unfold upd
  by_cases e : i' = i ∧ j' = j <;> simp [e]

/-- Rows filled one by one, each from the diagonal on. -/
def fillS (F : Nat → Nat → Bool) (a b i j : Nat) : Bool := if i < a then decide (i ≤ j) && F i j else if i = a ∧ j < b then decide (i ≤ j) && F i j else false
theorem fillS_enter (F : Nat → Nat → Bool) (a i j : Nat) : fillS F a 0 i j = fillS F a a i j := by
  unfold fillS
  by_cases e : i < a
  · simp [e]
  · by_cases e1 : i = a ∧ j < a
    · rw [if_neg e, if_neg e, if_neg (by omega), if_pos e1]
      have : ¬ i ≤ j := by omega
      simp [this]
    · rw [if_neg e, if_neg e, if_neg (by omega), if_neg e1]
theorem fillS_row (F : Nat → Nat → Bool) (a n i j : Nat) (hj : j ≤ n) : fillS F a (n + 1) i j = fillS F (a + 1) 0 i j := by
  unfold fillS
  by_cases e : i < a
  · rw [if_pos e, if_pos (by omega)]
  · by_cases e1 : i = a
    · rw [if_neg e, if_pos ⟨e1, by omega⟩, if_pos (by omega)]
    · rw [if_neg e, if_neg (by omega), if_neg (by omega), if_neg (by omega)]
theorem fillS_col (F : Nat → Nat → Bool) (a b i j : Nat) (h : a ≤ b) : upd (fillS F a b) a b (F a b) i j = fillS F a (b + 1) i j := by
  unfold upd fillS
  by_cases e : i = a ∧ j = b
  · obtain ⟨rfl, rfl⟩ := e
    simp [h]
  · rw [if_neg e]
    by_cases e1 : i < a
    · rw [if_pos e1, if_pos e1]
    · rw [if_neg e1, if_neg e1]
      by_cases e2 : i = a ∧ j < b
      · rw [if_pos e2, if_pos (by omega)]
      · rw [if_neg e2, if_neg (by omega)]

def clsS (p : Int → Bool) (wd : Word) (a i j : Nat) : Bool := decide (i < a) && (decide (j = i + 1) && p (wd.getD i 0))
theorem clsS_step (p : Int → Bool) (wd : Word) (a : Nat) (h : a < wd.length) (i j : Nat) : upd (clsS p wd a) a (a + 1) (p wd[a]) i j = clsS p wd (a + 1) i j := by
  unfold upd clsS
  by_cases e : i = a ∧ j = a + 1
  · obtain ⟨rfl, rfl⟩ := e
    rw [if_pos ⟨rfl, rfl⟩, getD_lt h]
    simp
  · rw [if_neg e]
    by_cases e1 : i = a
    · subst e1
      have : j ≠ i + 1 := fun e2 => e ⟨rfl, e2⟩
      simp [this]
    · have : (i < a) ↔ (i < a + 1) := by omega
      simp [this]
theorem clsS_end (p : Int → Bool) (wd : Word) (i j : Nat) (hj : j ≤ wd.length) : clsS p wd wd.length i j = (decide (j = i + 1) && p (wd.getD i 0)) := by
  unfold clsS
  by_cases e : j = i + 1
  · have : i < wd.length := by omega
    simp [this]
  · simp [e]
end Go.Proofs.Qxb6500848aGreatDoor
