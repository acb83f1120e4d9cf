/-
  Maps that the program keeps: what they hold, key by key, as values.
-/
import Derived.Test.Qxb6500848aGreatDoorMem
import Derived.Maps.OwnSet
import Derived.Maps.Keyed
import Derived.Maps.Views
namespace Go.Proofs.Qxb6500848aGreatDoor
open Go.RowKit Go.Maps

def RV (v : Value) : Option (DataW Value × List MemPlace) := some (.held v, [])

/-- Block b is a map with just the keys ks; at key k it holds get k. -/
def Mp (K : TypeId) (w : World) (b : Nat) (get : Lit → Value) (ks : List Lit) : Prop :=
  ∃ D : DataW Value, w.ownsMap Tryz.prog K RV b ks.length D ∧ ks.Nodup ∧ (∀ k, Maps.has D k = true ↔ k ∈ ks) ∧ (∀ k ∈ ks, ∀ z, D.atKey k z = .held (get k)) ∧ ∀ k ∈ ks, WideAt.IsKeyLit k

theorem Mp.made (K : TypeId) (w : World) (get : Lit → Value) : Mp K (w.alloc (.map #[] 0)) w.heap.size get [] :=
  ⟨.map [], World.ownsMap_made _ _ _ _, by simp, fun k => by simp [Maps.has], fun k hk => absurd hk (by simp), fun k hk => absurd hk (by simp)⟩

theorem Mp.lt {K : TypeId} {w : World} {b : Nat} {get : Lit → Value} {ks : List Lit} (h : Mp K w b get ks) : b < w.heap.size := by
  obtain ⟨D, h, _⟩ := h
  exact h.lt

theorem Mp.ext {K : TypeId} {w w' : World} {b B : Nat} {X : Nat → Prop} {get : Lit → Value} {ks : List Lit} (h : Mp K w b get ks) (k : Ext B X w w') (hB : b < B) (hX : ¬ X b) : Mp K w' b get ks := by
  obtain ⟨D, ⟨es, clock, hb, r⟩, r2⟩ := h
  exact ⟨D, ⟨es, clock, by rw [k.block b hB hX]; exact hb, r⟩, r2⟩

theorem Mp.hit {K : TypeId} {w : World} {b : Nat} {get : Lit → Value} {ks : List Lit} (h : Mp K w b get ks) {t e : TypeId} (KK : Keyed Tryz.prog K) (ht : Tryz.prog.underlying t = some (.map K e)) {z : Value} (hz : (zeroValue e).run Tryz.prog w = .ok z w)
    {key : Value} {kl : Lit} (hkey : keyOf Tryz.prog K key = some kl) (hm : kl ∈ ks) : (Instr.lookup t (.map (some b)) key true).run Tryz.prog w = .ok (.tuple #[get kl, .bool true]) w := by
  obtain ⟨D, h1, h2, h3, h4, h5⟩ := h
  obtain ⟨v, ps, hrun, hv⟩ := h1.look_ok KK ht hz (zd := .held z) (zp := []) rfl hkey
  rw [(h3 kl).2 hm] at hrun
  have : DataW.held v = DataW.held (get kl) := by
    have e := (Option.some.inj hv)
    have e1 : DataW.held v = D.atKey kl (.held z) := congrArg Prod.fst e
    rw [e1, h4 kl hm]
  cases this
  exact hrun

theorem Mp.miss {K : TypeId} {w : World} {b : Nat} {get : Lit → Value} {ks : List Lit} (h : Mp K w b get ks) {t e : TypeId} (KK : Keyed Tryz.prog K) (ht : Tryz.prog.underlying t = some (.map K e)) {z : Value} (hz : (zeroValue e).run Tryz.prog w = .ok z w)
    {key : Value} {kl : Lit} (hkey : keyOf Tryz.prog K key = some kl) (hm : kl ∉ ks) : (Instr.lookup t (.map (some b)) key true).run Tryz.prog w = .ok (.tuple #[z, .bool false]) w := by
  obtain ⟨D, h1, h2, h3, h4, h5⟩ := h
  obtain ⟨v, ps, hrun, hv⟩ := h1.look_ok KK ht hz (zd := .held z) (zp := []) rfl hkey
  have hf : Maps.has D kl = false := by
    cases hh : Maps.has D kl
    · rfl
    · exact absurd ((h3 kl).1 hh) hm
  rw [hf] at hrun
  have : DataW.held v = DataW.held z := by
    have e := (Option.some.inj hv)
    have e1 : DataW.held v = D.atKey kl (.held z) := congrArg Prod.fst e
    rw [e1, Maps.atKey_of_not_has hf]
  cases this
  exact hrun

theorem Mp.store {K : TypeId} {w : World} {b : Nat} {get : Lit → Value} {ks : List Lit} (h : Mp K w b get ks) {t e : TypeId} (KK : Keyed Tryz.prog K) (ht : Tryz.prog.underlying t = some (.map K e)) (hlen : ks.length < maxLen)
    {key : Value} {kl : Lit} (hkey : keyOf Tryz.prog K key = some kl) (hkl : WideAt.IsKeyLit kl) (hm : kl ∉ ks) (v : Value) :
    ∃ w' get', (Instr.mapUpdate t (.map (some b)) key v).run Tryz.prog w = .ok () w' ∧ Mp K w' b get' (kl :: ks) ∧ get' kl = v ∧ (∀ k ∈ ks, get' k = get k) ∧ Ext w.heap.size (fun k => k = b) w w' := by
  obtain ⟨D, h1, h2, h3, h4, h5⟩ := h
  obtain ⟨w', hrun, r1, r2⟩ := h1.store KK ht hlen hkey (val := v) (d := .held v) (ps := []) rfl
  have hex : ∃ get' : Lit → Value, get' kl = v ∧ ∀ k, k ≠ kl → get' k = get k :=
    ⟨fun k => @ite _ (k = kl) (Classical.propDecidable _) v (get k), if_pos rfl, fun k hk => if_neg hk⟩
  obtain ⟨get', g1, g2⟩ := hex
  refine ⟨w', get', hrun, ⟨D.put kl (.held v), r1, List.nodup_cons.2 ⟨hm, h2⟩, fun k => ?_, fun k hk z => ?_, fun k hk => ?_⟩, g1, fun k hk => g2 k (fun e => hm (e ▸ hk)), (Ext.refl _ _ _).grown r2.grown (Nat.le_refl _) (fun k e => Or.inr (Option.some.inj e).symm)⟩
  · by_cases e : k = kl
    · subst e; simp [Maps.has_put_same h1.isMap hkl]
    · rw [Maps.has_put_other e, h3 k]; simp [e]
  · by_cases e : k = kl
    · subst e; rw [g1, Maps.atKey_put_same h1.isMap hkl]
    · rw [g2 k e, Maps.atKey_put_other e]
      exact h4 k ((List.mem_cons.1 hk).resolve_left e) z
  · rcases List.mem_cons.1 hk with rfl | hk
    · exact hkl
    · exact h5 k hk

/-! ### few keys -/
theorem keys_le {ks : List Lit} (hn : ks.Nodup) (code : Lit → Nat) (N : Nat) (hc : ∀ k ∈ ks, code k < N) (hi : ∀ k ∈ ks, ∀ k' ∈ ks, code k = code k' → k = k') : ks.length ≤ N := by
  have := Pl.nodup_le N (ks.map code) (by
    clear hc
    induction ks with
    | nil => simp
    | cons a l ih =>
      obtain ⟨ha, hn⟩ := List.nodup_cons.1 hn
      rw [List.map_cons, List.nodup_cons]
      refine ⟨fun hm => ?_, ih hn (fun k hk k' hk' => hi k (List.mem_cons_of_mem _ hk) k' (List.mem_cons_of_mem _ hk'))⟩
      obtain ⟨x, hx, e⟩ := List.mem_map.1 hm
      have := hi x (List.mem_cons_of_mem _ hx) a (by simp) e
      subst this
      exact ha hx) (by
    intro x hx
    obtain ⟨k, hk, rfl⟩ := List.mem_map.1 hx
    exact hc k hk)
  simpa using this
end Go.Proofs.Qxb6500848aGreatDoor
