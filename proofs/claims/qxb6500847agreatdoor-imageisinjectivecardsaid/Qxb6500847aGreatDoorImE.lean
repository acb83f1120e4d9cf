/-
  ImageIsInjective: maps from strings to strings.
-/
import Derived.Test.Qxb6500847aGreatDoorDfGb
import Derived.Test.Qxb6500847aGreatDoorOxRl
import Derived.Maps.OwnSet
import Derived.Maps.Keyed
import Derived.Maps.Views
import Derived.Laws.BytesArg
namespace Go.Proofs.Qxb6500847aGreatDoor.Os
open Go.RowKit Go.Maps FloorA
set_option maxRecDepth 100000
def RVs (v : Value) : Option (DataW Value × List MemPlace) := some (.held v, [])
/-- Block b is a map of at most n keys; it holds the pairs in G and no others. -/
def Ss (w : World) (b n : Nat) (G : List (ByteArray × ByteArray)) : Prop :=
  ∃ D : DataW Value, w.ownsMap Tryz.prog 9 RVs b n D ∧ (∀ s : ByteArray, Maps.has D (.string s.data.toList) = true → ∃ v, (s, v) ∈ G) ∧ ∀ s v, (s, v) ∈ G → ∀ z, D.atKey (.string s.data.toList) z = .held (.string v)
section
variable {w w' : World} {b n : Nat} {G : List (ByteArray × ByteArray)}
theorem Ss.made (w : World) : Ss (w.alloc (.map #[] 0)) w.heap.size 0 [] := ⟨.map [], World.ownsMap_made _ _ _ _, fun s h => by simp [Maps.has] at h, fun s v h => absurd h (by simp)⟩
theorem Ss.lt (h : Ss w b n G) : b < w.heap.size := by
  obtain ⟨D, h, _⟩ := h
  exact h.lt
theorem Ss.keep (h : Ss w b n G) (e : w'.heap[b]? = w.heap[b]?) : Ss w' b n G := by
  obtain ⟨D, ⟨es, clock, hb, r⟩, r2⟩ := h
  exact ⟨D, ⟨es, clock, by rw [e]; exact hb, r⟩, r2⟩
theorem Ss.ismap (h : Ss w b n G) : ∃ es clock, w.heap[b]? = some (.map es clock) := by
  obtain ⟨D, ⟨es, clock, hb, _⟩, _⟩ := h
  exact ⟨es, clock, hb⟩
theorem key9 {s : ByteArray} (hs : s.size ≤ maxLen) : keyOf Tryz.prog 9 (.string s) = some (.string s.data.toList) := by
  unfold keyOf
  rw [Tryz.underlying9]
  show mapKey Tryz.prog 9 (.string s) = _
  unfold mapKey
  rw [Tryz.underlying9]
  exact if_pos hs
theorem bytes_ext {s t : ByteArray} (h : s.data.toList = t.data.toList) : s = t := by
  cases s; cases t
  have : ∀ {a b : Array UInt8}, a.toList = b.toList → a = b := fun h => Array.toList_inj.1 h
  exact congrArg ByteArray.mk (this h)
theorem Ss.look (h : Ss w b n G) {s : ByteArray} (hs : s.size ≤ maxLen) : ∃ v ok, (Instr.lookup 72 (.map (some b)) (.string s) true).run Tryz.prog w = .ok (.tuple #[.string v, .bool ok]) w ∧ (ok = true → (s, v) ∈ G) := by
  obtain ⟨D, h1, h2, h3⟩ := h
  obtain ⟨v, ps, hrun, hv⟩ := h1.look_ok (string_keyed Tryz.underlying9) Tryz.underlying72 (z := .string ByteArray.empty) (Tryz.zeroValue9 w) (zd := .held (.string ByteArray.empty)) (zp := []) rfl (key9 hs)
  have e1 : DataW.held v = D.atKey (.string s.data.toList) (.held (.string ByteArray.empty)) := congrArg Prod.fst (Option.some.inj hv)
  cases hh : Maps.has D (.string s.data.toList)
  · rw [Maps.atKey_of_not_has hh] at e1
    cases e1
    rw [hh] at hrun
    exact ⟨_, false, hrun, fun z => by cases z⟩
  · obtain ⟨v', hv'⟩ := h2 s hh
    rw [h3 s v' hv'] at e1
    cases e1
    rw [hh] at hrun
    exact ⟨_, true, hrun, fun _ => hv'⟩
theorem Ss.store (h : Ss w b n G) (hn : n < maxLen) {s v : ByteArray} (hs : s.size ≤ maxLen) (hG : ∀ v', (s, v') ∈ G → v' = v) :
    ∃ w', (Instr.mapUpdate 72 (.map (some b)) (.string s) (.string v)).run Tryz.prog w = .ok () w' ∧ Ss w' b (n + 1) ((s, v) :: G) ∧ Ext w.heap.size (fun k => k = b) w w' := by
  obtain ⟨D, h1, h2, h3⟩ := h
  obtain ⟨w', hrun, r1, r2⟩ := h1.store (string_keyed Tryz.underlying9) Tryz.underlying72 hn (key9 hs) (val := .string v) (d := .held (.string v)) (ps := []) rfl
  have hg := r2.grown
  refine ⟨w', hrun, ⟨D.put (.string s.data.toList) (.held (.string v)), r1, fun t ht => ?_, fun t u hu z => ?_⟩, ⟨hg.os, hg.tape, hg.output, hg.size, fun k hk hx => hg.block k hk (fun e => hx (Option.some.inj e))⟩⟩
  · by_cases e : t = s
    · subst e
      exact ⟨v, by simp⟩
    · rw [Maps.has_put_other (fun q => e (bytes_ext (by injection q)))] at ht
      obtain ⟨v', hv'⟩ := h2 t ht
      exact ⟨v', by simp [hv']⟩
  · by_cases e : t = s
    · subst e
      rw [Maps.atKey_put_same h1.isMap (by trivial)]
      rcases List.mem_cons.1 hu with hu | hu
      · injection hu with _ hu
        rw [hu]
      · rw [hG u hu]
    · rw [Maps.atKey_put_other (fun q => e (bytes_ext (by injection q)))]
      rcases List.mem_cons.1 hu with hu | hu
      · injection hu with hu _
        exact absurd hu e
      · exact h3 t u hu z
end
/-- Texts of bytes: one text, one list. -/
theorem nums_inj {a b : List Int} (ha : ∀ x ∈ a, 0 ≤ x ∧ x ≤ 255) (hb : ∀ x ∈ b, 0 ≤ x ∧ x ≤ 255) (h : strOfNums a = strOfNums b) : a = b := by
  have h' : a.map (fun n => UInt8.ofNat n.toNat) = b.map (fun n => UInt8.ofNat n.toNat) := by rw [← strOfNums_data, ← strOfNums_data, h]
  clear h
  induction a generalizing b with
  | nil =>
    cases b with
    | nil => rfl
    | cons y b => simp at h'
  | cons x a ih =>
    cases b with
    | nil => simp at h'
    | cons y b =>
      simp only [List.map_cons, List.cons.injEq] at h'
      have h1 := ha x (by simp)
      have h2 := hb y (by simp)
      have e := congrArg UInt8.toNat h'.1
      have e1 : (UInt8.ofNat x.toNat).toNat = x.toNat := by simp [UInt8.toNat_ofNat']; omega
      have e2 : (UInt8.ofNat y.toNat).toNat = y.toNat := by simp [UInt8.toNat_ofNat']; omega
      rw [e1, e2] at e
      rw [ih (fun z hz => ha z (by simp [hz])) (fun z hz => hb z (by simp [hz])) h'.2]
      have : x = y := by omega
      rw [this]
end Go.Proofs.Qxb6500847aGreatDoor.Os
