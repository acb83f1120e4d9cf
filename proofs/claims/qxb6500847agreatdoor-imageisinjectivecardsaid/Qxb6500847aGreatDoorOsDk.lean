/-
  Decode: the order of the entries, sorted.
-/
import Derived.Test.Qxb6500847aGreatDoorOsSs
import Derived.Test.Qxb6500847aGreatDoorOsDi
import Derived.Test.Qxb6500847aGreatDoorOsPh
namespace Go.Proofs.Qxb6500847aGreatDoor.Os
open Go.RowKit FloorA Go.Shelf Go.Lib Go.Sort
set_option maxRecDepth 100000
theorem ltF_swo (s : Av) : SWO (fun x y : Fin 320 => ltF s x.val y.val) := by
  refine ⟨fun x => ?_, fun x y z h1 h2 => ?_, fun x y z h1 h2 => ?_⟩
  · unfold ltF; simp
  · unfold ltF at *
    split at h1 <;> split at h2 <;> split <;> simp only [decide_eq_true_eq] at * <;> omega
  · unfold ltF at *
    split at h1 <;> split at h2 <;> split <;> simp only [decide_eq_false_iff_not] at * <;> omega
noncomputable def soT : TypeInfo := (Tryz.prog.info? 93).get (by kernel_rfl)
noncomputable def soE : TypeInfo := (Tryz.prog.info? 29).get (by kernel_rfl)
theorem soK (n : Nat) (h2 : 2 ≤ n) : swapperK n soE 9 = 7 := by
  have a : soE.hasPointers = false := by kernel_rfl
  have b : soE.bytes = 2 := by kernel_rfl
  have c : (n == 0) = false := by simp; omega
  have d : (n == 1) = false := by simp; omega
  simp [swapperK, a, b, c, d]
theorem soX : ∀ args W, (callFunc 313 args).run Tryz.prog W = ((Extern.ReflectliteSwapper.swap true args).run Tryz.prog W).andThen fun v w' => .ok (.value v) w' :=
  fun args W => run_callFunc_extern Tryz.func313 (by kernel_rfl) (by kernel_rfl) (by kernel_rfl) (e := Extern.ReflectliteSwapper.swap true) (by kernel_rfl) args W
section
variable {A : Nat} {s : Av} {w : World}
def SoPost (s : Av) (v : Value) (l : List Nat) (w : World) (e : Ending) (w' : World) : Prop :=
  e = .returned (.tuple #[]) ∧ Os.Ext w.heap.size (fun b => v.ownBlock = some b) w w' ∧ ∃ l' : List Nat, l'.Perm l ∧ l'.Pairwise (fun x y => ltF s y x = false) ∧ ∀ g n cap, v = .slice (some ⟨g, 0, none⟩) n cap → ∀ j (h : j < l'.length), w'.cell? ⟨g, j, none⟩ = some (.int .u16 ((l'[j] : Nat) : Int))
def encF (x : Fin 320) : Value := .int .u16 (x.val : Int)
set_option maxHeartbeats 4000000 in
theorem sort_many {Ba Bo G cap : Nat} {l : List Nat} (hA : Am w A s) (ha : w.cell? ⟨Ba, 0, none⟩ = some (.pointer (some ⟨A, 0, none⟩))) (ho : w.cell? ⟨Bo, 0, none⟩ = some (.slice (some ⟨G, 0, none⟩) l.length cap)) (hc : ∀ j (h : j < l.length), w.cell? ⟨G, j, none⟩ = some (.int .u16 ((l[j] : Nat) : Int)) ∧ w.frozen? ⟨G, j, none⟩ = false) (hl : ∀ x ∈ l, x < 320) (hn : l.length ≤ 320) (h2 : 2 ≤ l.length) (nA : G ≠ A) (nBa : G ≠ Ba) (nBo : G ≠ Bo) :
    Calls Tryz.prog 230 #[.iface 93 (.slice (some ⟨G, 0, none⟩) l.length cap), .func (.func 231) #[] #[.pointer (some ⟨Ba, 0, none⟩), .pointer (some ⟨Bo, 0, none⟩)]] w (SoPost s (.slice (some ⟨G, 0, none⟩) l.length cap) l w) := by
  obtain ⟨d, hd, hdl⟩ : ∃ d : Array (Fin 320), d.size = l.length ∧ ∀ j (h : j < l.length), (d[j]!).val = l[j] := by
    refine ⟨(l.map (fun x => (if h : x < 320 then (⟨x, h⟩ : Fin 320) else 0))).toArray, by simp, fun j h => ?_⟩
    have hx := hl (l[j]) (List.getElem_mem h)
    simp [h, hx]
  have hG : G < w.heap.size := cell_lt (hc 0 (by omega)).1
  have hH : Holds encF w G 0 d := fun j hj => by
    have := hc j (by omega)
    rw [Nat.zero_add]
    refine ⟨?_, this.2⟩
    rw [this.1]
    unfold encF
    rw [hdl j (by omega)]
  have hless : LessReads Tryz.prog 231 #[.pointer (some ⟨Ba, 0, none⟩), .pointer (some ⟨Bo, 0, none⟩)] encF (fun x y : Fin 320 => ltF s x.val y.val) G 0 d.size w := by
    intro m os dk hs i j hi hj
    have e : sortWorld encF w G 0 m dk os = putRow encF (grow (Sort.ahead w m) os) G 0 dk := by
      unfold sortWorld; rw [putRow_grow _ (Sort.ahead w m) _ G 0 _ hG]
    have hHg : Holds encF (grow (Sort.ahead w m) os) G 0 d := holds_grow _ _ _ G 0 d hG (holds_ahead _ _ _ _ _ _ hH)
    have hcell : ∀ p : Addr, p.block ≠ G → p.block < w.heap.size → (sortWorld encF w G 0 m dk os).cell? p = w.cell? p := fun p h1 h3 => by
      rw [e, cell?_putRow_other _ _ G 0 dk _ (Or.inl h1), cell?_grow _ _ _ (show p.block < (Sort.ahead w m).heap.size from h3)]
      rfl
    have hAk : Am (sortWorld encF w G 0 m dk os) A s := ⟨fun o h => (hcell ⟨A, o, none⟩ (fun q => nA q.symm) hA.lt).trans (hA.cell o h), fun o => ?_⟩
    · refine (less_walk hAk ((hcell ⟨Ba, 0, none⟩ (fun q => nBa q.symm) (cell_lt ha)).trans ha) ((hcell ⟨Bo, 0, none⟩ (fun q => nBo q.symm) (cell_lt ho)).trans ho) (i := i) (j := j) (x := (dk[i]!).val) (y := (dk[j]!).val) ?_ ?_ (dk[i]!).isLt (dk[j]!).isLt (by omega) (by omega)).mono (fun e w' q => q)
      · have := cell?_putRow encF (grow (Sort.ahead w m) os) G 0 d dk hHg hs i (by omega)
        rw [Nat.zero_add] at this
        rw [e]
        exact this
      · have := cell?_putRow encF (grow (Sort.ahead w m) os) G 0 d dk hHg hs j (by omega)
        rw [Nat.zero_add] at this
        rw [e]
        exact this
    · rw [e, frozen?_putRow, frozen?_grow _ _ _ (show A < (Sort.ahead w m).heap.size from hA.lt)]
      exact hA.free o
  have hS := Any.sort_Slice_sorted Tryz.sl6 93 29 soT soE (by kernel_rfl) (by kernel_rfl) (by kernel_rfl) (by kernel_rfl) 9 (fun _ => by kernel_rfl) (by kernel_rfl) (fun _ => by kernel_rfl) encF (fun _ => rfl) (fun x y : Fin 320 => ltF s x.val y.val) (ltF_swo s) 231 _
    (enters_of Tryz.func231 (by kernel_rfl) rfl) G 0 cap d (by omega) (by omega) 313 (by rw [soK _ (by omega)]; kernel_rfl) true soX w hless hH hG
  change Calls Tryz.prog 230 _ _ _ at hS
  rw [hd] at hS
  refine hS.mono ?_
  rintro e w' ⟨rfl, d', n, os, hP, hSo, rfl⟩
  obtain ⟨p1, _, p3⟩ := hP
  have hl' : (d'.toList.map (fun x => x.val)).Perm l := by
    have e1 : d'.extract 0 l.length = d' := by rw [← hd, ← p1]; simp
    have e2 : d.extract 0 l.length = d := by rw [← hd]; simp
    rw [e1, e2] at p3
    have e3 : d.toList.map (fun x => x.val) = l := by
      refine List.ext_getElem (by simp [hd]) (fun j h1 h2 => ?_)
      have := hdl j h2
      rw [getElem!_pos d j (by omega)] at this
      simp [this]
    rw [← e3]
    exact p3.map _
  refine ⟨rfl, ⟨rfl, rfl, rfl, ?_, fun k hk hne => ?_⟩, _, hl', ?_, fun g n' c' hv j h => ?_⟩
  · rw [size_grow, size_putRow]
    exact Nat.le_add_right _ _
  · have hkG : k ≠ G := fun q => hne (by rw [q]; rfl)
    rw [heap_grow_old _ _ (by rw [size_putRow]; exact hk)]
    unfold putRow mapBlock
    simp [Array.getElem?_modify, Ne.symm hkG, Sort.ahead]
  · rw [List.pairwise_map, List.pairwise_iff_getElem]
    intro i j hi hj hij
    have hj' : j < d'.size := by simpa using hj
    have := hSo i j (Nat.zero_le _) hij (by omega)
    rw [getElem!_pos d' i (by omega), getElem!_pos d' j hj'] at this
    exact this
  · injection hv with hv _ _
    injection hv with hv
    injection hv with hv _ _
    subst hv
    have hj : j < d'.size := by simpa using h
    rw [cell?_grow _ _ _ (by rw [size_putRow]; exact hG)]
    have := cell?_putRow encF (Sort.ahead w n) G 0 d d' (holds_ahead _ _ _ _ _ _ hH) p1 j (by omega)
    rw [Nat.zero_add] at this
    rw [this]
    unfold encF
    rw [getElem!_pos d' j hj]
    simp
end
end Go.Proofs.Qxb6500847aGreatDoor.Os
