/-
  info, Lookup.
-/
import Derived.Test.Qxb6500847aGreatDoorOsRa
namespace Go.Proofs.Qxb6500847aGreatDoor.Os
open Go.RowKit FloorA
set_option maxRecDepth 100000
/-- The cells of an Info. -/
def inf7 (i g t b z p q : Int) : List Value := [.int .u16 i, .int .u32 g, .int .u8 t, .int .u64 b, .int .u64 z, .int .u16 p, .int .u32 q]
theorem results_one {fn : Func} {p : Tmp} {ty : TypeId} (h : fn.results = #[.cell p ty]) {P : Program} (tmps : Array Value) (w : World) (g : Nat) (v : Value)
    (hp : tmps.getD p undef = .pointer (some ⟨g, 0, none⟩)) (hl : (loadVar ty ⟨g, 0, none⟩).run P w = .ok v w) : (results fn tmps).run P w = .ok v w := by
  have hp' : tmps[p]?.getD undef = .pointer (some ⟨g, 0, none⟩) := by simpa using hp
  simp [results, h, hp', asAddr, hl]
theorem load41 {w : World} {R : Nat} {i g t b z p q : Int} (h : w.rangeAt R 0 (inf7 i g t b z p q)) : (loadVar 41 ⟨R, 0, none⟩).run Tryz.prog w = .ok (.agg (inf7 i g t b z p q).toArray) w :=
  run_loadVar_mid w R 0 41 _ _ h Tryz.underlying41 rfl (by kernel_rfl)
section
variable {A : Nat} {rb sb : Nat → Nat} {s : Av} {tl : Nat → List Int} {ws : Nat → Nat → Nat → Int} {w : World} {L : Nat → List Nat} {n i : Nat}
/-- The reference to a parent. -/
def pI (p : Int) : Int := if p = 65535 then 0 else p
def pG (s : Av) (p : Int) : Int := if p = 65535 then 0 else (s.hd p.toNat).gen
theorem refOf_par (hA : Am w A s) (hi : (s.hd i).par = 65535 ∨ ∃ p : Nat, p < 320 ∧ (s.hd i).par = (p : Int)) :
    Calls Tryz.prog 124 #[.pointer (some ⟨A, 0, none⟩), .int .u16 (s.hd i).par] w fun e w' => e = .returned (.agg #[.int .u16 (pI (s.hd i).par), .int .u32 (pG s (s.hd i).par)]) ∧ Below w.heap.size w w' := by
  rcases hi with e | ⟨p, hp, e⟩
  · rw [e]
    exact refOf_none A w
  · rw [e]
    unfold pI pG
    rw [if_neg (by omega), if_neg (by omega), Int.toNat_natCast]
    exact refOf_walk hA hp
/-- The cells of the Info of an entry. -/
def infS (s : Av) (i : Nat) : List Value := inf7 (i : Int) (s.hd i).gen (s.hd i).typ (s.hd i).bas (s.hd i).siz (pI (s.hd i).par) (pG s (s.hd i).par)
def InPost (l : List Value) (w : World) (e : Ending) (w' : World) : Prop := e = .returned (.agg l.toArray) ∧ Below w.heap.size w w'
set_option maxHeartbeats 4000000 in
theorem info_walk (hA : Am w A s) (hi : i < 320) (hp : (s.hd i).par = 65535 ∨ ∃ p : Nat, p < 320 ∧ (s.hd i).par = (p : Int)) :
    Calls Tryz.prog 46 #[.pointer (some ⟨A, 0, none⟩), .int .u16 (i : Int)] w (InPost (infS s i) w) := by
  have i' : (i : Int) < 320 := by omega
  have bB := alloc_below (w := w) (.cells #[.int .u16 0, .int .u32 0, .int .u8 0, .int .u64 0, .int .u64 0, .int .u16 0, .int .u32 0] 41)
  have hz : (w.alloc (.cells #[.int .u16 0, .int .u32 0, .int .u8 0, .int .u64 0, .int .u64 0, .int .u16 0, .int .u32 0] 41)).heap[w.heap.size]? = some (.cells #[.int .u16 0, .int .u32 0, .int .u8 0, .int .u64 0, .int .u64 0, .int .u16 0, .int .u32 0] 41 (0, 0)) := heap_new _ _
  have HA := hideIt (hA.below bB)
  have HP : Hid ((s.hd i).par = 65535 ∨ ∃ p : Nat, p < 320 ∧ (s.hd i).par = (p : Int)) := hp
  have HB := hideIt bB
  have la := hA.lt
  have ne : A ≠ w.heap.size := Nat.ne_of_lt la
  clear hA hp bB
  go_enter Tryz.func46, Tryz.ntmps46
  go_wp2_with fail
  generalize w.alloc (.cells #[.int .u16 0, .int .u32 0, .int .u8 0, .int .u64 0, .int .u64 0, .int .u16 0, .int .u32 0] 41) = w0 at *
  have t1 := HA.out.typ hi
  have t3 := HA.out.par hi
  have t6 := HA.out.bas hi
  have t7 := HA.out.siz hi
  have KP : Hid (∀ w', Below w0.heap.size w0 w' → w'.cell? ⟨A, i * 8 + 1, none⟩ = some (.int .u8 (s.hd i).typ) ∧ w'.cell? ⟨A, i * 8 + 3, none⟩ = some (.int .u16 (s.hd i).par) ∧ w'.cell? ⟨A, i * 8 + 6, none⟩ = some (.int .u64 (s.hd i).bas) ∧ w'.cell? ⟨A, i * 8 + 7, none⟩ = some (.int .u64 (s.hd i).siz)) := fun w' k => ⟨(HA.out.below k).typ hi, (HA.out.below k).par hi, (HA.out.below k).bas hi, (HA.out.below k).siz hi⟩
  have KR : Hid (∀ w', Below w0.heap.size w0 w' → w'.cell? ⟨w.heap.size, 0, none⟩ = some (.int .u16 0) ∧ w'.cell? ⟨w.heap.size, 1, none⟩ = some (.int .u32 0) ∧ w'.cell? ⟨w.heap.size, 2, none⟩ = some (.int .u8 0) ∧ w'.cell? ⟨w.heap.size, 3, none⟩ = some (.int .u64 0) ∧ w'.cell? ⟨w.heap.size, 4, none⟩ = some (.int .u64 0) ∧ w'.cell? ⟨w.heap.size, 5, none⟩ = some (.int .u16 0) ∧ w'.cell? ⟨w.heap.size, 6, none⟩ = some (.int .u32 0) ∧ w'.frozen? ⟨w.heap.size, 0, none⟩ = false ∧ w'.frozen? ⟨w.heap.size, 1, none⟩ = false ∧ w'.frozen? ⟨w.heap.size, 2, none⟩ = false ∧ w'.frozen? ⟨w.heap.size, 3, none⟩ = false ∧ w'.frozen? ⟨w.heap.size, 4, none⟩ = false ∧ w'.frozen? ⟨w.heap.size, 5, none⟩ = false ∧ w'.frozen? ⟨w.heap.size, 6, none⟩ = false) := fun w' k => by
    have h7 := (k.block w.heap.size (heap_lt hz)).trans hz
    refine ⟨box_cell h7 0, box_cell h7 1, box_cell h7 2, box_cell h7 3, box_cell h7 4, box_cell h7 5, box_cell h7 6, ?_, ?_, ?_, ?_, ?_, ?_, ?_⟩ <;> simp [World.frozen?, h7]
  have HIc : Hid (∀ w', Below w0.heap.size w0 w' → Calls Tryz.prog 124 #[.pointer (some ⟨A, 0, none⟩), .int .u16 (i : Int)] w' (fun e w2 => e = .returned (.agg #[.int .u16 (i : Int), .int .u32 (s.hd i).gen]) ∧ Below w0.heap.size w0 w2)) := fun w' k => (refOf_walk (HA.out.below k) hi).mono (fun e w2 q => ⟨q.1, Below.thr k q.2⟩)
  have HPc : Hid (∀ w', Below w0.heap.size w0 w' → Calls Tryz.prog 124 #[.pointer (some ⟨A, 0, none⟩), .int .u16 (s.hd i).par] w' (fun e w2 => e = .returned (.agg #[.int .u16 (pI (s.hd i).par), .int .u32 (pG s (s.hd i).par)]) ∧ Below w0.heap.size w0 w2)) := fun w' k => (refOf_par (HA.out.below k) HP.out).mono (fun e w2 q => ⟨q.1, Below.thr k q.2⟩)
  have HZ := hideIt hz
  clear hz HA HP
  obtain ⟨RL, hRL⟩ : ∃ l, l = infS s i := ⟨_, rfl⟩
  have HRL := hideIt hRL
  unfold infS at hRL
  have HRR := hideIt hRL
  clear hRL
  generalize pI (s.hd i).par = p at HPc HRR
  generalize pG s (s.hd i).par = q at HPc HRR
  generalize (s.hd i).typ = ty at t1 KP HRR
  generalize (s.hd i).bas = ba at t6 KP HRR
  generalize (s.hd i).siz = si at t7 KP HRR
  generalize (s.hd i).par = pa at t3 KP HPc
  generalize (s.hd i).gen = ge at HIc HRR
  go_cut [4] (fun v wx => v = .pointer (some ⟨w.heap.size, 0, none⟩) ∧ ∃ (w2 : World), Below w0.heap.size w0 w2 ∧ wx = w2.setCells w.heap.size 0 (inf7 i ge ty ba si p q))
  case first =>
    go_region_held3 (fun w' => w'.cell? ⟨A, i * 8 + 1, none⟩ = some (.int .u8 ty) ∧ w'.cell? ⟨A, i * 8 + 3, none⟩ = some (.int .u16 pa) ∧ w'.cell? ⟨A, i * 8 + 6, none⟩ = some (.int .u64 ba) ∧ w'.cell? ⟨A, i * 8 + 7, none⟩ = some (.int .u64 si)) (first | (have hy := hbP; obtain ⟨k1, k2, k3, k4⟩ := KP.out _ hy; clear hy; refine ⟨?_, ?_, ?_, ?_⟩ <;> (repeat rw [set_other (fun e => ne (congrArg Addr.block e).symm)]) <;> first | with_reducible exact k1 | with_reducible exact k2 | with_reducible exact k3 | with_reducible exact k4 | (trace_state; fail)) | (have hy := hbI; exact KP.out _ hy) | (exact KP.out _ (below_d _)))
      ((go_at_call 124; first
        | (have hx := hbI; refine (HPc.out _ hx).mono ?_; clear hx; rintro e w2 ⟨rfl, hbP⟩; obtain ⟨b0, b1, b2, b3, b4, b5, b6, f0, f1, f2, f3, f4, f5, f6⟩ := KR.out _ hbP)
        | (refine (HIc.out _ (below_d w0)).mono ?_; rintro e w2 ⟨rfl, hbI⟩)))
    all_goals (try go_wp2_with fail)
    all_goals go_meet
    all_goals exact ⟨rfl, _, hbP, rfl⟩
  case rest =>
    obtain ⟨rfl, w2, hb2, hwx⟩ := hcut
    have h7 := (hb2.block w.heap.size (heap_lt HZ.out)).trans HZ.out
    have hra : wc.rangeAt w.heap.size 0 (inf7 i ge ty ba si p q) := by
      rw [hwx]
      refine World.rangeAt_setCells_same _ _ _ _ (fun j hj => ⟨?_, ?_⟩)
      · have hj' : j < 7 := hj
        rw [Nat.zero_add, box_cell h7, Array.getElem?_eq_getElem (by exact hj')]
        rfl
      · rw [Nat.zero_add]
        unfold World.frozen?
        rw [show w2.heap[(⟨w.heap.size, j, none⟩ : Addr).block]? = _ from h7]
        simp
    have hbx : Below w.heap.size w wc := by
      rw [hwx]
      exact Below.cells (Below.thr HB.out hb2) (Nat.le_refl _) _ _
    have HRA := hideIt hra
    have HBX := hideIt hbx
    clear hwx h7 hra hbx hb2
    go_wp2_with fail
    exact bodyPost_ret (results_one (by exact Tryz.results46) _ _ w.heap.size _ (by rfl) (load41 HRA.out)) rfl ⟨by rw [← HRL.out, HRR.out], HBX.out⟩
end
end Go.Proofs.Qxb6500847aGreatDoor.Os
