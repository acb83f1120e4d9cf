/-
  The script in memory; newMachine; zzSmall1.
-/
import Derived.Test.Qxb6500848aGreatDoorBuildE
import Derived.Test.Qxb6500848aGreatDoorProbB
import Derived.Test.Qxb6500848aGreatDoorEdgeW
import Derived.ChangeKeysEq
namespace Go.Proofs.Qxb6500848aGreatDoor
open Go.RowKit Pl Go.Maps
set_option maxRecDepth 100000

/-- One op. -/
structure OpV where
  k : Int
  a : Int
  b : Int
  c : Int
  d : Int
  wa : Option Addr
  wc : Nat
  wd : Word
  pa : Option Addr
  pc : Nat
  pd : Word
def OpV.wv (o : OpV) : Value := .slice o.wa o.wd.length o.wc
def OpV.pv (o : OpV) : Value := .slice o.pa o.pd.length o.pc

structure OpAt (w : World) (b off : Nat) (o : OpV) : Prop where
  c0 : w.cell? ⟨b, off, none⟩ = some (.int .i64 o.k)
  c1 : w.cell? ⟨b, off + 1, none⟩ = some (.int .i64 o.a)
  c2 : w.cell? ⟨b, off + 2, none⟩ = some (.int .i64 o.b)
  c3 : w.cell? ⟨b, off + 3, none⟩ = some (.int .i64 o.c)
  c4 : w.cell? ⟨b, off + 4, none⟩ = some (.slice o.wa o.wd.length o.wc)
  c5 : w.cell? ⟨b, off + 5, none⟩ = some (.slice o.pa o.pd.length o.pc)
  c6 : w.cell? ⟨b, off + 6, none⟩ = some (.int .i64 o.d)
  wi : Ints (fun _ => False) w o.wv o.wd
  wz : Nz o.wv
  wl : o.wd.length ≤ 1152921504606846976
  pi : Ints (fun _ => False) w o.pv o.pd
  pz : Nz o.pv
  pl : o.pd.length ≤ 1152921504606846976
  wf : ∀ x ∈ [o.a, o.b, o.c] ++ o.wd ++ o.pd, (Lit.int .i64 x).wf = true

theorem OpAt.below {w w' : World} {b off B0 : Nat} {o : OpV} (h : OpAt w b off o) (hb : Below B0 w w') (hB : w.heap.size ≤ B0) : OpAt w' b off o := by
  have kk : ∀ {p : Addr} {u : Value}, w.cell? p = some u → w'.cell? p = some u := fun {p u} e => (hb.cell (p := p) (Nat.lt_of_lt_of_le (cell_lt e) hB)).trans e
  exact ⟨kk h.c0, kk h.c1, kk h.c2, kk h.c3, kk h.c4, kk h.c5, kk h.c6, h.wi.below hb hB, h.wz, h.wl, h.pi.below hb hB, h.pz, h.pl, h.wf⟩

set_option maxHeartbeats 1000000 in
theorem newMachine_walk (w : World) : Calls Tryz.prog 59 #[.bool true] w fun e w' => e = .returned (.pointer (some ⟨(ew (nw w 65536) (w.heap.size + 1)).heap.size, 0, none⟩)) ∧ w' = (ew (nw w 65536) (w.heap.size + 1)).alloc (.cells #[.pointer (some ⟨w.heap.size + 1, 0, none⟩), .pointer (some ⟨(nw w 65536).heap.size + 4, 0, none⟩), .slice none 0 0] 39) := by
  go_enter Tryz.func59, Tryz.ntmps59
  go_wp2_with (first
    | (go_at_call 97; refine (new_walk 65536).mono ?_; rintro e w1 ⟨rfl, rfl⟩)
    | (go_at_call 52; refine (enew_walk (w.heap.size + 1)).mono ?_; rintro e w2 ⟨rfl, rfl⟩))
  go_ret
  exact ⟨rfl, rfl⟩

def SmPost (w : World) (n : Nat) (f : Nat → OpV) (e : Ending) (w' : World) : Prop := w' = w ∧ ∃ r, e = .returned (.bool r) ∧ (r = true → n ≤ 65536 ∧ ∀ i, i < n → (f i).wd.length ≤ 65536 ∧ (f i).pd.length ≤ 65536)

set_option maxHeartbeats 2000000 in
theorem small_walk (w : World) (a0 : Option Addr) (b off n cap : Nat) (f : Nat → OpV) (hn : n ≤ 1152921504606846976) (ha : 0 < n → a0 = some ⟨b, off, none⟩) (hf : ∀ i, i < n → OpAt w b (off + i * 7) (f i)) :
    Calls Tryz.prog 10 #[.slice a0 n cap] w (SmPost w n f) := by
  by_cases h6 : (65536 : Int) < (n : Int)
  · go_enter Tryz.func10, Tryz.ntmps10
    go_wp2
    go_ret
    exact ⟨rfl, false, rfl, fun h => by cases h⟩
  · have HF : Hid (∀ i, i < n → OpAt w b (off + i * 7) (f i)) := hf
    have HA : Hid (0 < n → a0 = some ⟨b, off, none⟩) := ha
    clear hf ha
    go_enter Tryz.func10, Tryz.ntmps10
    go_wp2_with fail
    go_loopw [3, 4] (fun c i wr => wr = w ∧ ∃ (k : Nat) (s : Int), k ≤ n ∧ i = .int .i64 k ∧ c = .int .i64 s ∧ 0 ≤ s ∧ s ≤ 65536 ∧ ∀ j, j < k → (f j).wd.length ≤ 65536 ∧ (f j).pd.length ≤ 65536) (fun _ i _ => n - (intOf i).toNat)
    case atStart => exact ⟨rfl, 0, n, by omega, rfl, rfl, by omega, by omega, fun j hj => by omega⟩
    case round =>
      obtain ⟨rfl, k, s, hk, rfl, rfl, s0, s6, hall⟩ := hrel
      have HL : Hid (∀ j, j < k → (f j).wd.length ≤ 65536 ∧ (f j).pd.length ≤ 65536) := hall
      clear hall
      by_cases hlt : k < n
      · have hlt' : (k : Int) < (n : Int) := by omega
        obtain rfl := HA.out (by omega)
        obtain ⟨_, _, _, _, c4, c5, _, _, _, wl, _, _, pl⟩ := HF.out k hlt
        obtain ⟨x, ex⟩ : ∃ x, x = (f k).wd.length := ⟨_, rfl⟩
        obtain ⟨y, ey⟩ : ∃ y, y = (f k).pd.length := ⟨_, rfl⟩
        rw [← ex] at c4 wl
        rw [← ey] at c5 pl
        have Hx := hideIt ex
        have Hy := hideIt ey
        clear ex ey
        by_cases g1 : (65536 : Int) < s + x
        · go_wp2
          go_ret
          exact ⟨rfl, false, rfl, fun h => by cases h⟩
        · by_cases g2 : (65536 : Int) < s + x + y
          · go_wp2
            go_ret
            exact ⟨rfl, false, rfl, fun h => by cases h⟩
          · go_wp2
            go_roundw
            case rel =>
              refine ⟨by first | rfl | trivial, k + 1, s + x + y, by omega, by go_num, rfl, by omega, by omega, fun j hj => ?_⟩
              by_cases e : j = k
              · subst e
                have h1 := Hx.out
                have h2 := Hy.out
                exact ⟨by omega, by omega⟩
              · exact HL.out j (by omega)
            case measure => simp [intOf]; omega
      · obtain rfl : k = n := by omega
        go_wp2
        go_ret
        exact ⟨rfl, true, rfl, fun _ => ⟨by omega, HL.out⟩⟩

theorem field_full (f0 f1 f2 f3 : Bool) (n : Int) (w : World) : (Instr.field 95 (.agg #[.bool f0, .bool f1, .bool f2, .bool f3, .int .i64 n]) 2).run Tryz.prog w = .ok (.bool f2) w := by
  have hp : Tryz.prog.plainKey 4 = true := by kernel_rfl
  have h := run_part_plain (P := Tryz.prog) (w := w) (e := 4) hp (xs := #[.bool f0, .bool f1, .bool f2, .bool f3, .int .i64 n]) (off := 2) (v := .bool f2) rfl
  simp [Instr.field, run_underlying Tryz.underlying95, asAgg, h]
end Go.Proofs.Qxb6500848aGreatDoor
