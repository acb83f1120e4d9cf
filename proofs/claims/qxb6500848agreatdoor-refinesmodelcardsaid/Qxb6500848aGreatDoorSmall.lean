/-
  Size, Cut, before, regexm.New.
-/
import Derived.Test.Qxb6500848aGreatDoorDeriv2
import Derived.Test.Qxb6500848aGreatDoorPlainS
import Derived.Test.Qxb6500848aGreatDoorMintB
import Derived.Laws.AppendOwnNone
namespace Go.Proofs.Qxb6500848aGreatDoor
open Go.RowKit Pl
set_option maxRecDepth 100000

theorem take_sum {A : List Nd} {l : List Int} (k : Nat) : ((l.take k).map (sz A)).sum ≤ (l.map (sz A)).sum := by
  have : l = l.take k ++ l.drop k := (List.take_append_drop k l).symm
  conv => rhs; rw [this]
  rw [List.map_append, List.sum_append]
  omega

set_option maxHeartbeats 1000000 in
theorem size_walk {X : Nat → Prop} {w : World} {ab nb : Nat} {lim : Int} {A : List Nd} (hS : St X w ab nb lim A) : ∀ (m : Nat) (x : Int), x.toNat = m → Valid A x → sz A x ≤ 1000 →
    Calls Tryz.prog 112 #[.pointer (some ⟨ab, 0, none⟩), .int .i64 x] w fun e w' => e = .returned (.int .i64 (sz A x : Nat)) ∧ w' = w := by
  intro m
  induction m using Nat.strongRecOn with
  | ind m ih =>
  intro x hm hx hsz
  subst hm
  obtain ⟨cap, n0, _, n1⟩ := hS.ar.node
  obtain ⟨sv, kv, c0, c1, c2, c3, c4, hk, hs⟩ := n1 x hx
  have Hun := hideIt (sz_unfold hS.ar.wf hx)
  have Hsk : Hid (∀ k ∈ (nodeAt A x).kids, sz A k ≤ 1000) := fun k hk => by have := sz_kid hS.ar.wf hx hk; omega
  obtain ⟨N, hN⟩ : ∃ N, N = sz A x := ⟨_, rfl⟩
  have HN := hideIt hN
  rw [← hN] at hsz ⊢
  clear hN
  have x0 := hx.1
  have x1 : x < (A.length : Int) := by have := hx.2; omega
  have hfew := few64 hS.ar.wf hS.ar.len hx
  have HKV : Hid (∀ k ∈ (nodeAt A x).kids, Valid A k ∧ k.toNat < x.toNat) := fun k hk => hS.ar.wf.kidValid hx hk
  have HIH := hideIt ih
  obtain ⟨ka, kc, rfl, k1, k2, k3⟩ := hk
  have K3 := hideIt k3
  have hlen := hS.ar.len
  have Hsum : Hid (∀ k, k ≤ (nodeAt A x).kids.length → 1 + (((nodeAt A x).kids.take k).map (sz A)).sum ≤ N) := fun k _ => by rw [HN.out, Hun.out]; exact Nat.add_le_add_left (take_sum k) 1
  have hend : 1 + (((nodeAt A x).kids.take (nodeAt A x).kids.length).map (sz A)).sum = N := by rw [List.take_length, HN.out, Hun.out]
  have Hend := hideIt hend
  clear hend
  clear hS hx n1 hs k3 ih c0 c1 c3 c4 Hun HN
  generalize nodeAt A x = nd at *
  go_enter Tryz.func112, Tryz.ntmps112
  go_wp2
  go_loopw [5, 17] (fun v i wr => ∃ (k n : Nat), k ≤ nd.kids.length ∧ i = .int .i64 k ∧ v = .int .i64 n ∧ Hid (n = 1 + ((nd.kids.take k).map (sz A)).sum) ∧ wr = w) (fun _ i _ => nd.kids.length - (intOf i).toNat)
  case atStart => exact ⟨0, 1, by omega, rfl, rfl, by show 1 = _; simp, rfl⟩
  case round =>
    obtain ⟨k, n, hk, rfl, rfl, hn, rfl⟩ := hrel
    have hn0 : n ≤ 1000 := by have h1 := hn.out; have h2 := Hsum.out k hk; omega
    by_cases hlt : k < nd.kids.length
    · have hlt' : (k : Int) < (nd.kids.length : Int) := by omega
      have Hsy := hideIt (Hsk.out _ (List.getElem_mem hlt))
      have hnx : n + sz A nd.kids[k] = 1 + ((nd.kids.take (k + 1)).map (sz A)).sum := by
        have h1 := hn.out
        rw [List.take_succ_eq_append_getElem hlt, List.map_append, List.sum_append, List.map_cons, List.map_nil, List.sum_cons, List.sum_nil]
        omega
      have Hnx := hideIt hnx
      clear hnx
      have hn1 : n + sz A nd.kids[k] ≤ 1000 := by have h1 := Hnx.out; have h2 := Hsum.out (k + 1) (by omega); omega
      obtain ⟨g, o, rfl, _, hc⟩ := K3.out (fun e => by rw [e] at hlt; cases hlt)
      have ck := hc k hlt
      have hv := HKV.out _ (List.getElem_mem hlt)
      have Hv := hideIt hv
      generalize nd.kids[k] = y at *
      generalize hsy : sz A y = p at *
      clear hc hv hn
      go_wp2_with (go_at_call 112; refine (HIH.out _ Hv.out.2 y rfl Hv.out.1 (by rw [hsy]; exact Hsy.out)).mono ?_; rintro e w1 ⟨rfl, hw1⟩; obtain rfl := hw1.symm; rw [hsy])
      go_roundw
      case rel => exact ⟨k + 1, n + p, by omega, by go_num, by go_num, Hnx.out, trivial⟩
      case measure => simp [intOf]; omega
    · obtain rfl : k = nd.kids.length := by omega
      obtain rfl : n = N := by have h1 := hn.out; have h2 := Hend.out; omega
      clear hn
      go_wp2
      go_ret
      exact ⟨rfl, rfl⟩

/-- A nil slice has no capacity. -/
def Nz (v : Value) : Prop := ∀ n c, v = .slice none n c → n = 0 ∧ c = 0

/-- A word behind a slice, of at most L characters. -/
def Wrd (X : Nat → Prop) (w : World) (v : Value) (L : Nat) : Prop := ∃ wd : Word, wd.length ≤ L ∧ Ints X w v wd ∧ Nz v

set_option maxHeartbeats 1000000 in
theorem cut_walk {X : Nat → Prop} {w : World} {v : Value} {wd : Word} (h : Ints X w v wd) (hz : Nz v) (hl : wd.length ≤ 65536) :
    Calls Tryz.prog 15 #[v] w fun e w' => ∃ u, e = .returned u ∧ Ints X w u (wd.take 5) ∧ Nz u ∧ w' = w := by
  obtain ⟨ad, cap, rfl, h1, h2, h3⟩ := h
  by_cases h5 : 5 < wd.length
  · obtain ⟨g, o, rfl, hx, hc⟩ := h3 (fun e => by rw [e] at h5; cases h5)
    have HC := hideIt hc
    have Hx := hideIt hx
    have h5' : (5 : Int) < (wd.length : Int) := by omega
    have hcap : (5 : Int) ≤ (cap : Int) := by omega
    clear h3 hc hx hz
    go_enter Tryz.func15, Tryz.ntmps15
    go_wp2
    go_ret
    have hlen : (wd.take 5).length = 5 := by simp; omega
    refine ⟨_, rfl, ⟨some ⟨g, o, none⟩, cap, by rw [hlen]; rfl, by omega, h2, fun _ => ⟨g, o, rfl, Hx.out, fun j hj => ?_⟩⟩, (by intro n c e; cases e), rfl⟩
    rw [List.getElem_take]
    exact HC.out j (by omega)
  · have h5' : ¬ (5 : Int) < (wd.length : Int) := by omega
    have HI : Hid (Ints X w (.slice ad wd.length cap) (wd.take 5)) := by
      rw [List.take_of_length_le (by omega)]
      exact ⟨ad, cap, rfl, h1, h2, h3⟩
    have HZ := hideIt hz
    clear h3 hz
    go_enter Tryz.func15, Tryz.ntmps15
    go_wp2
    go_ret
    exact ⟨_, rfl, HI.out, HZ.out, rfl⟩

theorem own_intsT {w : World} {base : Nat} {t : TypeId} {v : Value} {l : List Int} (h : w.ownsRow base t 1 v l.length (l.map encI)) : Ints (fun b => b < base) w v l ∧ Nz v := by
  obtain ⟨h1, h2⟩ := h
  rcases h2 with ⟨rfl, h0⟩ | ⟨g, cap, cur, rfl, hb, hh, r1, r2, r3, r4⟩
  · have : l = [] := List.length_eq_zero_iff.1 h0
    subst this
    exact ⟨Seq.nil _ w, by intro n c e; cases e; exact ⟨rfl, rfl⟩⟩
  · refine ⟨⟨_, cap, rfl, r1, r2, fun _ => ⟨g, 0, rfl, by omega, fun j hj => ?_⟩⟩, by intro n c e; cases e⟩
    have e : (cur.toList.take (l.length * 1))[j]? = (l.map encI)[j]? := by rw [r4]
    rw [List.getElem?_take_of_lt (by omega)] at e
    simp only [World.cell?, hh]
    simp [hj] at e
    simpa using e

theorem info_int : (Tryz.prog.info? 3).map (fun i => (i.zero, i.size, i.bytes)) = some (some (.int .i64 0), 1, 8) := by kernel_rfl

/-- A new row of one cell. -/
theorem row_one (w : World) (t : TypeId) (u : Value) (base : Nat) (hb : base ≤ w.heap.size) : (w.alloc (.cells #[u] t)).ownsRow base t 1 (.slice (some ⟨w.heap.size, 0, none⟩) 1 1) 1 [u] :=
  ⟨by simp, Or.inr ⟨w.heap.size, 1, _, rfl, hb, heap_new _ _, by simp, by simp [maxLen], by simp, by simp⟩⟩

/-- The cells of a word, as news. -/
theorem ints_news {w : World} {g o : Nat} {wd : Word} (hc : ∀ j (h : j < wd.length), w.cell? ⟨g, o + j, none⟩ = some (encI wd[j])) : ∀ j u, (wd.map encI)[j]? = some u → w.cell? ((⟨g, o, none⟩ : Addr).add j) = some u := fun j u hu => by
  have hj : j < wd.length := by
    by_cases h : j < wd.length
    · exact h
    · rw [List.getElem?_eq_none (by simp; omega)] at hu; cases hu
  have hadd : (⟨g, o, none⟩ : Addr).add j = ⟨g, o + j, none⟩ := by unfold Addr.add; split <;> simp_all
  rw [hadd, hc j hj, ← hu]
  simp [hj]

/-- What before hands back. -/
def BPost (c : Int) (wd : Word) (w : World) (e : Ending) (w' : World) : Prop := ∃ v, e = .returned v ∧ Ints (fun b => b < w.heap.size) w' v (c :: wd) ∧ Nz v ∧ Below w.heap.size w w'

end Go.Proofs.Qxb6500848aGreatDoor
