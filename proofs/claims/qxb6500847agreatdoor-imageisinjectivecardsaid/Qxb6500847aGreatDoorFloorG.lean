/-
  The walk of seal.
-/
import Derived.Test.Qxb6500847aGreatDoorFloorF
namespace Go.Proofs.Qxb6500847aGreatDoor.FloorA
open Go.RowKit
set_option maxRecDepth 100000

theorem Gr.below {w w' : World} {o o' : Option Nat} {B : Nat} (h : Gr w w' o o') (ho : ∀ k, o = some k → B ≤ k) (hB : B ≤ w.heap.size) : Below B w w' :=
  ⟨h.grown.os, h.grown.tape, h.grown.output, h.grown.size, fun k hk => h.grown.block k (by omega) (fun e => by have := ho k e.symm; omega)⟩

theorem OwnK.above {k : IntKind} {t : TypeId} {base : Nat} {w : World} {v : Value} {bs : List Int} (h : OwnK k t base w v bs) : ∀ j, v.ownBlock = some j → base ≤ j := fun j hj => (h.lt j hj).1

/-- An owned row that is not empty, by its cells. -/
theorem OwnK.cells {k : IntKind} {t : TypeId} {base : Nat} {w : World} {v : Value} {bs : List Int} (h : OwnK k t base w v bs) (hne : 0 < bs.length) :
    ∃ g cap, v = .slice (some ⟨g, 0, none⟩) bs.length cap ∧ base ≤ g ∧ g < w.heap.size ∧ bs.length ≤ cap ∧ cap ≤ maxLen ∧ (∀ i, i < bs.length → w.cell? ⟨g, i, none⟩ = some (.int k (bs.getD i 0))) ∧ (∀ i, i < bs.length → w.frozen? ⟨g, i, none⟩ = false) := by
  have h' := h
  rcases h.2 with ⟨_, hn⟩ | ⟨g, cap, cur, rfl, hb, hg, hnc, hcm, hsz, _⟩
  · omega
  · refine ⟨g, cap, rfl, hb, (h.lt g rfl).2, hnc, hcm, fun i hi => ?_, fun i _ => by simp [World.frozen?, hg]⟩
    have := World.ownsRow.cells h' (g := g) rfl i (.int k (bs.getD i 0)) (by simp [List.getD, hi])
    rw [show (⟨g, 0, none⟩ : Addr).add i = ⟨g, i, none⟩ by unfold Addr.add; by_cases e : i = 0 <;> simp [e]] at this
    exact this

theorem bytes_of {w : World} {g : Nat} {bs : List Int} (hc : ∀ i, i < bs.length → w.cell? ⟨g, i, none⟩ = some (.int .u8 (bs.getD i 0))) (hr : ∀ b ∈ bs, 0 ≤ b ∧ b ≤ 255) : BytesAt w g 0 bs := by
  intro i hi
  have hm : bs.getD i 0 ∈ bs := by
    rw [List.getD, List.getElem?_eq_getElem hi]
    exact List.getElem_mem hi
  exact ⟨by simpa using hc i hi, hr _ hm⟩

def enc (zs : List Int) : List Int := zs.flatMap uv
theorem uv_range {v : Int} (h0 : 0 ≤ v) (h1 : v < 16384) : ∀ b ∈ uv v, 0 ≤ b ∧ b ≤ 255 := by
  intro b hb
  unfold uv at hb
  split at hb
  · simp at hb; omega
  · simp at hb; omega
theorem enc_range {zs : List Int} (h : ∀ z ∈ zs, 0 ≤ z ∧ z < 16384) : ∀ b ∈ enc zs, 0 ≤ b ∧ b ≤ 255 := by
  intro b hb
  obtain ⟨z, hz, hb⟩ := List.mem_flatMap.1 hb
  exact uv_range (h z hz).1 (h z hz).2 b hb
theorem uv_len (v : Int) : 1 ≤ (uv v).length ∧ (uv v).length ≤ 2 := by
  unfold uv; split <;> simp
theorem enc_len : ∀ zs : List Int, zs.length ≤ (enc zs).length ∧ (enc zs).length ≤ 2 * zs.length
  | [] => by simp [enc]
  | z :: zs => by
    have := enc_len zs
    have := uv_len z
    simp only [enc, List.flatMap_cons, List.length_append, List.length_cons] at *
    omega
theorem enc_take_succ (zs : List Int) (k : Nat) (h : k < zs.length) : enc (zs.take (k + 1)) = enc (zs.take k) ++ uv (zs.getD k 0) := by
  unfold enc
  rw [List.take_succ_eq_append_getElem h, List.flatMap_append]
  simp [List.getD, h]
theorem dbytes_range : ∀ (n : Nat) (d : Int), ∀ b ∈ dbytes n d, 0 ≤ b ∧ b ≤ 255
  | 0, _, b, h => by simp [dbytes] at h
  | n + 1, d, b, h => by
    simp only [dbytes, List.mem_cons] at h
    rcases h with rfl | h
    · omega
    · exact dbytes_range n _ b h

set_option maxHeartbeats 1600000 in
theorem seal_any (gn n cap : Nat) (zs : List Int) (w : World) (hn : zs.length = n) (hpos : 0 < n) (hn2 : n ≤ 1000) (hz : ∀ z ∈ zs, 0 ≤ z ∧ z < 16384) (hc : ∀ i, i < n → w.cell? ⟨gn, i, none⟩ = some (.int .u64 (zs.getD i 0))) :
    Calls Tryz.prog 35 #[.slice (some ⟨gn, 0, none⟩) n cap] w fun e w' => ∃ v, e = .returned v ∧ Own w.heap.size w' v (enc zs ++ dbytes 8 (dig (enc zs))) ∧ Below w.heap.size w w' := by
  have HC := hideIt hc
  have HZ := hideIt hz
  have HN := hideIt hn
  have hgn : gn < w.heap.size := cell_lt (hc 0 hpos)
  clear hc hz hn
  go_enter Tryz.func35, Tryz.ntmps35
  go_wp2
  go_loopw [3, 8] (fun v i wr => ∃ k : Nat, k ≤ n ∧ i = .int .i64 k ∧ Own w.heap.size wr v (enc (zs.take k)) ∧ Below w.heap.size w wr) (fun _ i _ => n - (intOf i).toNat)
  case atStart => exact ⟨0, by omega, rfl, World.ownsRow_nil _ _ _ _, Below.refl _ _⟩
  case round =>
    obtain ⟨k, hk, rfl, hown, hbel⟩ := hrel
    have HO := hideIt hown
    have HB := hideIt hbel
    have hsz := hbel.size
    obtain ⟨ad, cp, rfl⟩ := hown.shape
    clear hown hbel
    by_cases hlt : k < n
    · have hcell : wr.cell? ⟨gn, k, none⟩ = some (.int .u64 (zs.getD k 0)) := by rw [HB.out.cell hgn]; exact HC.out k hlt
      have hmem : zs.getD k 0 ∈ zs := by
        rw [List.getD, List.getElem?_eq_getElem (by rw [HN.out]; exact hlt)]
        exact List.getElem_mem _
      obtain ⟨z0, z1⟩ := HZ.out _ hmem
      have HE := hideIt (enc_take_succ zs k (by rw [HN.out]; exact hlt))
      have hl : (enc (zs.take k)).length ≤ 100000 := by
        have := (enc_len (zs.take k)).2
        have := List.length_take_le k zs
        omega
      have HLL := hideIt hl
      clear hmem hl
      generalize zs.getD k 0 = z at *
      go_wp2_with fail
      refine (uvar_any w.heap.size _ _ z _ z0 z1 HO.out HLL.out hsz).mono ?_
      rintro e w1 ⟨b1, rfl, ho1, hg1⟩
      have HO1 := hideIt ho1
      have HB1 : Hid (Below w.heap.size w w1) := HB.out.trans (hg1.below HO.out.above hsz)
      clear ho1 hg1
      go_wp2
      go_roundw
      case rel => exact ⟨k + 1, by omega, by go_num, by rw [HE.out]; exact HO1.out, HB1.out⟩
      case measure => simp [intOf]; omega
    · have ek : enc (zs.take k) = enc zs := by rw [List.take_of_length_le (by rw [HN.out]; omega)]
      have hpo : 0 < (enc zs).length := by have := (enc_len zs).1; rw [HN.out] at this; omega
      have hle : (enc zs).length ≤ 2000 := by have := (enc_len zs).2; rw [HN.out] at this; omega
      have HO2 : Hid (Own w.heap.size wr (.slice ad (enc (zs.take k)).length cp) (enc zs)) := by
        have := HO.out; rw [ek] at this ⊢; exact this
      rw [ek] at HO2
      have HEK := hideIt ek
      clear ek
      obtain ⟨g, cap1, he, _, _, _, _, hcells, _⟩ := HO2.out.cells hpo
      have hby := bytes_of hcells (enc_range HZ.out)
      have HBY := hideIt hby
      simp only [Value.slice.injEq] at he
      obtain ⟨rfl, _, rfl⟩ := he
      clear hby hcells
      rw [HEK.out]
      go_wp2_with fail
      refine (digest_any g 0 _ _ (enc zs) _ rfl (by omega) HBY.out).mono ?_
      rintro e w1 ⟨rfl, hw1⟩
      subst w1
      go_wp2_with fail
      refine (appendDigest_any w.heap.size _ (enc zs) (dig (enc zs)) _ (dig_range _).1 (dig_range _).2 HO2.out (by omega) hsz).mono ?_
      rintro e w2 ⟨b2, rfl, ho2, hg2⟩
      have HB2 : Hid (Below w.heap.size w w2) := HB.out.trans (hg2.below HO2.out.above hsz)
      obtain ⟨ad2, cap2, hv2⟩ := ho2.shape
      rw [List.length_append] at hv2
      subst hv2
      have HO3 := hideIt ho2
      clear ho2 hg2
      go_wp2
      go_ret
      exact ⟨_, rfl, HO3.out, HB2.out⟩
end Go.Proofs.Qxb6500847aGreatDoor.FloorA
