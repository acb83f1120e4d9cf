/-
  ImageIsInjective: spell.
-/
import Derived.Test.Qxb6500847aGreatDoorImC
import Derived.Test.Qxb6500847aGreatDoorMdSs
import Derived.Test.Qxb6500847aGreatDoorMdK
import Derived.Maps.AppendAt
import Derived.Deep.MidRow
import Derived.Laws.BytesArg
namespace Go.Proofs.Qxb6500847aGreatDoor.Os
open Go.RowKit FloorA Go.Lib
set_option maxRecDepth 100000
/-- A state, spelled, as numbers. -/
def splI (M : Nat → En) : List Int := (spl M).map (fun b => (b.toNat : Int))
theorem nuL_len : ∀ {l : List Nat}, (∀ x ∈ l, x < 18446744073709551616) → (nuL l).length ≤ 21 * l.length
  | [], _ => by simp [nuL]
  | n :: l, h => by
    have h1 := dig_len (h n (by simp))
    have h2 := nuL_len (l := l) (fun x hx => h x (by simp [hx]))
    simp only [nuL, List.length_append, List.length_cons]
    omega
section
variable {w w' : World} {B : Nat} {wb : Nat → Nat} {M : Nat → En}
/-- The five numbers of an entry. -/
theorem Mk.five (h : Mk M) {k : Nat} (hk : k < 320) : ∃ g t ba si p : Nat, hdN (M k) = [g, t, ba, si, p] ∧ (M k).gen = (g : Int) ∧ (M k).typ = (t : Int) ∧ (M k).bas = (ba : Int) ∧ (M k).siz = (si : Int) ∧ pz (M k).par = (p : Int) - 1 ∧ g < 4294967296 ∧ t < 256 ∧ ba < 18446744073709551616 ∧ si < 18446744073709551616 ∧ p ≤ 320 := by
  obtain ⟨g, hg, _, hg2⟩ := h.gen k hk
  obtain ⟨t, ht, t7, _⟩ := h.typ k hk
  obtain ⟨b1, b2, b3⟩ := h.bas k hk
  obtain ⟨p, hp, hp2⟩ : ∃ p : Nat, pz (M k).par = (p : Int) - 1 ∧ p ≤ 320 := by
    unfold pz
    rcases h.par k hk with e | ⟨q, hq, e⟩
    · exact ⟨0, by rw [e]; rfl, by omega⟩
    · refine ⟨q + 1, ?_, by omega⟩
      rw [e, if_neg (by omega)]
      omega
  refine ⟨g, t, (M k).bas.toNat, (M k).siz.toNat, p, ?_, hg, ht, by omega, by omega, hp, by omega, by omega, by omega, by omega, hp2⟩
  unfold hdN
  rw [hg, ht, hp]
  simp
theorem enS_len (h : Mk M) {i : Nat} (hi : i < 320) : (enS (M i)).length ≤ 2500 := by
  obtain ⟨g, t, ba, si, p, e, _, _, _, _, _, h1, h2, h3, h4, h5⟩ := h.five hi
  have hw := h.wlen i hi
  unfold enS
  rw [e]
  have a1 := nuL_len (l := [g, t, ba, si, p]) (fun x hx => by simp at hx; omega)
  have a2 := nuL_len (l := (M i).wds.map Int.toNat) (fun x hx => by
    obtain ⟨y, hy, rfl⟩ := List.mem_map.1 hx
    have := h.wrg i hi y hy
    omega)
  simp only [List.length_append, List.length_cons, List.length_nil, List.length_map] at *
  omega
theorem stS_len (h : Mk M) : ∀ k, k ≤ 320 → (stS M 0 k).length ≤ k * 2500
  | 0, _ => by simp [stS]
  | k + 1, hk => by
    rw [stS_snoc, List.length_append, Nat.zero_add]
    have := stS_len h k (by omega)
    have := enS_len h (i := k) (by omega)
    omega
theorem nuL_take {ns : List Nat} {j x : Nat} (h : ns[j]? = some x) : nuL (ns.take (j + 1)) = nuL (ns.take j) ++ decDigits x ++ [32] := by
  rw [List.take_add_one, h, nuL_append]
  simp [nuL]
theorem nuL_tlen {ns : List Nat} (h : ∀ x ∈ ns, x < 18446744073709551616) (j : Nat) : (nuL (ns.take j)).length ≤ 21 * ns.length := by
  have a := nuL_len (l := ns.take j) (fun x hx => h x (List.mem_of_mem_take hx))
  have b : (ns.take j).length ≤ ns.length := by rw [List.length_take]; omega
  omega
set_option maxHeartbeats 16000000 in
theorem spell_m (h : Md w B wb M) (hM : Mk M) (ht : Tbw w) :
    Calls Tryz.prog 28 #[.pointer (some ⟨B, 0, none⟩)] w fun e w' => e = .returned (.string (strOfNums (splI M))) ∧ Below w.heap.size w w' := by
  obtain ⟨i5, hi5, hz5, hs5, hb5⟩ := info_parts Tryz.info5
  have HMk := hideIt hM
  have HTb := hideIt ht
  obtain ⟨vs, hvs, hrg⟩ := h.rng
  have HVs := hideIt hvs
  have HRg := hideIt hrg
  have HI8 : Hid ((Tryz.prog.info? 148).map (·.size) = some (csM M vs).length) := by show _ = _; rw [csM_len]; exact inf148
  have HIx := hideIt (fun k (hk : k < 320) w => idx148 M vs hk w)
  clear h hM hrg hvs ht
  generalize hcs : csM M vs = cs at *
  clear hcs
  go_enter Tryz.func28, Tryz.ntmps28
  go_wp2_with (refine wpList_load_mid rfl 148 (.tmp 12) rfl B 0 rfl cs _ HRg.out Tryz.underlying148 rfl HI8.out ?_)
  go_loopw [3, 14] (fun v3 v14 wr => ∃ k : Nat, k ≤ 320 ∧ v14 = .int .i64 (k : Int) ∧ Sp w (stS M 0 k) v3 wr) (fun _ i _ => 320 - (intOf i).toNat)
  case atStart => exact ⟨0, by omega, rfl, ⟨⟨rfl, Or.inl ⟨rfl, rfl⟩⟩, Below.refl _ _⟩⟩
  case round =>
    obtain ⟨k, hk, rfl, hSp⟩ := hrel
    by_cases hlt : k < 320
    · have hlt' : (k : Int) < 320 := by omega
      obtain ⟨g, t, ba, si, p, hnd, e1, e2, e3, e4, e5, g32, t8, ba64, si64, p9⟩ := HMk.out.five hlt
      obtain ⟨av, nv, cv, hvf, hnv, hwc⟩ : ∃ av nv cv, vs k = .slice av nv cv ∧ nv = (M k).wds.length ∧ (0 < nv → av = some ⟨wb k, 0, none⟩ ∧ w.rangeAt (wb k) 0 ((M k).wds.map (.int .u64))) := by
        rcases HVs.out k hlt with ⟨e, a, c, e6⟩ | ⟨_, c, e6, _, _, hr, _⟩
        · exact ⟨a, 0, c, e6, by rw [e]; rfl, fun z => absurd z (Nat.lt_irrefl 0)⟩
        · exact ⟨_, _, c, e6, rfl, fun _ => ⟨rfl, hr⟩⟩
      have hix : ∀ w, (Instr.index 148 (.agg cs.toArray) (.int .i64 (k : Int))).run Tryz.prog w = .ok (.agg #[.int .u32 (g : Int), .int .u8 (t : Int), .int .u64 (ba : Int), .int .u64 (si : Int), .int .i64 ((p : Int) - 1), .slice av nv cv]) w := fun w => by
        rw [HIx.out k hlt w]
        unfold ent6
        rw [e1, e2, e3, e4, e5, hvf]
      obtain ⟨ws, hws⟩ : ∃ ws : List Nat, ws = (M k).wds.map Int.toNat := ⟨_, rfl⟩
      have HWl : Hid (ws.length = nv ∧ nv ≤ 112 ∧ ∀ x ∈ ws, x < 18446744073709551616) := ⟨by rw [hws, hnv, List.length_map], by rw [hnv]; exact HMk.out.wlen k hlt, fun x hx => by
        rw [hws] at hx
        obtain ⟨y, hy, rfl⟩ := List.mem_map.1 hx
        have := HMk.out.wrg k hlt y hy
        omega⟩
      have HWc : Hid (∀ W, Below w.heap.size w W → ∀ (j x : Nat), ws[j]? = some x → av = some ⟨wb k, 0, none⟩ ∧ W.cell? ⟨wb k, j, none⟩ = some (.int .u64 (x : Int))) := fun W hW j x hx => by
        have hj : j < nv := by have := (List.getElem?_eq_some_iff.1 hx).1; have := HWl.out.1; omega
        obtain ⟨q1, q2⟩ := hwc (by omega)
        refine ⟨q1, ?_⟩
        rw [hws, List.getElem?_map] at hx
        obtain ⟨y, hy, rfl⟩ := Option.map_eq_some_iff.1 hx
        have q3 := q2 j (.int .u64 y) (by rw [List.getElem?_map, hy]; rfl)
        rw [Nat.zero_add] at q3
        have := HMk.out.wrg k hlt y (List.mem_of_getElem? hy)
        rw [show ((y.toNat : Nat) : Int) = y by omega]
        exact (hW.cell (p := ⟨wb k, j, none⟩) (cell_lt q3)).trans q3
      have HE : Hid (stS M 0 (k + 1) = stS M 0 k ++ nuL [g, t, ba, si, p] ++ [58] ++ nuL ws ++ [10]) := by
        show _ = _
        rw [stS_snoc, Nat.zero_add, hws]
        unfold enS
        rw [hnd]
        simp
      have HL0 : Hid ((stS M 0 k).length ≤ 800000) := by
        have := stS_len HMk.out k hk
        show _ ≤ _
        omega
      clear hvf hnv hwc hws hnd e1 e2 e3 e4 e5
      have p1 : (0 : Int) ≤ (p : Int) := by omega
      have pw : wrap64 ((p : Int) - 1 + 1) = (p : Int) := by unfold wrap64; omega
      obtain ⟨bs, hbs⟩ : ∃ bs, bs = stS M 0 k := ⟨_, rfl⟩
      rw [← hbs] at hSp HE HL0
      clear hbs
      have HS0 := hideIt (hSp.below (alloc_below (w := wr) (.cells #[.int .u32 (g : Int), .int .u8 (t : Int), .int .u64 (ba : Int), .int .u64 (si : Int), .int .i64 ((p : Int) - 1), .slice av nv cv] 147)))
      have hbx := heap_new wr (.cells #[.int .u32 (g : Int), .int .u8 (t : Int), .int .u64 (ba : Int), .int .u64 (si : Int), .int .i64 ((p : Int) - 1), .slice av nv cv] 147)
      obtain ⟨a3, n_a3, c3, hf3⟩ := hSp.form3
      subst hf3
      clear hSp
      go_upto_region 5 with fail
      generalize wr.alloc (.cells #[.int .u32 (g : Int), .int .u8 (t : Int), .int .u64 (ba : Int), .int .u64 (si : Int), .int .i64 ((p : Int) - 1), .slice av nv cv] 147) = w0 at *
      generalize wr.heap.size = E at *
      have x0 : w0.cell? ⟨E, 0, none⟩ = some (.int .u32 (g : Int)) := box_cell hbx 0
      have x1 : w0.cell? ⟨E, 1, none⟩ = some (.int .u8 (t : Int)) := box_cell hbx 1
      have x2 : w0.cell? ⟨E, 2, none⟩ = some (.int .u64 (ba : Int)) := box_cell hbx 2
      have x3 : w0.cell? ⟨E, 3, none⟩ = some (.int .u64 (si : Int)) := box_cell hbx 3
      have x4 : w0.cell? ⟨E, 4, none⟩ = some (.int .i64 ((p : Int) - 1)) := box_cell hbx 4
      have HBx := hideIt hbx
      clear hbx
      go_wp2_with fail
      have hF := heap_new w0 (.cells #[.int .u64 (g : Int), .int .u64 (t : Int), .int .u64 (ba : Int), .int .u64 (si : Int), .int .u64 (p : Int)] 34)
      have HS1 := hideIt (HS0.out.below (alloc_below (w := w0) (.cells #[.int .u64 (g : Int), .int .u64 (t : Int), .int .u64 (ba : Int), .int .u64 (si : Int), .int .u64 (p : Int)] 34)))
      have HE1 : Hid ((w0.alloc (.cells #[.int .u64 (g : Int), .int .u64 (t : Int), .int .u64 (ba : Int), .int .u64 (si : Int), .int .u64 (p : Int)] 34)).heap[E]? = some (.cells #[.int .u32 (g : Int), .int .u8 (t : Int), .int .u64 (ba : Int), .int .u64 (si : Int), .int .i64 ((p : Int) - 1), .slice av nv cv] 147 (0, 0))) := ((alloc_below (w := w0) (.cells #[.int .u64 (g : Int), .int .u64 (t : Int), .int .u64 (ba : Int), .int .u64 (si : Int), .int .u64 (p : Int)] 34)).block E (heap_lt HBx.out)).trans HBx.out
      clear x0 x1 x2 x3 x4
      generalize w0.alloc (.cells #[.int .u64 (g : Int), .int .u64 (t : Int), .int .u64 (ba : Int), .int .u64 (si : Int), .int .u64 (p : Int)] 34) = w1 at *
      generalize w0.heap.size = F at *
      obtain ⟨ns, hns⟩ : ∃ ns : List Nat, ns = [g, t, ba, si, p] := ⟨_, rfl⟩
      have HNc : Hid (∀ W, OthersKept 5 none w1 W → ∀ (j x : Nat), ns[j]? = some x → W.cell? ⟨F, j, none⟩ = some (.int .u64 (x : Int))) := fun W hW j x hx => by
        have q := hW F _ hF (by simp) (fun c fz e => by injection e with _ e _; exact absurd e (by decide))
        rw [box_cell q j, List.getElem?_toArray]
        rw [hns] at hx
        match j, hx with
        | 0, hx => obtain rfl : g = x := (by simpa using hx); rfl
        | 1, hx => obtain rfl : t = x := (by simpa using hx); rfl
        | 2, hx => obtain rfl : ba = x := (by simpa using hx); rfl
        | 3, hx => obtain rfl : si = x := (by simpa using hx); rfl
        | 4, hx => obtain rfl : p = x := (by simpa using hx); rfl
        | j + 5, hx => simp at hx
      have HNl : Hid (ns.length = 5 ∧ ∀ x ∈ ns, x < 18446744073709551616) := ⟨by rw [hns]; rfl, fun x hx => by rw [hns] at hx; simp at hx; omega⟩
      have HEs : Hid (∀ W, OthersKept 5 none w1 W → W.cell? ⟨E, 5, none⟩ = some (.slice av nv cv)) := fun W hW => box_cell (hW E _ HE1.out (by simp) (fun c fz e => by injection e with _ e _; exact absurd e (by decide))) 5
      rw [← hns] at HE
      clear hns hF HS0 HE1 HBx p1 pw g32 t8 ba64 si64 p9
      go_loopw [3, 33] (fun v3 v33 w2 => ∃ j : Nat, j ≤ 5 ∧ v33 = .int .i64 (j : Int) ∧ Sp w (bs ++ nuL (ns.take j)) v3 w2 ∧ OthersKept 5 none w1 w2) (fun _ i _ => 5 - (intOf i).toNat)
      case atStart => exact ⟨0, by omega, rfl, by simpa [nuL] using HS1.out, OthersKept.refl _ _ _⟩
      case round =>
        obtain ⟨j, hj, rfl, hSj, hoj⟩ := hrel
        obtain ⟨a3, n_a3, c3, hf3⟩ := hSj.form3
        have HSj := hideIt hSj
        have HOj : Hid (OthersKept 5 none w1 wr) := hoj
        have HLj := hideIt (nuL_tlen HNl.out.2 j)
        by_cases hj5 : j < 5
        · have hj5' : (j : Int) < 5 := by omega
          have hjl : j < ns.length := by have := HNl.out.1; omega
          obtain ⟨x, hx⟩ : ∃ x, ns[j]? = some x := ⟨_, List.getElem?_eq_getElem hjl⟩
          have xc := HNc.out wr hoj j x hx
          have HX := hideIt (nuL_take hx)
          have HXl : Hid (x < 18446744073709551616) := HNl.out.2 x (List.mem_of_getElem? hx)
          have HAU := hideIt (hSj.num HTb.out HXl.out (by have := HL0.out; have := HLj.out; have := HNl.out.1; rw [List.length_append]; omega))
          subst hf3
          clear hSj hoj hx hjl
          go_wp2_with fail
          go_at_call 100
          refine HAU.out.mono ?_
          rintro e w4 ⟨v4, rfl, hS4, ho4⟩
          have HS4 := hideIt hS4
          have HO4 : Hid (OthersKept 5 none w1 w4) := HOj.out.trans ho4
          have HLn : Hid ((bs ++ nuL (ns.take j) ++ decDigits x).length ≤ 900000) := by
            have q1 := HL0.out; have q2 := HLj.out; have q3 := HNl.out.1; have q4 := dig_len HXl.out
            show _ ≤ _
            rw [List.length_append, List.length_append]; omega
          obtain ⟨a4, n_a4, c4, hf4⟩ := hS4.form3
          subst hf4
          clear hS4 ho4 HAU
          go_wp2_with (at_builtin; refine wpList_append_own_at _ rfl (.tmp 39) (.tmp 40) 38 rfl w.heap.size 5 i5 (.int .u8 0) 1 1 Tryz.underlying38 hi5 hz5 hs5 hb5 rfl (by decide) _ _ _ rfl (World.ownsRow.alloc HS4.out.own _) ⟨w4.heap.size, 0, none⟩ 1 1 [.int .u8 32] rfl rfl (cell_one_new w4 _ _) (one_u8 _) (by have := HLn.out; unfold maxLen; omega) (by have := HLn.out; omega) (by have := HS4.out.bel.size; simp; omega) ?_; intro v5 w5 hown5 hgrow5 _ _; obtain ⟨hS5, hk5⟩ := HS4.out.push (c := 32) hown5 hgrow5; have HO5 : Hid (OthersKept 5 none w1 w5) := HO4.out.trans hk5; obtain ⟨a5, n_a5, c5, hf5⟩ := hS5.form3; subst hf5; have HS5 := hideIt hS5; clear hown5 hgrow5 hS5 hk5)
          go_roundw
          case rel => exact ⟨j + 1, by omega, by go_num, by rw [HX.out, ← List.append_assoc, ← List.append_assoc]; exact HS5.out, HO5.out⟩
          case measure => simp [intOf]; omega
        · obtain rfl : j = 5 := by omega
          have ec := HEs.out wr hoj
          have hS6 : Sp w (bs ++ nuL ns) u3 wr := by
            have := HSj.out
            rwa [List.take_of_length_le (by have := HNl.out.1; omega)] at this
          have HS6 := hideIt hS6
          obtain ⟨a6, n_a6, c6, hf6⟩ := hS6.form3
          subst hf6
          have HLn : Hid ((bs ++ nuL ns).length ≤ 900000) := by
            have q1 := HL0.out; have q2 := nuL_len HNl.out.2; have q3 := HNl.out.1
            show _ ≤ _
            rw [List.length_append]; omega
          clear hf3 hSj hoj hS6 HSj HLj
          go_upto_region 11 with (at_builtin; refine wpList_append_own_at _ rfl (.tmp 43) (.tmp 44) 38 rfl w.heap.size 5 i5 (.int .u8 0) 1 1 Tryz.underlying38 hi5 hz5 hs5 hb5 rfl (by decide) _ _ _ rfl (World.ownsRow.alloc HS6.out.own _) ⟨wr.heap.size, 0, none⟩ 1 1 [.int .u8 58] rfl rfl (cell_one_new wr _ _) (one_u8 _) (by have := HLn.out; unfold maxLen; omega) (by have := HLn.out; omega) (by have := HS6.out.bel.size; simp; omega) ?_; intro v5 w5 hown5 hgrow5 _ _; obtain ⟨hS5, hk5⟩ := HS6.out.push (c := 58) hown5 hgrow5; have HO5 : Hid (OthersKept 5 none w1 w5) := HOj.out.trans hk5; obtain ⟨a5, n_a5, c5, hf5⟩ := hS5.form3; subst hf5; have HS5 := hideIt hS5; clear hown5 hgrow5 hS5 hk5)
          have ec5 := HEs.out w5 HO5.out
          clear ec HS6 HLn HOj
          have HLb : Hid ((bs ++ nuL ns ++ [58]).length ≤ 800200) := by
            have q1 := HL0.out; have q2 := nuL_len HNl.out.2; have q3 := HNl.out.1
            show _ ≤ _
            rw [List.length_append, List.length_append]; simp only [List.length_cons, List.length_nil]; omega
          have HE9 : Hid (stS M 0 (k + 1) = (bs ++ nuL ns ++ [58]) ++ nuL ws ++ [10]) := HE.out
          generalize bs ++ nuL ns ++ [58] = bt at *
          go_wp2_with fail
          clear ec5
          go_loopw [3, 49] (fun v3 v49 w6 => ∃ j : Nat, j ≤ nv ∧ v49 = .int .i64 (j : Int) ∧ Sp w (bt ++ nuL (ws.take j)) v3 w6) (fun _ i _ => nv - (intOf i).toNat)
          case atStart => exact ⟨0, Nat.zero_le _, rfl, by simpa [nuL] using HS5.out⟩
          case round =>
            obtain ⟨j, hj, rfl, hSj⟩ := hrel
            obtain ⟨a3, n_a3, c3, hf3⟩ := hSj.form3
            have HSj := hideIt hSj
            have HLj := hideIt (nuL_tlen HWl.out.2.2 j)
            by_cases hj5 : j < nv
            · have hj5' : (j : Int) < (nv : Int) := by omega
              have hn112 : nv ≤ 112 := HWl.out.2.1
              have hjl : j < ws.length := by have := HWl.out.1; omega
              obtain ⟨x, hx⟩ : ∃ x, ws[j]? = some x := ⟨_, List.getElem?_eq_getElem hjl⟩
              obtain ⟨hav, xc⟩ := HWc.out wr hSj.bel j x hx
              subst hav
              have HX := hideIt (nuL_take hx)
              have HXl : Hid (x < 18446744073709551616) := HWl.out.2.2 x (List.mem_of_getElem? hx)
              have HAU := hideIt (hSj.num HTb.out HXl.out (by have := HLb.out; have := HLj.out; have := HWl.out.1; have := HWl.out.2.1; rw [List.length_append]; omega))
              subst hf3
              clear hSj hx hjl
              go_wp2_with fail
              go_at_call 100
              refine HAU.out.mono ?_
              rintro e w7 ⟨v7, rfl, hS7, _⟩
              have HS7 := hideIt hS7
              have HLn : Hid ((bt ++ nuL (ws.take j) ++ decDigits x).length ≤ 900000) := by
                have q1 := HLb.out; have q2 := HLj.out; have q3 := HWl.out.1; have q5 := HWl.out.2.1; have q4 := dig_len HXl.out
                show _ ≤ _
                rw [List.length_append, List.length_append]; omega
              obtain ⟨a7, n_a7, c7, hf7⟩ := hS7.form3
              subst hf7
              clear hS7 HAU HS5
              go_wp2_with (at_builtin; refine wpList_append_own_at _ rfl (.tmp 55) (.tmp 56) 38 rfl w.heap.size 5 i5 (.int .u8 0) 1 1 Tryz.underlying38 hi5 hz5 hs5 hb5 rfl (by decide) _ _ _ rfl (World.ownsRow.alloc HS7.out.own _) ⟨w7.heap.size, 0, none⟩ 1 1 [.int .u8 32] rfl rfl (cell_one_new w7 _ _) (one_u8 _) (by have := HLn.out; unfold maxLen; omega) (by have := HLn.out; omega) (by have := HS7.out.bel.size; simp; omega) ?_; intro v5 w5 hown5 hgrow5 _ _; obtain ⟨hS5, hk5⟩ := HS7.out.push (c := 32) hown5 hgrow5; obtain ⟨a5, n_a5, c5, hf5⟩ := hS5.form3; subst hf5; have HS5 := hideIt hS5; clear hown5 hgrow5 hS5 hk5)
              go_roundw
              case rel => exact ⟨j + 1, by omega, by go_num, by rw [HX.out, ← List.append_assoc, ← List.append_assoc]; exact HS5.out⟩
              case measure => simp [intOf]; omega
            · obtain rfl : j = nv := by omega
              have hS8 : Sp w (bt ++ nuL ws) u3 wr := by
                have := HSj.out
                rwa [List.take_of_length_le (by have := HWl.out.1; omega)] at this
              have HS8 := hideIt hS8
              obtain ⟨a8, n_a8, c8, hf8⟩ := hS8.form3
              subst hf8
              have HLn : Hid ((bt ++ nuL ws).length ≤ 900000) := by
                have q1 := HLb.out; have q2 := nuL_len HWl.out.2.2; have q3 := HWl.out.1; have q5 := HWl.out.2.1
                show _ ≤ _
                rw [List.length_append]; omega
              clear hf3 hSj hS8 HSj HLj HS5
              go_wp2_with (at_builtin; refine wpList_append_own_at _ rfl (.tmp 59) (.tmp 60) 38 rfl w.heap.size 5 i5 (.int .u8 0) 1 1 Tryz.underlying38 hi5 hz5 hs5 hb5 rfl (by decide) _ _ _ rfl (World.ownsRow.alloc HS8.out.own _) ⟨wr.heap.size, 0, none⟩ 1 1 [.int .u8 10] rfl rfl (cell_one_new wr _ _) (one_u8 _) (by have := HLn.out; unfold maxLen; omega) (by have := HLn.out; omega) (by have := HS8.out.bel.size; simp; omega) ?_; intro v5 w5 hown5 hgrow5 _ _; obtain ⟨hS5, hk5⟩ := HS8.out.push (c := 10) hown5 hgrow5; obtain ⟨a5, n_a5, c5, hf5⟩ := hS5.form3; subst hf5; have HS5 := hideIt hS5; clear hown5 hgrow5 hS5 hk5)
              go_roundw
              case rel => exact ⟨k + 1, by omega, by go_num, by rw [HE9.out]; exact HS5.out⟩
              case measure => simp [intOf]; omega
    · obtain rfl : k = 320 := by omega
      have hO : Own w.heap.size wr u3 (splI M) := by
        have := hSp.own
        unfold Own OwnK
        unfold splI spl
        rw [List.length_map, List.map_map]
        exact this
      have hrng : ∀ x ∈ splI M, 0 ≤ x ∧ x ≤ 255 := fun x hx => by
        unfold splI at hx
        obtain ⟨y, _, rfl⟩ := List.mem_map.1 hx
        have := y.toNat_lt
        omega
      have hne : splI M ≠ [] := by
        unfold splI spl
        rw [stS_snoc M 319 0]
        unfold enS
        simp
      obtain ⟨gg, cc, hf, _, _, _, _, hby⟩ := Own.bytes hO hrng hne
      have hcv := run_convert_bytes_arg (P := Tryz.prog) wr 38 5 Tryz.underlying38 Tryz.underlying5 gg 0 (splI M).length cc (splI M) rfl (fun i hi => (hby i hi).1) 9 Tryz.underlying9
      have HBW := hideIt hSp.bel
      subst hf
      clear hSp hO hrng hne hby
      generalize (splI M).length = sl at *
      obtain ⟨st, hst⟩ : ∃ st, st = strOfNums (splI M) := ⟨_, rfl⟩
      rw [← hst] at hcv
      have HSt := hideIt hst
      clear hst
      go_wp2_with fail
      go_ret
      exact ⟨by rw [← HSt.out]; rfl, HBW.out⟩
end
end Go.Proofs.Qxb6500847aGreatDoor.Os
