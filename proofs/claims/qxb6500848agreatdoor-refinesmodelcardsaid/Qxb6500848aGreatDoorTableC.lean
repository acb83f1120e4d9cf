/-
  The walk of 'table'.
-/
import Derived.Test.Qxb6500848aGreatDoorTableD
import Derived.Deep.RegionHeld3
namespace Go.Proofs.Qxb6500848aGreatDoor
open Go.RowKit Pl Go.Maps
set_option maxRecDepth 100000

theorem law_id : Keyed Tryz.prog 28 := int_keyed Tryz.underlying28
theorem zero_spans (w : World) : (zeroValue 134).run Tryz.prog w = .ok (.slice none 0 0) w := by kernel_rfl
theorem info_spans : (Tryz.prog.info? 134).map (fun i => (i.zero, i.size, i.bytes)) = some (some (.slice none 0 0), 1, 24) := by kernel_rfl

theorem one_slice (a : Option Addr) (n c : Nat) : ∀ u ∈ [Value.slice a n c], u.oneCell' = true := by intro u hu; rw [List.mem_singleton.1 hu]; rfl

/-- What 'table' hands back. -/
def TPost (X : Nat → Prop) (A : List Nd) (wd : Word) (wv : Value) (ab nb db : Nat) (lim : Int) (x : Int) (w : World) (e : Ending) (w' : World) : Prop :=
  ∃ b f, e = .returned (tabV b wd.length) ∧ Tab w' b wd.length f ∧ Rep (lang A x) wd f ∧ Off X b wd.length ∧ TSt X A wd wv ab nb db lim w' ∧ Ext w.heap.size (fun z => z = db) w w'

set_option maxHeartbeats 8000000 in
theorem table_walk {A : List Nd} {wd : Word} {wv : Value} {ab nb db : Nat} {lim : Int} (hn : wd.length ≤ 1000) (hwd : Alph wd) : ∀ (m : Nat) (x : Int), x.toNat = m → Valid A x → ∀ (X : Nat → Prop) (w : World), TSt X A wd wv ab nb db lim w →
    Calls Tryz.prog 91 #[.pointer (some ⟨ab, 0, none⟩), .int .i64 x, wv, .map (some db)] w (TPost X A wd wv ab nb db lim x w) := by
  intro m
  induction m using Nat.strongRecOn with
  | ind m ih =>
  intro x hm hx X w hS
  subst hm
  obtain ⟨get, ks, hM, hks⟩ := hS.done
  have x0 := hx.1
  have x1 : x < (A.length : Int) := by have := hx.2; omega
  have hlen := hS.ar.len
  have hkey := key_int x x0 (by omega)
  by_cases hin : (Lit.int .i64 x) ∈ ks
  · obtain ⟨x', b, f, e1, h2, h3, h4, h5, h6⟩ := hks _ hin
    cases e1
    have hlook := hM.hit law_id Tryz.underlying136 (zero_spans w) hkey hin
    rw [h3] at hlook
    have HQ : Hid (TPost X A wd wv ab nb db lim x w (.returned (tabV b wd.length)) w) := ⟨b, f, rfl, h4, h5, h6, hS, Ext.refl _ _ _⟩
    clear h4 h5 h6 hS hM hks ih
    go_enter Tryz.func91, Tryz.ntmps91
    go_wp2
    go_ret
    exact HQ.out
  · have hlook := hM.miss law_id Tryz.underlying136 (zero_spans w) hkey hin
    obtain ⟨cap, n0, _, n1⟩ := hS.ar.node
    obtain ⟨sv, kv, hN⟩ := n1 x hx
    obtain ⟨c0, c1, c2, c3, c4, hkids, hset⟩ := hN
    have hab : ab < w.heap.size := cell_lt n0
    have hnb : nb < w.heap.size := cell_lt c0
    have hdb : db < w.heap.size := hM.lt
    have HW := hS.word
    have HSt : Hid (TSt X A wd wv ab nb db lim w) := hS
    have HKi : Hid (Ints X w kv (nodeAt A x).kids) := hkids
    have HSe : Hid (Words X w sv (nodeAt A x).bits) := hset
    have HWf := hS.ar.wf
    have Hok : Hid (NdOk A x.toNat (nodeAt A x)) := HWf.at hx
    have Hkv : Hid (∀ k ∈ (nodeAt A x).kids, Valid A k ∧ k.toNat < x.toNat) := fun k hk => HWf.kidValid hx hk
    have Hla : Hid (lang A x = sem (nodeAt A x) (lang A)) := lang_unfold HWf hx
    obtain ⟨ka, kc, rfl, k1, k2, k3⟩ := hkids
    obtain ⟨sa, sc, rfl, s1, s2, s3⟩ := hset
    have hfew := few64 hS.ar.wf hS.ar.len hx
    obtain ⟨wa, wc, rfl, w1, w2, w3⟩ := HW
    generalize hnd : nodeAt A x = nd at *
    have Hk3 : Hid (nd.kids ≠ [] → ∃ g o, ka = some ⟨g, o, none⟩ ∧ ¬ X g ∧ ∀ j (h : j < nd.kids.length), w.cell? ⟨g, o + j, none⟩ = some (encI nd.kids[j])) := k3
    have Hs3 : Hid (nd.bits ≠ [] → ∃ g o, sa = some ⟨g, o, none⟩ ∧ ¬ X g ∧ ∀ j (h : j < nd.bits.length), w.cell? ⟨g, o + j, none⟩ = some (encW nd.bits[j])) := s3
    have Hw3 : Hid (wd ≠ [] → ∃ g o, wa = some ⟨g, o, none⟩ ∧ ¬ X g ∧ ∀ j (h : j < wd.length), w.cell? ⟨g, o + j, none⟩ = some (encI wd[j])) := w3
    clear k3 s3 w3 n1 hks hM hS HWf hkey
    have Hih : Hid (∀ m' : Nat, m' < x.toNat → ∀ (x : Int), x.toNat = m' → Valid A x → ∀ (X : Nat → Prop) (w : World), TSt X A wd (.slice wa wd.length wc) ab nb db lim w →
      Calls Tryz.prog 91 #[.pointer (some ⟨ab, 0, none⟩), .int .i64 x, .slice wa wd.length wc, .map (some db)] w (TPost X A wd (.slice wa wd.length wc) ab nb db lim x w)) := ih
    clear ih
    obtain ⟨i0, hi, hz0, hz1, hz2⟩ := info_parts info_spans
    go_enter Tryz.func91, Tryz.ntmps91
    go_wp2_with fail
    go_loopw [13, 48] (fun v i wr => ∃ (k : Nat) (X' : Nat → Prop) (bs : List Nat) (fs : List (Nat → Nat → Bool)), k ≤ nd.kids.length ∧ i = .int .i64 k ∧
      KL X X' A wd (.slice wa wd.length wc) ab nb db lim w nd.kids (.cells #[.int .i64 nd.kind, .slice sa nd.bits.length sc, .slice ka nd.kids.length kc, .int .i64 nd.lo, .int .i64 nd.hi] 110) k v bs fs wr) (fun _ i _ => nd.kids.length - (intOf i).toNat)
    case atStart => exact ⟨0, X, [], [], by omega, rfl, KL.start HSt.out _ _⟩
    case round =>
      obtain ⟨k, X', bs, fs, hk, rfl, hK⟩ := hrel
      by_cases hlt : k < nd.kids.length
      · have hlt' : (k : Int) < (nd.kids.length : Int) := by omega
        obtain ⟨g, o, rfl, hgx, hgc⟩ := Hk3.out (fun e => by rw [e] at hlt; cases hlt)
        have hgk := hgc k hlt
        have hgl : g < w.heap.size := cell_lt hgk
        have hck : wr.cell? ⟨g, o + k, none⟩ = some (encI nd.kids[k]) := by
          rw [hK.ext.cell (p := ⟨g, o + k, none⟩) hgl (fun e => hgx (by rw [show g = db from e]; exact HSt.out.xd))]
          exact hgk
        have hkv := Hkv.out nd.kids[k] (List.getElem_mem hlt)
        have hpos : w.heap.size < wr.heap.size := heap_lt hK.box
        have HK := hideIt hK
        clear hK hgk hgc
        go_wp2_with (first
          | (go_at_call 91; refine (Hih.out _ hkv.2 nd.kids[k] rfl hkv.1 X' wr HK.out.st).mono ?_; rintro e w1 ⟨b, f, rfl, hT, hR, hO, hS1, hE⟩)
          | (at_builtin; refine wpList_append_own_at _ rfl (.tmp 52) (.tmp 58) 179 rfl w.heap.size 134 i0 (.slice none 0 0) 1 24 Tryz.underlying179 hi hz0 hz1 hz2 rfl (by decide) _ _ _ rfl
              ((ownsRow_ext HK.out.row hE (fun g hg e => by have := (ownsRow_block HK.out.row hg).1; omega)).alloc _) ⟨w1.heap.size, 0, none⟩ 1 1 [tabV b wd.length] rfl rfl (cell_one_new _ _ _) (one_slice _ _ _) (by unfold maxLen; omega) (by omega) (by have := hE.size; simp; omega) ?_; intro v' w2 hown hgrow _ hloc))
        go_roundw
        case rel => exact ⟨k + 1, _, _, _, by omega, by go_num, HK.out.step hdb hab hnb hlt hT hR hO hS1 hE hown hgrow hloc⟩
        case measure => simp [intOf]; omega
      · obtain rfl : k = nd.kids.length := by omega
        have hpos : w.heap.size < wr.heap.size := heap_lt hK.box
        have HK := hideIt hK
        clear hK
        generalize hwk : wr = wk at *
        clear hwk
        have Hfin : Hid (∀ (w4 : World) (b : Nat) (f : Nat → Nat → Bool), Tab w4 b wd.length f → Rep (lang A x) wd f → wk.heap.size ≤ b → Below wk.heap.size wk w4 →
            ∃ w', (Instr.mapUpdate 136 (.map (some db)) (.int .i64 x) (tabV b wd.length)).run Tryz.prog w4 = .ok () w' ∧ TPost X A wd (.slice wa wd.length wc) ab nb db lim x w (.returned (tabV b wd.length)) w') :=
          fun w4 b f hT hR hb h4 => by
            obtain ⟨w', r, r2⟩ := HK.out.finish HSt.out hx hT hR hb h4
            exact ⟨w', r, b, f, rfl, r2⟩
        have hkr := Hok.out.kind
        have hkc : nd.kind = 0 ∨ nd.kind = 1 ∨ nd.kind = 2 ∨ nd.kind = 3 ∨ nd.kind = 4 ∨ nd.kind = 5 ∨ nd.kind = 6 ∨ nd.kind = 7 ∨ nd.kind = 8 ∨ nd.kind = 9 := by omega
        clear hkr
        rcases hkc with hkd | hkd | hkd | hkd | hkd | hkd | hkd | hkd | hkd | hkd
        · have Hrep : Hid (Rep (lang A x) wd (fun _ _ => false)) := by
            show Rep (lang A x) wd _
            rw [Hla.out]
            exact (rep_none wd).congr hwd (fun u _ _ => by simp [sem, hkd])
          go_wp2_with (first
            | (go_at_call 121; refine (blank_walk wd.length hn wk).mono ?_; rintro e w3 ⟨rfl, hT0, hb3, hz3⟩; have bx := (hb3.block w.heap.size hpos).trans HK.out.box; have bx0 := box_cell bx 0; have bx1 := box_cell bx 1; have bx3 := box_cell bx 3; have bx4 := box_cell bx 4; simp only [List.getElem?_toArray, List.getElem?_cons_zero, List.getElem?_cons_succ] at bx0 bx1 bx3 bx4; have HT0 := hideIt hT0; have HB3 := hideIt hb3; clear hT0 hb3 hz3 bx)
            | (at_mapUpdate; obtain ⟨w5, hput, hpost⟩ := Hfin.out _ _ _ HT0.out Hrep.out (Nat.le_refl _) HB3.out; refine wpList_put _ rfl _ _ _ 136 rfl rfl rfl rfl hput ?_))
          go_ret
          exact hpost
        · have Hrep : Hid (Rep (lang A x) wd (fun i j => decide (i = j))) := by
            show Rep (lang A x) wd _
            rw [Hla.out]
            exact (rep_eps wd).congr hwd (fun u _ _ => by simp [sem, hkd])
          go_wp2_with (first
            | (go_at_call 121; refine (blank_walk wd.length hn wk).mono ?_; rintro e w3 ⟨rfl, hT0, hb3, hz3⟩; have bx := (hb3.block w.heap.size hpos).trans HK.out.box; have bx0 := box_cell bx 0; have bx1 := box_cell bx 1; have bx3 := box_cell bx 3; have bx4 := box_cell bx 4; simp only [List.getElem?_toArray, List.getElem?_cons_zero, List.getElem?_cons_succ] at bx0 bx1 bx3 bx4; have HT0 := hideIt hT0; have HB3 := hideIt hb3; clear hT0 hb3 hz3 bx)
            | (go_at_call 122; refine (empties_walk wd.length hn w3).mono ?_; rintro e w4 ⟨rfl, hT4, hb4, hz4⟩; clear hz4; have HT4 := hideIt hT4; have HB4 := hideIt hb4; clear hT4 hb4)
            | (at_mapUpdate; obtain ⟨w5, hput, hpost⟩ := Hfin.out _ _ _ HT4.out Hrep.out HB3.out.size (HB3.out.trans (HB4.out.mono HB3.out.size)); refine wpList_put _ rfl _ _ _ 136 rfl rfl rfl rfl hput ?_))
          go_ret
          exact hpost
        · -- all
          have Hrep : Hid (Rep (lang A x) wd (fun i j => decide (i ≤ j))) := by
            show Rep (lang A x) wd _
            rw [Hla.out]
            exact (rep_all wd).congr hwd (fun u _ _ => by simp [sem, hkd])
          go_wp2_with (go_at_call 121; refine (blank_walk wd.length hn wk).mono ?_; rintro e w3 ⟨rfl, hT0, hb3, hz3⟩; have bx := (hb3.block w.heap.size hpos).trans HK.out.box; have bx0 := box_cell bx 0; simp only [List.getElem?_toArray, List.getElem?_cons_zero] at bx0; have HM0 : Hid (Mid wk wd.length (fun _ _ => false) w3) := ⟨hT0, hb3, hz3⟩; clear hT0 hb3 hz3 bx)
          go_loopw [17] (fun i wr => ∃ a : Nat, a ≤ wd.length + 1 ∧ i = .int .i64 a ∧ Mid wk wd.length (fillS (fun _ _ => true) a 0) wr) (fun i _ => wd.length + 1 - (intOf i).toNat)
          case atStart => exact ⟨0, by omega, rfl, HM0.out.congr (fun i j _ _ => by simp [fillS])⟩
          case round =>
            obtain ⟨a, ha, rfl, hM⟩ := hrel
            by_cases hlt : a ≤ wd.length
            · have hlt' : (a : Int) ≤ (wd.length : Int) := by omega
              have HM := hideIt hM
              clear hM
              go_wp2
              go_loopw [18] (fun i wr => ∃ b : Nat, a ≤ b ∧ b ≤ wd.length + 1 ∧ i = .int .i64 b ∧ Mid wk wd.length (fillS (fun _ _ => true) a b) wr) (fun i _ => wd.length + 1 - (intOf i).toNat)
              case atStart => exact ⟨a, by omega, by omega, rfl, HM.out.congr (fun i j _ _ => fillS_enter _ a i j)⟩
              case round =>
                obtain ⟨b, hab, hb, rfl, hM⟩ := hrel
                by_cases hlt2 : b ≤ wd.length
                · have hlt2' : (b : Int) ≤ (wd.length : Int) := by omega
                  have u0 := hM.tab.rows a (by omega)
                  obtain ⟨u1, u2⟩ := hM.tab.cells a b (by omega) (by omega)
                  have a1 : (a : Int) < (wd.length : Int) + 1 := by omega
                  have b1 : (b : Int) < (wd.length : Int) + 1 := by omega
                  have HM := hideIt hM
                  clear hM
                  go_wp2
                  go_roundw
                  case rel => exact ⟨b + 1, by omega, by omega, by go_num, (HM.out.set (i := a) (j := b) (by omega) (by omega) true).congr (fun i j _ _ => fillS_col _ a b i j hab)⟩
                  case measure => simp [intOf]; omega
                · obtain rfl : b = wd.length + 1 := by omega
                  go_wp2
                  go_roundw
                  case rel => exact ⟨a + 1, by omega, by go_num, hM.congr (fun i j _ hj => fillS_row _ a wd.length i j hj)⟩
                  case measure => simp [intOf]; omega
            · obtain rfl : a = wd.length + 1 := by omega
              have HM : Hid (Mid wk wd.length (fun i j => decide (i ≤ j)) wr) := hM.congr (fun i j hi _ => by unfold fillS; rw [if_pos (by omega)]; simp)
              clear hM
              go_wp2_with (at_mapUpdate; obtain ⟨w5, hput, hpost⟩ := Hfin.out _ _ _ HM.out.tab Hrep.out (Nat.le_refl _) HM.out.below; refine wpList_put _ rfl _ _ _ 136 rfl rfl rfl rfl hput ?_)
              go_ret
              exact hpost
        · -- class
          have Hrep : Hid (Rep (lang A x) wd (fun i j => decide (j = i + 1) && hasC nd.bits (wd.getD i 0))) := by
            show Rep (lang A x) wd _
            refine (rep_cls wd (hasC nd.bits)).congr hwd (fun u _ _ => ?_)
            rw [Hla.out]
            simp [sem, hkd]
          have Hcl := hideIt (Hok.out.cls hkd)
          go_wp2_with (go_at_call 121; refine (blank_walk wd.length hn wk).mono ?_; rintro e w3 ⟨rfl, hT0, hb3, hz3⟩; have bx := (hb3.block w.heap.size hpos).trans HK.out.box; have bx0 := box_cell bx 0; simp only [List.getElem?_toArray, List.getElem?_cons_zero] at bx0; have HM0 : Hid (Mid wk wd.length (fun _ _ => false) w3) := ⟨hT0, hb3, hz3⟩; clear hT0 hb3 hz3 bx)
          go_loopw [19] (fun i wr => ∃ a : Nat, a ≤ wd.length ∧ i = .int .i64 a ∧ Mid wk wd.length (clsS (hasC nd.bits) wd a) wr) (fun i _ => wd.length - (intOf i).toNat)
          case atStart => exact ⟨0, by omega, rfl, HM0.out.congr (fun i j _ _ => by simp [clsS])⟩
          case round =>
            obtain ⟨a, ha, rfl, hM⟩ := hrel
            by_cases hlt : a < wd.length
            · have hlt' : (a : Int) < (wd.length : Int) := by omega
              have bxw := (hM.below.block w.heap.size hpos).trans HK.out.box
              have bx1 := box_cell bxw 1
              simp only [List.getElem?_toArray, List.getElem?_cons_zero, List.getElem?_cons_succ] at bx1
              have hS := (HK.out.st.below hM.below).word
              obtain ⟨ad, cap', e, _, _, h3⟩ := hS
              cases e
              obtain ⟨g, o, rfl, _, hc⟩ := h3 (fun e => by rw [e] at hlt; cases hlt)
              have wc0 := hc a hlt
              have glt : g < wk.heap.size := by
                obtain ⟨g', o', e', _, hc'⟩ := Hw3.out (fun e => by rw [e] at hlt; cases hlt)
                cases e'
                have := cell_lt (hc' a hlt)
                have e2 : (⟨g, o + a, none⟩ : Addr).block = g := rfl
                omega
              have HSw := hideIt ((HSe.out.ext HK.out.ext (Nat.le_refl _) (fun b _ e => e ▸ HSt.out.xd)).below hM.below (Nat.le_refl _))
              have u0 := hM.tab.rows a (by omega)
              obtain ⟨u1, u2⟩ := hM.tab.cells a (a + 1) (by omega) (by omega)
              have a1 : (a : Int) < (wd.length : Int) + 1 := by omega
              have a2 : (a : Int) + 1 < (wd.length : Int) + 1 := by omega
              have a3 : ((a : Int) + 1).toNat = a + 1 := by omega
              have a4 : 0 ≤ (a : Int) + 1 := by omega
              have a5 : ¬ (a : Int) + 1 < 0 := by omega
              have a6 : (a : Int) + 1 < ((wd.length + 1 : Nat) : Int) := by omega
              have a7 : (a : Int) + 1 ≤ (wd.length : Int) := by omega
              have a8 : IntKind.i64.wrap ((a : Int) + 1) = (a : Int) + 1 := by simp [IntKind.wrap, IntKind.bits, IntKind.signed]; omega
              have HM := hideIt hM
              have HC : Hid (∀ i j, upd (clsS (hasC nd.bits) wd a) a (a + 1) (hasC nd.bits wd[a]) i j = clsS (hasC nd.bits) wd (a + 1) i j) := fun i j => clsS_step _ wd a hlt i j
              clear hM bxw h3 hc
              have K1 : Hid (∀ v, (wr.setCell ⟨wk.heap.size + 1 + a, a + 1, none⟩ v).cell? ⟨w.heap.size, 1, none⟩ = some (Value.slice sa nd.bits.length sc)) := fun v => (World.cell?_setCell_other _ _ _ _ (ne_block (by omega))).trans bx1
              have K2 : Hid (∀ v, (wr.setCell ⟨wk.heap.size + 1 + a, a + 1, none⟩ v).cell? ⟨g, o + a, none⟩ = some (.int .i64 wd[a])) := fun v => (World.cell?_setCell_other _ _ _ _ (ne_block (by omega))).trans wc0
              have K3 : Hid (∀ v, (wr.setCell ⟨wk.heap.size + 1 + a, a + 1, none⟩ v).cell? ⟨wk.heap.size, a, none⟩ = some (.slice (some ⟨wk.heap.size + 1 + a, 0, none⟩) (wd.length + 1) (wd.length + 1))) := fun v => (World.cell?_setCell_other _ _ _ _ (ne_block (by omega))).trans u0
              go_wp2_with fail
              go_region_held3 (fun w' => w'.cell? ⟨w.heap.size, 1, none⟩ = some (Value.slice sa nd.bits.length sc) ∧ w'.cell? ⟨g, o + a, none⟩ = some (.int .i64 wd[a]) ∧ w'.cell? ⟨wk.heap.size, a, none⟩ = some (.slice (some ⟨wk.heap.size + 1 + a, 0, none⟩) (wd.length + 1) (wd.length + 1))) (first | (exact ⟨K1.out _, K2.out _, K3.out _⟩) | go_keep)
                (first | (go_at_call 21; refine (sethas_walk (X := X) (w := wr.drew) (bits := nd.bits) HSw.out Hcl.out.1 Hcl.out.2 wd[a]).mono ?_; rintro e w4 ⟨rfl, hw4⟩; subst hw4))
              all_goals
                go_wp2_with fail
                go_roundw
                case rel => exact ⟨a + 1, by omega, by go_num, (HM.out.drew.set (i := a) (j := a + 1) (by omega) (by omega) (hasC nd.bits wd[a])).congr (fun i j _ _ => HC.out i j)⟩
                case measure => simp [intOf]; omega
            · obtain rfl : a = wd.length := by omega
              have HM : Hid (Mid wk wd.length (fun i j => decide (j = i + 1) && hasC nd.bits (wd.getD i 0)) wr) := hM.congr (fun i j hi hj => clsS_end _ wd i j hj)
              clear hM
              go_wp2_with (at_mapUpdate; obtain ⟨w5, hput, hpost⟩ := Hfin.out _ _ _ HM.out.tab Hrep.out (Nat.le_refl _) HM.out.below; refine wpList_put _ rfl _ _ _ 136 rfl rfl rfl rfl hput ?_)
              go_ret
              exact hpost
        · -- concat
          have htwo : nd.kids.length = 2 := by
            obtain ⟨a, b, e⟩ := Hok.out.two hkd
            rw [e]; rfl
          obtain ⟨g, gc, rfl, hgl, hgc⟩ := HK.out.cells (by omega)
          have lb := HK.out.lb
          have lf := HK.out.lf
          obtain ⟨t0, r0, o0⟩ := HK.out.tabs 0 (by omega) (by omega) (by omega)
          obtain ⟨t1, r1, o1⟩ := HK.out.tabs 1 (by omega) (by omega) (by omega)
          have g0 := hgc 0 (by omega)
          have g1 := hgc 1 (by omega)
          have ek : kid nd 0 = nd.kids[0] := getD_lt (by omega) _
          have ek1 : kid nd 1 = nd.kids[1] := getD_lt (by omega) _
          have HTab := hideIt t0
          have HTab1 := hideIt t1
          have HRep : Hid (Rep (lang A x) wd (joinF fs[0] fs[1])) := by
            show Rep (lang A x) wd _
            refine (rep_join r0 r1).congr hwd (fun u _ _ => ?_)
            rw [Hla.out]
            simp [sem, hkd, ek, ek1]
          clear t0 r0 o0 t1 r1 o1 hgc
          generalize hb0 : bs[0]'(by omega) = b0 at *
          generalize hf0 : fs[0]'(by omega) = f0 at *
          generalize hb1 : bs[1]'(by omega) = b1 at *
          generalize hf1 : fs[1]'(by omega) = f1 at *
          have htwo' : ((nd.kids.length : Nat) : Int) = 2 := by omega
          go_wp2_with (first
            | (go_at_call 121; refine (blank_walk wd.length hn wk).mono ?_; rintro e w3 ⟨rfl, hT0, hb3, hz3⟩; have bx := (hb3.block w.heap.size hpos).trans HK.out.box; have bx0 := box_cell bx 0; have bx1 := box_cell bx 1; have bx3 := box_cell bx 3; have bx4 := box_cell bx 4; simp only [List.getElem?_toArray, List.getElem?_cons_zero, List.getElem?_cons_succ] at bx0 bx1 bx3 bx4; have kc0 := (hb3.cell (p := ⟨g, 0, none⟩) hgl).trans g0; have kc1 := (hb3.cell (p := ⟨g, 1, none⟩) hgl).trans g1; have HT0 := hideIt hT0; have HB3 := hideIt hb3; clear hT0 hb3 hz3 bx))
          go_region_with (go_at_call 123; refine (join_walk wd.length hn b0 b1 f0 f1 _ (HTab.out.below (below_drewN HB3.out _) HTab.out.top) (HTab1.out.below (below_drewN HB3.out _) HTab1.out.top)).mono ?_; rintro e w4 ⟨rfl, hM4⟩; have HM4 := hideIt hM4; clear hM4)
          all_goals
            go_wp2_with (at_mapUpdate; obtain ⟨w5, hput, hpost⟩ := Hfin.out _ _ _ HM4.out.tab HRep.out HB3.out.size ((below_drewN HB3.out _).trans (HM4.out.below.mono HB3.out.size)); refine wpList_put _ rfl _ _ _ 136 rfl rfl rfl rfl hput ?_)
            go_ret
            exact hpost
        · -- union
          have lb := HK.out.lb
          have lf := HK.out.lf
          have Hrep : Hid (Rep (lang A x) wd (orF fs)) := by
            show Rep (lang A x) wd _
            refine (rep_or nd.kids fs lf (fun i h h' => (HK.out.tabs i (by omega) h' h).2.1)).congr hwd (fun u _ _ => ?_)
            rw [Hla.out]
            simp [sem, hkd]
          have hv : ∃ va vc, u13 = .slice va nd.kids.length vc := by
            obtain ⟨_, r2⟩ := HK.out.row
            rcases r2 with ⟨r2, r3⟩ | ⟨_, _, _, r2, _⟩
            · exact ⟨none, 0, by rw [r2, r3]⟩
            · exact ⟨_, _, r2⟩
          obtain ⟨va, vc, rfl⟩ := hv
          have Hcells : Hid (∀ i (h : i < bs.length), ∃ g, va = some ⟨g, 0, none⟩ ∧ g < wk.heap.size ∧ wk.cell? ⟨g, i, none⟩ = some (tabV bs[i] wd.length)) := fun i h => by
            obtain ⟨g, cap, e, h1, h2⟩ := HK.out.cells (by omega)
            cases e
            exact ⟨g, rfl, h1, h2 i h⟩
          go_wp2_with (go_at_call 121; refine (blank_walk wd.length hn wk).mono ?_; rintro e w3 ⟨rfl, hT0, hb3, hz3⟩; have bx := (hb3.block w.heap.size hpos).trans HK.out.box; have bx0 := box_cell bx 0; simp only [List.getElem?_toArray, List.getElem?_cons_zero] at bx0; have HM0 : Hid (Mid wk wd.length (fun _ _ => false) w3) := ⟨hT0, hb3, hz3⟩; clear hT0 hb3 hz3 bx)
          go_loopw [16, 124] (fun tv i wr => ∃ k bt : Nat, k ≤ nd.kids.length ∧ i = .int .i64 k ∧ tv = tabV bt wd.length ∧ Tab wr bt wd.length (orF (fs.take k)) ∧ Below wk.heap.size wk wr ∧ wk.heap.size ≤ bt) (fun _ i _ => nd.kids.length - (intOf i).toNat)
          case atStart => exact ⟨0, _, by omega, rfl, rfl, HM0.out.tab, HM0.out.below, Nat.le_refl _⟩
          case round =>
            obtain ⟨k, bt, hk, rfl, rfl, hT, hb, hle⟩ := hrel
            by_cases hlt : k < nd.kids.length
            · have hlt' : (k : Int) < (nd.kids.length : Int) := by omega
              obtain ⟨g, rfl, hgl, hgc⟩ := Hcells.out k (by omega)
              obtain ⟨t0, _, _⟩ := HK.out.tabs k (by omega) (by omega) hlt
              have gk := (hb.cell (p := ⟨g, k, none⟩) hgl).trans hgc
              have e : orF (fs.take (k + 1)) = eitherF (orF (fs.take k)) (fs[k]'(by omega)) := by
                rw [List.take_succ_eq_append_getElem (by omega), orF_snoc]
              have HT := hideIt hT
              have HT0 := hideIt (t0.below hb t0.top)
              have HB := hideIt hb
              have HE := hideIt e
              have HL := hideIt hle
              clear hT hb e t0 hgc hle
              go_wp2_with (go_at_call 124; refine (either_walk wd.length hn bt _ _ _ wr HT.out HT0.out).mono ?_; rintro e w4 ⟨rfl, hM4⟩)
              go_roundw
              case rel => exact ⟨k + 1, _, by omega, by go_num, rfl, HE.out ▸ hM4.tab, HB.out.trans (hM4.below.mono HB.out.size), HB.out.size⟩
              case measure => simp [intOf]; omega
            · obtain rfl : k = nd.kids.length := by omega
              have HT : Hid (Tab wr bt wd.length (orF fs)) := by
                rw [List.take_of_length_le (by omega)] at hT
                exact hT
              clear hT
              go_wp2_with (at_mapUpdate; obtain ⟨w5, hput, hpost⟩ := Hfin.out _ _ _ HT.out Hrep.out hle hb; refine wpList_put _ rfl _ _ _ 136 rfl rfl rfl rfl hput ?_)
              go_ret
              exact hpost
        · -- inter
          have lb := HK.out.lb
          have lf := HK.out.lf
          have Hrep : Hid (Rep (lang A x) wd (andF fs)) := by
            show Rep (lang A x) wd _
            refine (rep_and nd.kids fs lf (fun i h h' => (HK.out.tabs i (by omega) h' h).2.1)).congr hwd (fun u _ _ => ?_)
            rw [Hla.out]
            simp [sem, hkd]
          have hv : ∃ va vc, u13 = .slice va nd.kids.length vc := by
            obtain ⟨_, r2⟩ := HK.out.row
            rcases r2 with ⟨r2, r3⟩ | ⟨_, _, _, r2, _⟩
            · exact ⟨none, 0, by rw [r2, r3]⟩
            · exact ⟨_, _, r2⟩
          obtain ⟨va, vc, rfl⟩ := hv
          have Hcells : Hid (∀ i (h : i < bs.length), ∃ g, va = some ⟨g, 0, none⟩ ∧ g < wk.heap.size ∧ wk.cell? ⟨g, i, none⟩ = some (tabV bs[i] wd.length)) := fun i h => by
            obtain ⟨g, cap, e, h1, h2⟩ := HK.out.cells (by omega)
            cases e
            exact ⟨g, rfl, h1, h2 i h⟩
          go_wp2_with (go_at_call 121; refine (blank_walk wd.length hn wk).mono ?_; rintro e w3 ⟨rfl, hT0, hb3, hz3⟩; have bx := (hb3.block w.heap.size hpos).trans HK.out.box; have bx0 := box_cell bx 0; simp only [List.getElem?_toArray, List.getElem?_cons_zero] at bx0; have HM0 : Hid (Mid wk wd.length (fun _ _ => false) w3) := ⟨hT0, hb3, hz3⟩; clear hT0 hb3 hz3 bx)
          go_loopw [22] (fun i wr => ∃ a : Nat, a ≤ wd.length + 1 ∧ i = .int .i64 a ∧ Mid wk wd.length (fillS (fun i j => fs.all fun f => f i j) a 0) wr) (fun i _ => wd.length + 1 - (intOf i).toNat)
          case atStart => exact ⟨0, by omega, rfl, HM0.out.congr (fun i j _ _ => by simp [fillS])⟩
          case round =>
            obtain ⟨a, ha, rfl, hM⟩ := hrel
            by_cases hlt : a ≤ wd.length
            · have hlt' : (a : Int) ≤ (wd.length : Int) := by omega
              have HM := hideIt hM
              clear hM
              go_wp2
              go_loopw [23] (fun i wr => ∃ b : Nat, a ≤ b ∧ b ≤ wd.length + 1 ∧ i = .int .i64 b ∧ Mid wk wd.length (fillS (fun i j => fs.all fun f => f i j) a b) wr) (fun i _ => wd.length + 1 - (intOf i).toNat)
              case atStart => exact ⟨a, by omega, by omega, rfl, HM.out.congr (fun i j _ _ => fillS_enter _ a i j)⟩
              case round =>
                obtain ⟨b, hab, hb, rfl, hM⟩ := hrel
                by_cases hlt2 : b ≤ wd.length
                · have hlt2' : (b : Int) ≤ (wd.length : Int) := by omega
                  have u0 := hM.tab.rows a (by omega)
                  obtain ⟨u1, u2⟩ := hM.tab.cells a b (by omega) (by omega)
                  have a1 : (a : Int) < (wd.length : Int) + 1 := by omega
                  have b1 : (b : Int) < (wd.length : Int) + 1 := by omega
                  have HM := hideIt hM
                  clear hM
                  go_wp2
                  go_loopw [153] (fun i wr => ∃ k : Nat, k ≤ nd.kids.length ∧ i = .int .i64 k ∧ Mid wk wd.length (upd (fillS (fun i j => fs.all fun f => f i j) a b) a b ((fs.take k).all fun f => f a b)) wr) (fun i _ => nd.kids.length - (intOf i).toNat)
                  case atStart => exact ⟨0, by omega, rfl, HM.out.set (i := a) (j := b) (by omega) (by omega) true⟩
                  case round =>
                    obtain ⟨k, hk, rfl, hM⟩ := hrel
                    by_cases hlt3 : k < nd.kids.length
                    · have hlt3' : (k : Int) < (nd.kids.length : Int) := by omega
                      obtain ⟨g, rfl, hgl, hgc⟩ := Hcells.out k (by omega)
                      obtain ⟨t0, _, _⟩ := HK.out.tabs k (by omega) (by omega) hlt3
                      have gk := (hM.below.cell (p := ⟨g, k, none⟩) hgl).trans hgc
                      have hT := t0.below hM.below t0.top
                      have t1 := hT.rows a (by omega)
                      have t2 := (hT.cells a b (by omega) (by omega)).1
                      have u0 := hM.tab.rows a (by omega)
                      obtain ⟨u1, u2⟩ := hM.tab.cells a b (by omega) (by omega)
                      rw [upd_self] at u1
                      have HE : Hid ((fs.take (k + 1)).all (fun f => f a b) = ((fs.take k).all (fun f => f a b) && (fs[k]'(by omega)) a b)) := by
                        show _ = _
                        rw [List.take_succ_eq_append_getElem (by omega), List.all_append]
                        simp
                      have HM := hideIt hM
                      clear hM hT t0 hgc
                      cases hc : (fs.take k).all (fun f => f a b) with
                      | false =>
                        rw [hc] at u1 HE
                        go_wp2_with fail
                        go_region
                        go_wp2_with fail
                        go_roundw
                        case rel => exact ⟨k + 1, by omega, by go_num, (HM.out.drew.set (i := a) (j := b) (by omega) (by omega) false).congr (fun i j _ _ => by rw [upd_upd, HE.out]; rfl)⟩
                        case measure => simp [intOf]; omega
                      | true =>
                        rw [hc] at u1 HE
                        cases hf : (fs[k]'(by omega)) a b with
                        | false =>
                          rw [hf] at t2 HE
                          go_wp2_with fail
                          go_region
                          go_wp2_with fail
                          go_roundw
                          case rel => exact ⟨k + 1, by omega, by go_num, (HM.out.drew.set (i := a) (j := b) (by omega) (by omega) false).congr (fun i j _ _ => by rw [upd_upd, HE.out]; rfl)⟩
                          case measure => simp [intOf]; omega
                        | true =>
                          rw [hf] at t2 HE
                          go_wp2_with fail
                          go_region
                          go_wp2_with fail
                          go_roundw
                          case rel => exact ⟨k + 1, by omega, by go_num, (HM.out.drew.set (i := a) (j := b) (by omega) (by omega) true).congr (fun i j _ _ => by rw [upd_upd, HE.out]; rfl)⟩
                          case measure => simp [intOf]; omega
                    · obtain rfl : k = nd.kids.length := by omega
                      have HM : Hid (Mid wk wd.length (fillS (fun i j => fs.all fun f => f i j) a (b + 1)) wr) := hM.congr (fun i j _ _ => by
                        rw [List.take_of_length_le (by omega)]
                        exact fillS_col (fun i j => fs.all fun f => f i j) a b i j hab)
                      clear hM
                      go_wp2
                      go_roundw
                      case rel => exact ⟨b + 1, by omega, by omega, by go_num, HM.out⟩
                      case measure => simp [intOf]; omega
                · obtain rfl : b = wd.length + 1 := by omega
                  go_wp2
                  go_roundw
                  case rel => exact ⟨a + 1, by omega, by go_num, hM.congr (fun i j _ hj => fillS_row _ a wd.length i j hj)⟩
                  case measure => simp [intOf]; omega
            · obtain rfl : a = wd.length + 1 := by omega
              have HM : Hid (Mid wk wd.length (andF fs) wr) := hM.congr (fun i j hi _ => by unfold fillS andF; rw [if_pos (by omega)])
              clear hM
              go_wp2_with (at_mapUpdate; obtain ⟨w5, hput, hpost⟩ := Hfin.out _ _ _ HM.out.tab Hrep.out (Nat.le_refl _) HM.out.below; refine wpList_put _ rfl _ _ _ 136 rfl rfl rfl rfl hput ?_)
              go_ret
              exact hpost
        · -- comp
          have hone : nd.kids.length = 1 := by
            obtain ⟨a, e⟩ := Hok.out.one (by omega)
            rw [e]; rfl
          obtain ⟨g, gc, rfl, hgl, hgc⟩ := HK.out.cells (by omega)
          have lb := HK.out.lb
          have lf := HK.out.lf
          obtain ⟨t0, r0, o0⟩ := HK.out.tabs 0 (by omega) (by omega) (by omega)
          have g0 := hgc 0 (by omega)
          have ek : kid nd 0 = nd.kids[0] := getD_lt (by omega) _
          have HTab := hideIt t0
          have HRep := hideIt r0
          clear t0 r0 o0 hgc
          generalize hb0 : bs[0]'(by omega) = b0 at *
          generalize hf0 : fs[0]'(by omega) = f0 at *
          have hone' : ((nd.kids.length : Nat) : Int) = 1 := by omega
          have Hrep : Hid (Rep (lang A x) wd (fun i j => decide (i ≤ j) && !f0 i j)) := by
            show Rep (lang A x) wd _
            refine (rep_comp HRep.out).congr hwd (fun u _ _ => ?_)
            rw [Hla.out]
            simp [sem, hkd, ek]
          go_wp2_with (go_at_call 121; refine (blank_walk wd.length hn wk).mono ?_; rintro e w3 ⟨rfl, hT0, hb3, hz3⟩; have bx := (hb3.block w.heap.size hpos).trans HK.out.box; have bx0 := box_cell bx 0; simp only [List.getElem?_toArray, List.getElem?_cons_zero] at bx0; have HM0 : Hid (Mid wk wd.length (fun _ _ => false) w3) := ⟨hT0, hb3, hz3⟩; clear hT0 hb3 hz3 bx)
          go_loopw [26] (fun i wr => ∃ a : Nat, a ≤ wd.length + 1 ∧ i = .int .i64 a ∧ Mid wk wd.length (fillS (fun i j => !f0 i j) a 0) wr) (fun i _ => wd.length + 1 - (intOf i).toNat)
          case atStart => exact ⟨0, by omega, rfl, HM0.out.congr (fun i j _ _ => by simp [fillS])⟩
          case round =>
            obtain ⟨a, ha, rfl, hM⟩ := hrel
            by_cases hlt : a ≤ wd.length
            · have hlt' : (a : Int) ≤ (wd.length : Int) := by omega
              have HM := hideIt hM
              clear hM
              go_wp2
              go_loopw [27] (fun i wr => ∃ b : Nat, a ≤ b ∧ b ≤ wd.length + 1 ∧ i = .int .i64 b ∧ Mid wk wd.length (fillS (fun i j => !f0 i j) a b) wr) (fun i _ => wd.length + 1 - (intOf i).toNat)
              case atStart => exact ⟨a, by omega, by omega, rfl, HM.out.congr (fun i j _ _ => fillS_enter _ a i j)⟩
              case round =>
                obtain ⟨b, hab, hb, rfl, hM⟩ := hrel
                by_cases hlt2 : b ≤ wd.length
                · have hlt2' : (b : Int) ≤ (wd.length : Int) := by omega
                  have u0 := hM.tab.rows a (by omega)
                  obtain ⟨u1, u2⟩ := hM.tab.cells a b (by omega) (by omega)
                  have kc0 := (hM.below.cell (p := ⟨g, 0, none⟩) hgl).trans g0
                  have hT := HTab.out.below hM.below HTab.out.top
                  have t0 := hT.rows a (by omega)
                  have t1 := (hT.cells a b (by omega) (by omega)).1
                  have a1 : (a : Int) < (wd.length : Int) + 1 := by omega
                  have b1 : (b : Int) < (wd.length : Int) + 1 := by omega
                  have HM := hideIt hM
                  clear hM hT
                  go_wp2_with fail
                  go_region
                  go_wp2_with fail
                  go_roundw
                  case rel => exact ⟨b + 1, by omega, by omega, by go_num, (HM.out.drew.set (i := a) (j := b) (by omega) (by omega) (!f0 a b)).congr (fun i j _ _ => fillS_col (fun i j => !f0 i j) a b i j hab)⟩
                  case measure => simp [intOf]; omega
                · obtain rfl : b = wd.length + 1 := by omega
                  go_wp2
                  go_roundw
                  case rel => exact ⟨a + 1, by omega, by go_num, hM.congr (fun i j _ hj => fillS_row _ a wd.length i j hj)⟩
                  case measure => simp [intOf]; omega
            · obtain rfl : a = wd.length + 1 := by omega
              have HM : Hid (Mid wk wd.length (fun i j => decide (i ≤ j) && !f0 i j) wr) := hM.congr (fun i j hi _ => by unfold fillS; rw [if_pos (by omega)])
              clear hM
              go_wp2_with (at_mapUpdate; obtain ⟨w5, hput, hpost⟩ := Hfin.out _ _ _ HM.out.tab Hrep.out (Nat.le_refl _) HM.out.below; refine wpList_put _ rfl _ _ _ 136 rfl rfl rfl rfl hput ?_)
              go_ret
              exact hpost
        · -- star
          have hone : nd.kids.length = 1 := by
            obtain ⟨a, e⟩ := Hok.out.one (by omega)
            rw [e]; rfl
          obtain ⟨g, gc, rfl, hgl, hgc⟩ := HK.out.cells (by omega)
          have lb := HK.out.lb
          have lf := HK.out.lf
          obtain ⟨t0, r0, o0⟩ := HK.out.tabs 0 (by omega) (by omega) (by omega)
          have g0 := hgc 0 (by omega)
          have ek : kid nd 0 = nd.kids[0] := getD_lt (by omega) _
          have HTab := hideIt t0
          have HRep := hideIt r0
          clear t0 r0 o0 hgc
          generalize hb0 : bs[0]'(by omega) = b0 at *
          generalize hf0 : fs[0]'(by omega) = f0 at *
          have hone' : ((nd.kids.length : Nat) : Int) = 1 := by omega
          have Hlang : Hid (∀ u, loopL (lang A nd.kids[0]) 0 (-1) u ↔ lang A x u) := fun u => by
            rw [Hla.out]
            simp only [sem, hkd, ek]
            simp [loopL]
          go_wp2_with (first
            | (go_at_call 121; refine (blank_walk wd.length hn wk).mono ?_; rintro e w3 ⟨rfl, hT0, hb3, hz3⟩; have bx := (hb3.block w.heap.size hpos).trans HK.out.box; have bx0 := box_cell bx 0; have bx1 := box_cell bx 1; have bx3 := box_cell bx 3; have bx4 := box_cell bx 4; simp only [List.getElem?_toArray, List.getElem?_cons_zero, List.getElem?_cons_succ] at bx0 bx1 bx3 bx4; have kc0 := (hb3.cell (p := ⟨g, 0, none⟩) hgl).trans g0; have HT0 := hideIt hT0; have HB3 := hideIt hb3; clear hT0 hb3 hz3 bx)
            | (go_at_call 125; refine (powers_int wd.length hn b0 0 (-1) (by omega) (by omega) (Or.inl rfl) f0 wd rfl _ HRep.out w3 (HTab.out.below HB3.out HTab.out.top)).mono ?_; rintro e w4 ⟨b4, f4, rfl, hT4, hb4, hl4, hR4⟩; have HT4 := hideIt hT4; have HB4 := hideIt hb4; have HL4 := hideIt hl4; have HR4 := hideIt hR4; clear hT4 hb4 hl4 hR4)
            | (at_mapUpdate; obtain ⟨w5, hput, hpost⟩ := Hfin.out _ _ _ HT4.out (HR4.out.congr hwd (fun u _ _ => Hlang.out u)) (Nat.le_trans HB3.out.size HL4.out) (HB3.out.trans (HB4.out.mono HB3.out.size)); refine wpList_put _ rfl _ _ _ 136 rfl rfl rfl rfl hput ?_))
          go_ret
          exact hpost
        · -- loop
          have hone : nd.kids.length = 1 := by
            obtain ⟨a, e⟩ := Hok.out.one (by omega)
            rw [e]; rfl
          obtain ⟨g, gc, rfl, hgl, hgc⟩ := HK.out.cells (by omega)
          have lb := HK.out.lb
          have lf := HK.out.lf
          obtain ⟨t0, r0, o0⟩ := HK.out.tabs 0 (by omega) (by omega) (by omega)
          have g0 := hgc 0 (by omega)
          have ek : kid nd 0 = nd.kids[0] := getD_lt (by omega) _
          have HTab := hideIt t0
          have HRep := hideIt r0
          clear t0 r0 o0 hgc
          generalize hb0 : bs[0]'(by omega) = b0 at *
          generalize hf0 : fs[0]'(by omega) = f0 at *
          have hone' : ((nd.kids.length : Nat) : Int) = 1 := by omega
          have hlo := Hok.out.loop hkd
          have Hlang : Hid (∀ u, loopL (lang A nd.kids[0]) nd.lo nd.hi u ↔ lang A x u) := fun u => by
            rw [Hla.out]
            simp only [sem, hkd, ek]
            simp [loopL]
          have Hlo := hideIt hlo
          clear hlo
          go_wp2_with (first
            | (go_at_call 121; refine (blank_walk wd.length hn wk).mono ?_; rintro e w3 ⟨rfl, hT0, hb3, hz3⟩; have bx := (hb3.block w.heap.size hpos).trans HK.out.box; have bx0 := box_cell bx 0; have bx1 := box_cell bx 1; have bx3 := box_cell bx 3; have bx4 := box_cell bx 4; simp only [List.getElem?_toArray, List.getElem?_cons_zero, List.getElem?_cons_succ] at bx0 bx1 bx3 bx4; have kc0 := (hb3.cell (p := ⟨g, 0, none⟩) hgl).trans g0; have HT0 := hideIt hT0; have HB3 := hideIt hb3; clear hT0 hb3 hz3 bx))
          go_region_with (go_at_call 125; refine (powers_int wd.length hn b0 nd.lo nd.hi Hlo.out.1 Hlo.out.2.1 (by have := Hlo.out; omega) f0 wd rfl _ HRep.out _ (HTab.out.below (below_drewN HB3.out _) HTab.out.top)).mono ?_; rintro e w4 ⟨b4, f4, rfl, hT4, hb4, hl4, hR4⟩; have HT4 := hideIt hT4; have HB4 := hideIt hb4; have HL4 := hideIt hl4; have HR4 := hideIt hR4; clear hT4 hb4 hl4 hR4)
          all_goals
            go_wp2_with (at_mapUpdate; obtain ⟨w5, hput, hpost⟩ := Hfin.out _ _ _ HT4.out (HR4.out.congr hwd (fun u _ _ => Hlang.out u)) (Nat.le_trans HB3.out.size HL4.out) ((below_drewN HB3.out _).trans (HB4.out.mono HB3.out.size)); refine wpList_put _ rfl _ _ _ 136 rfl rfl rfl rfl hput ?_)
            go_ret
            exact hpost
end Go.Proofs.Qxb6500848aGreatDoor
