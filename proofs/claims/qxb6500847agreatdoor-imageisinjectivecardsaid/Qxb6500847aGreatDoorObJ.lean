/-
  observe on a sound arena.
-/
import Derived.Test.Qxb6500847aGreatDoorObI
import Derived.Test.Qxb6500847aGreatDoorObH
import Derived.Deep.RegionHeld3
namespace Go.Proofs.Qxb6500847aGreatDoor.Os
open Go.RowKit FloorA
set_option maxRecDepth 100000
/-- The model after k rounds. -/
def mx (M : Nat → En) (k : Nat) : Nat → En := fun i => if i < k then M i else enF 1
theorem mx_at (M : Nat → En) (k : Nat) : mx M k k = enF 1 := if_neg (Nat.lt_irrefl k)
theorem mx_succ (M : Nat → En) (k : Nat) : mx M (k + 1) = updM (mx M k) k (M k) := by
  funext i
  by_cases h : i = k
  · rw [h, updO_same]
    exact if_pos (by omega)
  · rw [updO_other _ _ h]
    show (if i < k + 1 then M i else enF 1) = if i < k then M i else enF 1
    by_cases q : i < k
    · rw [if_pos q, if_pos (by omega)]
    · rw [if_neg q, if_neg (by omega)]
section
variable {w wr wr' : World} {B Lb i : Nat} {M0 : Nat → En} {e e' : En} {l : List (Nat × Int)}
theorem Obs.fld2 (h : Obs w B Lb (updM M0 i e) l wr) (hi : i < 320) (j : Nat) (hj : j < 5) (e' : En) (hw : e'.wds = e.wds) {x : Value} (hx : (entL e')[j]? = some x) (ho : ∀ k, k ≠ j → (entL e')[k]? = (entL e)[k]?) : Obs w B Lb (updM M0 i e') l (wr.setCell ⟨B, i * 6 + j, none⟩ x) := by
  have := h.fld hi j hj e' (by rw [updO_same]; exact hw) hx (by rw [updO_same]; exact ho)
  rwa [updM_twice] at this
theorem Obs.wset2 (h : Obs w B Lb (updM M0 i e) l wr) (k : Below wr.heap.size wr wr') (hi : i < 320) {xs : List Int} {g : Nat} {u : Value} (hv : WdV wr' g xs u) (hg : xs ≠ [] → wr.heap.size ≤ g ∧ g < wr'.heap.size) : Obs w B Lb (updM M0 i { e with wds := xs }) l (wr'.setCell ⟨B, i * 6 + 5, none⟩ u) := by
  have := h.wset k hi hv hg
  rwa [updO_same, updM_twice] at this
theorem Obs.keepL {M : Nat → En} (h : Obs w B Lb M l wr) {a : Option Addr} {c : Nat} (hc : wr.cell? ⟨Lb, 0, none⟩ = some (.slice a l.length c)) {o : Obj} {w8 : World} (hg : (wr.alloc o).grownBy w8 (Value.slice a l.length c).ownBlock) : w8.cell? ⟨Lb, 0, none⟩ = some (.slice a l.length c) ∧ w8.frozen? ⟨Lb, 0, none⟩ = false := by
  obtain ⟨D, v, hS, _, h1, h2, h3, h4, hb⟩ := h
  have hcv := cell_of_one h2
  rw [hc] at hcv
  obtain rfl := Option.some.inj hcv
  have h28 : w8.heap[Lb]? = _ := (hg.block Lb (by have := heap_lt h2; simp; omega) (fun e => by have := hS.di 1 2 Lb h1 (h4 Lb e.symm); omega)).trans ((heap_alloc_old _ _ (heap_lt h2)).trans h2)
  exact ⟨cell_of_one h28, fz_d h28 0⟩
/-- The entry's cells. -/
theorem Obs.ent (h : Obs w B Lb (updM M0 i e) l wr) (hi : i < 320) : ∀ j x, (entL e)[j]? = some x → wr.cell? ⟨B, i * 6 + j, none⟩ = some x ∧ wr.frozen? ⟨B, i * 6 + j, none⟩ = false := fun j x hx => by
  obtain ⟨wb, hm⟩ := h.md
  have := hm.cel i hi
  rw [updO_same] at this
  exact ⟨this j x hx, hm.fz _⟩
theorem WdV.isu {g : Nat} {xs : List Int} {v : Value} (h : WdV w g xs v) : IsU 0 w v xs := by
  rcases h with ⟨e, ad, c, rfl⟩ | ⟨_, c, rfl, _, _, h4, _⟩
  · exact ⟨ad, c, by rw [e]; rfl, fun q => by rw [e] at q; exact absurd q (by simp)⟩
  · exact ⟨_, c, rfl, fun _ => ⟨g, 0, rfl, Nat.zero_le _, h4⟩⟩
theorem Obs.words (h : Obs w B Lb (updM M0 i e) l wr) (hi : i < 320) : ∃ v, wr.cell? ⟨B, i * 6 + 5, none⟩ = some v ∧ IsU 0 wr v e.wds := by
  obtain ⟨wb, hm⟩ := h.md
  obtain ⟨v, h1, h2⟩ := hm.wrd i hi
  rw [updO_same] at h2
  exact ⟨v, h1, h2.isu⟩
theorem Obs.wcell (h : Obs w B Lb (updM M0 i e) l wr) (hi : i < 320) (he : e.wds = []) : ∃ ad c, wr.cell? ⟨B, i * 6 + 5, none⟩ = some (.slice ad 0 c) ∧ wr.frozen? ⟨B, i * 6 + 5, none⟩ = false := by
  obtain ⟨wb, hm⟩ := h.md
  obtain ⟨v, h1, h2⟩ := hm.wrd i hi
  rw [updO_same] at h2
  rcases h2 with ⟨_, ad, c, rfl⟩ | ⟨q, _⟩
  · exact ⟨ad, c, h1, hm.fz _⟩
  · exact absurd he q
end
section
variable {A : Nat} {rb sb : Nat → Nat} {s : Av} {tl : Nat → List Int} {ws : Nat → Nat → Nat → Int} {w : World} {L : Nat → List Nat} {n : Nat}
theorem Md.congr {w : World} {B : Nat} {wb : Nat → Nat} {M M' : Nat → En} (h : Md w B wb M) (e : ∀ i, i < 320 → M' i = M i) : Md w B wb M' :=
  ⟨fun i hi => by rw [e i hi]; exact h.cel i hi, fun i hi => by rw [e i hi]; exact h.wrd i hi, h.fz, fun i hi hw => h.ne i hi (by rw [← e i hi]; exact hw), fun i j hi hj h1 h2 => h.inj i j hi hj (by rw [← e i hi]; exact h1) (by rw [← e j hj]; exact h2)⟩
/-- What observe leaves. -/
def ObP (M : Nat → En) (w : World) (e : Ending) (w' : World) : Prop := ∃ B wb, e = .returned (.tuple #[.pointer (some ⟨B, 0, none⟩), .bool true]) ∧ Md w' B wb M ∧ (∀ b, Tm B wb M b → w.heap.size ≤ b) ∧ Below w.heap.size w w'
set_option maxHeartbeats 16000000 in
theorem observe_x (h : Ms w A rb sb s tl ws) (hS : Sd s tl ws L n) (hK : Kd w) (kl : 1 < w.heap.size) :
    Calls Tryz.prog 21 #[.pointer (some ⟨A, 0, none⟩)] w (ObP (ob s ws) w) := by
  obtain ⟨i2, hi2, hz2, hs2, hb2⟩ := info_parts inf32
  have HM := hideIt h
  have HS := hideIt hS
  have HK := hideIt hK
  have HMk := hideIt hS.num
  obtain ⟨M, hMe⟩ : ∃ M, M = ob s ws := ⟨_, rfl⟩
  rw [← hMe] at HMk
  rw [← hMe]
  have HMe : Hid (M = ob s ws) := hMe
  clear h hS hK hMe
  go_enter Tryz.func21, Tryz.ntmps21
  go_wp2_with fail
  go_at_call 12
  refine (new_m w).mono ?_
  rintro e w1 ⟨rfl, hb1, hl1, hm1⟩
  have hO1 : Obs w w.heap.size w1.heap.size (mx M 0) (lvR M 0) (w1.alloc (.cells #[.slice none 0 0] 55)) := by
    have hmd := hm1 (mx M 0) (fun _ => 0) (fun i hi => by unfold mx; rw [if_neg (by omega)])
    have bB := alloc_below (w := w1) (.cells #[.slice none 0 0] 55)
    have sz : (w1.alloc (.cells #[.slice none 0 0] 55)).heap.size = w1.heap.size + 1 := by simp
    refine ⟨fun c b => (c = 0 ∧ b = w.heap.size) ∨ (c = 1 ∧ b = w1.heap.size), .slice none 0 0, ⟨fun c b q => by omega, fun c c' b p q => by omega⟩, ⟨fun _ => 0, hmd.below bB, fun b q => ?_⟩, Or.inr ⟨rfl, rfl⟩, heap_new _ _, ROwn.nil _ _, fun b q => (by cases q), Below.thr hb1 bB⟩
    rcases q with q | ⟨a, _, hwa, _⟩
    · exact Or.inl ⟨rfl, q⟩
    · exact absurd (show (mx M 0 a).wds = [] by unfold mx; rw [if_neg (by omega)]; rfl) hwa
  have HO1 := hideIt hO1
  clear hb1 hl1 hm1 hO1
  generalize hBe : w.heap.size = B at *
  have HBe := hideIt hBe
  clear hBe
  go_wp2_with fail
  generalize hLe : w1.heap.size = Lb at *
  clear hLe
  go_loopw [2, 16] (fun v2 v16 wr => ∃ k : Nat, k ≤ 320 ∧ v2 = .pointer (some ⟨B, 0, none⟩) ∧ v16 = .int .i64 (k : Int) ∧ Obs w B Lb (mx M k) (lvR M k) wr) (fun _ i _ => 320 - (intOf i).toNat)
  case atStart => exact ⟨0, by omega, rfl, rfl, HO1.out⟩
  case round =>
    clear HO1
    obtain ⟨k, hk, rfl, rfl, hO⟩ := hrel
    by_cases hlt : k < 320
    · have hlt' : (k : Int) < 320 := by omega
      have HO := hideIt hO
      have HG : Hid (∀ W, Below w.heap.size w W → Calls Tryz.prog 59 #[.pointer (some ⟨A, 0, none⟩), .int .u16 (k : Int)] W fun e w' => e = .returned (.tuple #[.int .u32 (M k).gen, .bool (decide ((M k).typ ≠ 0)), .nilIface]) ∧ Below W.heap.size W w') := fun W hW => by rw [HMe.out]; exact gen_at (HM.out.below hW).am ws hlt
      have HV : Hid (∀ W, Below w.heap.size w W → Calls Tryz.prog 23 #[.pointer (some ⟨A, 0, none⟩), .agg #[.int .u16 (k : Int), .int .u32 (M k).gen]] W fun e w' => e = .returned (.bool (decide ((M k).typ ≠ 0))) ∧ Below W.heap.size W w') := fun W hW => by rw [HMe.out]; exact valid_at (HM.out.below hW).am HS.out hlt
      have HT : Hid (∀ W, Below w.heap.size w W → Calls Tryz.prog 91 #[.pointer (some ⟨A, 0, none⟩), .agg #[.int .u16 (k : Int), .int .u32 (M k).gen]] W fun e w' => e = .returned (.int .u8 (M k).typ) ∧ Below W.heap.size W w') := fun W hW => by rw [HMe.out]; exact type_at (HM.out.below hW).am HS.out hlt
      have hkw : IntKind.u16.wrap (k : Int) = (k : Int) := by unfold IntKind.wrap; simp [IntKind.bits, IntKind.signed]; omega
      have HLs := hideIt (lvR_succ M k)
      have HFld : Hid (∀ W, Obs w B Lb (mx M k) (lvR M k) W → Obs w B Lb (updM (mx M k) k (enF (M k).gen)) (lvR M k) (W.setCell ⟨B, k * 6, none⟩ (.int .u32 (M k).gen))) := fun W hW => hW.fld hlt 0 (by omega) (enF (M k).gen) (by rw [mx_at]; rfl) rfl (fun j hj => by
        rw [mx_at]
        match j, hj with
        | 0, hj => exact absurd rfl hj
        | j + 1, _ => rfl)
      obtain ⟨wb0, hmd0⟩ := hO.md
      have HMd0 : Hid (∀ W, Below wr.heap.size wr W → W.cell? ⟨B, k * 6, none⟩ = some (.int .u32 1) ∧ W.frozen? ⟨B, k * 6, none⟩ = false) := fun W hW => by
        have q := (hmd0.below hW).gen hlt
        rw [mx_at] at q
        exact ⟨q, (hmd0.below hW).fz _⟩
      clear hO hmd0
      by_cases h0 : (M k).typ = 0
      · have hd0 : decide ((M k).typ ≠ 0) = false := decide_eq_false (fun q => q h0)
        rw [hd0] at HG HV
        rw [h0] at HT
        have HE : Hid (mx M (k + 1) = updM (mx M k) k (enF (M k).gen)) := by
          show _ = _
          rw [mx_succ]
          obtain ⟨a1, a2, a3⟩ := HMk.out.fre k hlt h0
          have hw : (M k).wds = [] := List.length_eq_zero_iff.1 (by rw [HMk.out.wln k hlt, if_pos (by omega)])
          have e : M k = enF (M k).gen := by
            generalize M k = x at *
            obtain ⟨x1, x2, x3, x4, x5, x6⟩ := x
            simp only at h0 a1 a2 a3 hw
            subst h0 a1 a2 a3 hw
            rfl
          rw [← e]
        have HLe : Hid (lvR M (k + 1) = lvR M k) := by show _ = _; rw [HLs.out, if_pos h0, List.append_nil]
        clear hd0 HLs h0
        generalize (M k).gen = ge at *
        go_wp2_with fail
        go_at_call 59
        refine (HG.out wr HO.out.bel).mono ?_
        rintro e w2 ⟨rfl, hb2⟩
        obtain ⟨c0, f0⟩ := HMd0.out w2 hb2
        have HO2 := hideIt (HFld.out w2 (HO.out.below hb2))
        clear hb2 HG HMd0
        go_upto_region 11 with fail
        have hsz3 : (w2.setCell ⟨B, k * 6, none⟩ (.int .u32 ge)).heap.size = w2.heap.size := by simp
        generalize w2.setCell ⟨B, k * 6, none⟩ (.int .u32 ge) = w3 at *
        have hR4 : (w3.alloc (.cells #[.int .u16 (k : Int), .int .u32 ge] 32)).heap[w2.heap.size]? = some (.cells #[.int .u16 (k : Int), .int .u32 ge] 32 (0, 0)) := by rw [← hsz3]; exact heap_new _ _
        have HO4 := hideIt (HO2.out.below (alloc_below (.cells #[.int .u16 (k : Int), .int .u32 ge] 32)))
        generalize w3.alloc (.cells #[.int .u16 (k : Int), .int .u32 ge] 32) = w4 at *
        generalize w2.heap.size = R at *
        obtain ⟨r0, r1, _, _⟩ := two_cells hR4
        have HR4 := hideIt hR4
        clear HO2 hsz3 hR4 c0 f0
        go_wp2_with fail
        go_at_call 23
        refine (HV.out w4 HO4.out.bel).mono ?_
        rintro e w5 ⟨rfl, hb5⟩
        have HO5 := hideIt (HO4.out.below hb5)
        obtain ⟨q0, q1, _, _⟩ := two_cells ((hb5.block _ (heap_lt HR4.out)).trans HR4.out)
        clear hb5 HO4 HR4 r0 r1
        go_wp2_with fail
        go_at_call 91
        refine (HT.out w5 HO5.out.bel).mono ?_
        rintro e w6 ⟨rfl, hb6⟩
        have HO6 := hideIt (HO5.out.below hb6)
        clear hb6 HO5 q0 q1
        go_wp2_with fail
        go_roundw
        case rel => exact ⟨k + 1, by omega, rfl, by go_num, by rw [HE.out, HLe.out]; exact HO6.out⟩
        case measure => simp [intOf]; omega
      · have hd0 : decide ((M k).typ ≠ 0) = true := decide_eq_true h0
        rw [hd0] at HG HV
        have HLe : Hid (lvR M (k + 1) = lvR M k ++ [(k, (M k).gen)]) := by show _ = _; rw [HLs.out, if_neg h0]
        have HLk := hideIt (lvR_le M k)
        have HLo : Hid (∀ W, Below w.heap.size w W → Calls Tryz.prog 25 #[.pointer (some ⟨A, 0, none⟩), .agg #[.int .u16 (k : Int), .int .u32 (M k).gen]] W fun e w' => e = .returned (.tuple #[.agg #[.int .u16 (k : Int), .int .u32 (M k).gen, .int .u8 (M k).typ, .int .u64 (M k).bas, .int .u64 (M k).siz, .int .u16 ((parR M k).1 : Int), .int .u32 (parR M k).2], .nilIface]) ∧ Below W.heap.size W w') := fun W hW => by
          have := look_at (HM.out.below hW) HS.out hlt (by rw [← HMe.out]; exact h0)
          rw [← HMe.out] at this
          exact this
        have HLA : Hid (∀ W, Below w.heap.size w W → Calls Tryz.prog 63 #[.pointer (some ⟨A, 0, none⟩), .slice none 0 0, .agg #[.int .u16 (k : Int), .int .u32 (M k).gen]] W fun e w' => ∃ v, e = .returned (.tuple #[v, .nilIface]) ∧ OwnK .u64 34 W.heap.size w' v (M k).wds ∧ Below W.heap.size W w') := fun W hW => by
          rw [HMe.out]
          exact LoadAll_own (HM.out.below hW) HS.out.iv HS.out.wr (HK.out.below hW (by rw [HBe.out]; exact kl)) (by have := hW.size; rw [HBe.out] at this; omega) k _ ((live_iff HS.out hlt).2 (by rw [← HMe.out]; exact h0))
        have HTW : Hid (∀ W, Below w.heap.size w W → Calls Tryz.prog 93 #[.pointer (some ⟨A, 0, none⟩), .agg #[.int .u16 (k : Int), .int .u32 (M k).gen], .int .u8 (M k).typ] W fun e w' => ∃ v, e = .returned v ∧ IsU W.heap.size w' v (M k).wds ∧ Below W.heap.size W w') := fun W hW => by
          have e2 : (ob s ws k).typ = (s.hd k).typ := by rw [ob_at _ _ hlt]
          rw [HMe.out, e2]
          exact typedWords_x (HM.out.below hW) HS.out (HK.out.below hW (by rw [HBe.out]; exact kl)) (by have := hW.size; rw [HBe.out] at this; omega) ((live_iff HS.out hlt).2 (by rw [← HMe.out]; exact h0))
        have HPR : Hid (((M k).par = 65535 ∧ (parR M k).1 = 0 ∧ (parR M k).2 = 0) ∨ ∃ p : Nat, p < 320 ∧ (M k).par = (p : Int) ∧ (parR M k).1 = p ∧ (parR M k).2 ≠ 0 ∧ ∀ W, Below w.heap.size w W → Calls Tryz.prog 23 #[.pointer (some ⟨A, 0, none⟩), .agg #[.int .u16 ((parR M k).1 : Int), .int .u32 (parR M k).2]] W fun e w' => e = .returned (.bool true) ∧ Below W.heap.size W w') := by
          by_cases hp : (M k).par = 65535
          · exact Or.inl ⟨hp, by unfold parR; rw [if_pos hp], by unfold parR; rw [if_pos hp]⟩
          · obtain ⟨p, p3, ep, epr, tp, gp⟩ := par_live (ws := ws) HS.out hlt (by rw [← HMe.out]; exact h0) (by rw [← HMe.out]; exact hp)
            rw [← HMe.out] at ep epr tp gp
            refine Or.inr ⟨p, p3, ep, by rw [epr], by rw [epr]; exact gp, fun W hW => ?_⟩
            have := valid_at (ws := ws) (HM.out.below hW).am HS.out p3
            rw [← HMe.out, decide_eq_true tp] at this
            rw [epr]
            exact this
        have HWl : Hid ((M k).wds.length ≤ 4096) := Nat.le_trans (HMk.out.wlen k hlt) (by omega)
        have HMX : Hid (mx M (k + 1) = updM (mx M k) k ⟨(M k).gen, (M k).typ, (M k).bas, (M k).siz, (M k).par, (M k).wds⟩) := mx_succ M k
        clear hd0 HLs h0
        generalize (M k).gen = ge at *
        generalize (M k).typ = ty at *
        generalize (M k).bas = ba at *
        generalize (M k).siz = si at *
        generalize (M k).par = pa at *
        generalize (M k).wds = wd at *
        generalize (parR M k).1 = p1 at *
        generalize (parR M k).2 = p2 at *
        go_wp2_with fail
        go_at_call 59
        refine (HG.out wr HO.out.bel).mono ?_
        rintro e w2 ⟨rfl, hb2⟩
        obtain ⟨c0, f0⟩ := HMd0.out w2 hb2
        have HO2 := hideIt (HFld.out w2 (HO.out.below hb2))
        clear hb2 HG HMd0 HO
        go_upto_region 11 with fail
        have hsz3 : (w2.setCell ⟨B, k * 6, none⟩ (.int .u32 ge)).heap.size = w2.heap.size := by simp
        generalize w2.setCell ⟨B, k * 6, none⟩ (.int .u32 ge) = w3 at *
        have hR4 : (w3.alloc (.cells #[.int .u16 (k : Int), .int .u32 ge] 32)).heap[w2.heap.size]? = some (.cells #[.int .u16 (k : Int), .int .u32 ge] 32 (0, 0)) := by rw [← hsz3]; exact heap_new _ _
        obtain ⟨la, lc, cl3, fl3, own3, neL, lL, lR⟩ := HO2.out.cells
        rw [hsz3] at lR
        have nRB : w2.heap.size ≠ B := by
          obtain ⟨wb, hm⟩ := HO2.out.md
          have := hm.lt
          omega
        have hlb : ∀ q, (Value.slice la (lvR M k).length lc).ownBlock = some q → q < w2.heap.size := fun q hq => by have := (owns_lt own3 q hq).2; omega
        have b34 := alloc_below (w := w3) (.cells #[.int .u16 (k : Int), .int .u32 ge] 32)
        have HO4 := hideIt (HO2.out.below b34)
        have HOw4 := hideIt (own3.below b34)
        have HCl4 := hideIt ((b34.cell (p := ⟨Lb, 0, none⟩) (cell_lt cl3)).trans cl3)
        generalize w3.alloc (.cells #[.int .u16 (k : Int), .int .u32 ge] 32) = w4 at *
        generalize w2.heap.size = R at *
        obtain ⟨r0, r1, _, _⟩ := two_cells hR4
        have HR4 := hideIt hR4
        have HLB := hideIt hlb
        have nRL : R ≠ Lb := by omega
        clear HO2 hsz3 hR4 c0 f0 cl3 fl3 own3 b34 hlb
        go_wp2_with fail
        go_at_call 23
        refine (HV.out w4 HO4.out.bel).mono ?_
        rintro e w5 ⟨rfl, hb5⟩
        have HO5 := hideIt (HO4.out.below hb5)
        have HOw5 := hideIt (HOw4.out.below hb5)
        have cl5 := (hb5.cell (p := ⟨Lb, 0, none⟩) (cell_lt HCl4.out)).trans HCl4.out
        have HCl5 := hideIt cl5
        have HR5 := hideIt ((hb5.block _ (heap_lt HR4.out)).trans HR4.out)
        obtain ⟨q0, q1, _, _⟩ := two_cells HR5.out
        have HZ5 : Hid (w.heap.size ≤ w5.heap.size) := HO5.out.bel.size
        have HLB5 : Hid (Lb < w5.heap.size) := cell_lt cl5
        clear hb5 HO4 HR4 r0 r1 HOw4 HCl4 HV
        go_upto_region 17 with (at_builtin; refine wpList_append_own_at _ rfl (.tmp 51) (.tmp 53) 55 rfl w.heap.size 32 i2 (.agg #[.int .u16 0, .int .u32 0]) 2 8 Tryz.underlying55 hi2 hz2 hs2 hb2 rfl (by decide) _ _ _ rfl (World.ownsRow.alloc HOw5.out _) ⟨w5.heap.size, 0, none⟩ 1 1 [.int .u16 (k : Int), .int .u32 ge] rfl rfl (new_two w5 _ rfl _ _ _) (ones2 _ _) (by have := HLk.out; unfold maxLen; omega) (by have := HLk.out; omega) (by have := HZ5.out; simp; omega) ?_; intro v8 w8 hown8 hgrow8 _ hwh8; have hO9 := HO5.out.push (r := (k, ge)) HCl5.out hown8 hgrow8 hwh8; obtain ⟨a8, c8, hf8⟩ := own_formD hown8; subst hf8; have hRb : w8.heap[R]? = some (.cells #[.int .u16 (k : Int), .int .u32 ge] 32 (0, 0)) := (hgrow8.block R (by have := heap_lt HR5.out; simp; omega) (fun e => by have := HLB.out R e.symm; omega)).trans ((heap_alloc_old _ _ (heap_lt HR5.out)).trans HR5.out); have hLb8 := HO5.out.keepL HCl5.out hgrow8; obtain ⟨cl8, fl8⟩ := hLb8; have HRb := hideIt hRb; have HO9 := hideIt hO9; clear hown8 hgrow8 hwh8 hO9 hRb)
        have hR9 : (w8.setCell ⟨Lb, 0, none⟩ (.slice a8 ((lvR M k).length + 1) c8)).heap[R]? = some (.cells #[.int .u16 (k : Int), .int .u32 ge] 32 (0, 0)) := (Below.heap_setCell _ _ _ _ (show ¬ R = Lb from nRL)).trans HRb.out
        generalize w8.setCell ⟨Lb, 0, none⟩ (.slice a8 ((lvR M k).length + 1) c8) = w9 at *
        have HR9 := hideIt hR9
        obtain ⟨r0, r1, _, _⟩ := two_cells hR9
        clear hR9 HRb HO5 HOw5 HCl5 HR5 q0 q1 cl5 cl8 fl8 HZ5 HLB5
        go_wp2_with fail
        go_at_call 25
        refine (HLo.out w9 HO9.out.bel).mono ?_
        rintro e w10 ⟨rfl, hb10⟩
        have b11 := alloc_below (w := w10) (.cells #[.int .u16 (k : Int), .int .u32 ge, .int .u8 ty, .int .u64 ba, .int .u64 si, .int .u16 (p1 : Int), .int .u32 p2] 41)
        have HO11 := hideIt ((HO9.out.below hb10).below b11)
        have hR11 := (b11.block _ (Nat.lt_of_lt_of_le (heap_lt HR9.out) hb10.size)).trans ((hb10.block _ (heap_lt HR9.out)).trans HR9.out)
        have hN11 := heap_new w10 (.cells #[.int .u16 (k : Int), .int .u32 ge, .int .u8 ty, .int .u64 ba, .int .u64 si, .int .u16 (p1 : Int), .int .u32 p2] 41)
        have HNB : Hid (w10.heap.size ≠ B) := by
          obtain ⟨wb, hm⟩ := (HO9.out.below hb10).md
          have := hm.lt
          show w10.heap.size ≠ B
          omega
        clear hb10 HO9 HR9 r0 r1 HLo b11
        go_upto_region 18 with fail
        generalize w10.alloc (.cells #[.int .u16 (k : Int), .int .u32 ge, .int .u8 ty, .int .u64 ba, .int .u64 si, .int .u16 (p1 : Int), .int .u32 p2] 41) = w11 at *
        generalize w10.heap.size = N at *
        have KS : Hid (∀ W, Below w11.heap.size w11 W → (W.cell? ⟨R, 0, none⟩ = some (.int .u16 (k : Int)) ∧ W.cell? ⟨R, 1, none⟩ = some (.int .u32 ge)) ∧ W.cell? ⟨N, 0, none⟩ = some (.int .u16 (k : Int)) ∧ W.cell? ⟨N, 1, none⟩ = some (.int .u32 ge) ∧ W.cell? ⟨N, 2, none⟩ = some (.int .u8 ty) ∧ W.cell? ⟨N, 3, none⟩ = some (.int .u64 ba) ∧ W.cell? ⟨N, 4, none⟩ = some (.int .u64 si) ∧ W.cell? ⟨N, 5, none⟩ = some (.int .u16 (p1 : Int)) ∧ W.cell? ⟨N, 6, none⟩ = some (.int .u32 p2)) := fun W hW => by
          have h7 := (hW.block N (heap_lt hN11)).trans hN11
          obtain ⟨s0, s1, _, _⟩ := two_cells ((hW.block R (heap_lt hR11)).trans hR11)
          exact ⟨⟨s0, s1⟩, box_cell h7 0, box_cell h7 1, box_cell h7 2, box_cell h7 3, box_cell h7 4, box_cell h7 5, box_cell h7 6⟩
        have HNl : Hid (N < w11.heap.size) := heap_lt hN11
        have HRl : Hid (R < w11.heap.size) := heap_lt hR11
        have xq := eq_ref k ge
        obtain ⟨⟨s0, s1⟩, t0, t1, t2, t3, t4, t5, t6⟩ := KS.out w11 (Below.refl _ _)
        clear hR11 hN11
        go_region_held3 (fun w' => w'.cell? ⟨R, 0, none⟩ = some (.int .u16 (k : Int)) ∧ w'.cell? ⟨R, 1, none⟩ = some (.int .u32 ge) ∧ w'.cell? ⟨N, 0, none⟩ = some (.int .u16 (k : Int)) ∧ w'.cell? ⟨N, 1, none⟩ = some (.int .u32 ge) ∧ w'.cell? ⟨N, 2, none⟩ = some (.int .u8 ty)) (go_keep)
          ((go_at_call 91; refine (HT.out _ (Below.thr HO11.out.bel (below_d _))).mono ?_; rintro e w12 ⟨rfl, hb12⟩; have HB12 := hideIt (Below.thr (below_d w11) hb12); obtain ⟨⟨u0, u1⟩, v0, v1, v2, v3, v4, v5, v6⟩ := KS.out w12 HB12.out; clear hb12))
        have HO12 := hideIt (HO11.out.below HB12.out)
        obtain ⟨c1, f1⟩ := HO12.out.ent hlt 1 (.int .u8 0) rfl
        obtain ⟨c2, f2⟩ := HO12.out.ent hlt 2 (.int .u64 0) rfl
        obtain ⟨c3, f3⟩ := HO12.out.ent hlt 3 (.int .u64 0) rfl
        have nNB : N ≠ B := HNB.out
        have HO16 := hideIt (((HO12.out.fld2 hlt 1 (by omega) ⟨ge, ty, 0, 0, 65535, []⟩ rfl rfl (fun j hj => by
          match j, hj with
          | 0, _ => rfl
          | 1, hj => exact absurd rfl hj
          | j + 2, _ => rfl)).fld2 hlt 2 (by omega) ⟨ge, ty, ba, 0, 65535, []⟩ rfl rfl (fun j hj => by
          match j, hj with
          | 0, _ => rfl
          | 1, _ => rfl
          | 2, hj => exact absurd rfl hj
          | j + 3, _ => rfl)).fld2 hlt 3 (by omega) ⟨ge, ty, ba, si, 65535, []⟩ rfl rfl (fun j hj => by
          match j, hj with
          | 0, _ => rfl
          | 1, _ => rfl
          | 2, _ => rfl
          | 3, hj => exact absurd rfl hj
          | j + 4, _ => rfl))
        have KB : Hid (∀ W, ∀ b o x, b ≠ B → ((W : World).setCell ⟨B, o, none⟩ x).heap[b]? = W.heap[b]?) := fun W b o x hn => Below.heap_setCell _ _ _ _ (show ¬ b = B from hn)
        have KC : Hid (∀ W : World, W.heap[N]? = w12.heap[N]? → W.cell? ⟨N, 2, none⟩ = some (.int .u8 ty) ∧ W.cell? ⟨N, 3, none⟩ = some (.int .u64 ba) ∧ W.cell? ⟨N, 4, none⟩ = some (.int .u64 si)) := fun W hW => ⟨(World.cell?_of_block (a := ⟨N, 2, none⟩) hW).trans v2, (World.cell?_of_block (a := ⟨N, 3, none⟩) hW).trans v3, (World.cell?_of_block (a := ⟨N, 4, none⟩) hW).trans v4⟩
        have K1 := hideIt (KC.out (w12.setCell ⟨B, k * 6 + 1, none⟩ (.int .u8 ty)).drew (KB.out w12 N _ _ nNB))
        have K2 := hideIt (KC.out ((w12.setCell ⟨B, k * 6 + 1, none⟩ (.int .u8 ty)).setCell ⟨B, k * 6 + 2, none⟩ (.int .u64 ba)).drew ((KB.out _ N _ _ nNB).trans (KB.out w12 N _ _ nNB)))
        have K3 := hideIt (KC.out (((w12.setCell ⟨B, k * 6 + 1, none⟩ (.int .u8 ty)).setCell ⟨B, k * 6 + 2, none⟩ (.int .u64 ba)).setCell ⟨B, k * 6 + 3, none⟩ (.int .u64 si)).drew ((KB.out _ N _ _ nNB).trans ((KB.out _ N _ _ nNB).trans (KB.out w12 N _ _ nNB))))
        clear HT KS HO11 xq s0 s1 t0 t1 t2 t3 t4 t5 t6
        go_wp2_with fail
        go_region_held3 (fun w' => w'.cell? ⟨N, 2, none⟩ = some (.int .u8 ty) ∧ w'.cell? ⟨N, 3, none⟩ = some (.int .u64 ba) ∧ w'.cell? ⟨N, 4, none⟩ = some (.int .u64 si)) (first | exact K3.out | exact K2.out | exact K1.out | go_keep) (fail)
        have HO17 := hideIt (HO16.out.below (below_d _))
        have hNb : (((w12.setCell ⟨B, k * 6 + 1, none⟩ (.int .u8 ty)).setCell ⟨B, k * 6 + 2, none⟩ (.int .u64 ba)).setCell ⟨B, k * 6 + 3, none⟩ (.int .u64 si)).drew.heap[N]? = w12.heap[N]? := (KB.out _ N _ _ nNB).trans ((KB.out _ N _ _ nNB).trans (KB.out w12 N _ _ nNB))
        have hRb : (((w12.setCell ⟨B, k * 6 + 1, none⟩ (.int .u8 ty)).setCell ⟨B, k * 6 + 2, none⟩ (.int .u64 ba)).setCell ⟨B, k * 6 + 3, none⟩ (.int .u64 si)).drew.heap[R]? = w12.heap[R]? := (KB.out _ R _ _ nRB).trans ((KB.out _ R _ _ nRB).trans (KB.out w12 R _ _ nRB))
        have z0 := (World.cell?_of_block (a := ⟨R, 0, none⟩) hRb).trans u0
        have z1 := (World.cell?_of_block (a := ⟨R, 1, none⟩) hRb).trans u1
        have z2 := (World.cell?_of_block (a := ⟨N, 2, none⟩) hNb).trans v2
        have z5 := (World.cell?_of_block (a := ⟨N, 5, none⟩) hNb).trans v5
        have z6 := (World.cell?_of_block (a := ⟨N, 6, none⟩) hNb).trans v6
        clear hNb hRb K1 K2 K3 KB KC c1 c2 c3 f1 f2 f3 HO12 HO16 HB12 u0 u1 v0 v1 v2 v3 v4 v5 v6
        generalize (((w12.setCell ⟨B, k * 6 + 1, none⟩ (.int .u8 ty)).setCell ⟨B, k * 6 + 2, none⟩ (.int .u64 ba)).setCell ⟨B, k * 6 + 3, none⟩ (.int .u64 si)).drew = w18 at *
        have HNl18 : Hid (N < w18.heap.size) := cell_lt z2
        have HRl18 : Hid (R < w18.heap.size) := cell_lt z0
        rcases HPR.out with ⟨hp0, hp1, hp2⟩ | ⟨p, p3, hp0, hp1, hp2, hpv⟩
        · subst hp0 hp1 hp2
          have xq0 : ∀ w, (binOp .neq 32 (.agg #[.int .u16 0, .int .u32 0]) (.agg #[.int .u16 0, .int .u32 0])).run Tryz.prog w = .ok (.bool false) w := eq_ref 0 0
          have HO18 := HO17
          clear HPR HO17
          -- the words
          go_upto_region 26 with fail
          go_wp2_with fail
          go_at_call 63
          refine (HLA.out w18 HO18.out.bel).mono ?_
          rintro e w19 ⟨v19, rfl, hown19, hb19⟩
          obtain ⟨g19, hwd19, hg19⟩ := OwnK.wdv hown19
          obtain ⟨a19, c19, hf19⟩ := hown19.shape
          subst hf19
          obtain ⟨az, cz, cw19, fw19⟩ := (HO18.out.below hb19).wcell hlt rfl
          have HO20 := hideIt (HO18.out.wset2 hb19 hlt hwd19 hg19)
          have hRb20 : (w19.setCell ⟨B, k * 6 + 5, none⟩ (.slice a19 wd.length c19)).heap[R]? = w18.heap[R]? := (Below.heap_setCell _ _ _ _ (show ¬ R = B from nRB)).trans (hb19.block R HRl18.out)
          have hNb20 : (w19.setCell ⟨B, k * 6 + 5, none⟩ (.slice a19 wd.length c19)).heap[N]? = w18.heap[N]? := (Below.heap_setCell _ _ _ _ (show ¬ N = B from nNB)).trans (hb19.block N HNl18.out)
          have y0 := (World.cell?_of_block (a := ⟨R, 0, none⟩) hRb20).trans z0
          have y1 := (World.cell?_of_block (a := ⟨R, 1, none⟩) hRb20).trans z1
          have y2 := (World.cell?_of_block (a := ⟨N, 2, none⟩) hNb20).trans z2
          have y3 : (w19.setCell ⟨B, k * 6 + 5, none⟩ (.slice a19 wd.length c19)).cell? ⟨B, k * 6 + 5, none⟩ = some (.slice a19 wd.length c19) := set_same cw19
          clear hown19 hwd19 hg19 hb19 HLA HO18 hRb20 hNb20 z0 z1 z2
          go_upto_region 27 with fail
          generalize w19.setCell ⟨B, k * 6 + 5, none⟩ (.slice a19 wd.length c19) = w20 at *
          obtain ⟨vv, hvc, hvu⟩ := HO20.out.words hlt
          have hvv : vv = .slice a19 wd.length c19 := by rw [y3] at hvc; exact (Option.some.inj hvc).symm
          subst hvv
          have HVU := hideIt hvu
          have K20 : Hid (∀ W, Below w20.heap.size w20 W → W.cell? ⟨R, 0, none⟩ = some (.int .u16 (k : Int)) ∧ W.cell? ⟨R, 1, none⟩ = some (.int .u32 ge) ∧ W.cell? ⟨N, 2, none⟩ = some (.int .u8 ty) ∧ W.cell? ⟨B, k * 6 + 5, none⟩ = some (.slice a19 wd.length c19)) := fun W hW => ⟨(hW.cell (p := ⟨R, 0, none⟩) (cell_lt y0)).trans y0, (hW.cell (p := ⟨R, 1, none⟩) (cell_lt y1)).trans y1, (hW.cell (p := ⟨N, 2, none⟩) (cell_lt y2)).trans y2, (hW.cell (p := ⟨B, k * 6 + 5, none⟩) (cell_lt y3)).trans y3⟩
          clear hvc hvu cw19 fw19
          go_region_held3 (fun w' => w'.cell? ⟨R, 0, none⟩ = some (.int .u16 (k : Int)) ∧ w'.cell? ⟨R, 1, none⟩ = some (.int .u32 ge) ∧ w'.cell? ⟨N, 2, none⟩ = some (.int .u8 ty) ∧ w'.cell? ⟨B, k * 6 + 5, none⟩ = some (.slice a19 wd.length c19)) (first | exact K20.out _ HB22.out | exact K20.out _ HB21.out | exact K20.out _ (below_d _))
            (first
              | (go_at_call 93; refine (HTW.out _ (Below.thr HO20.out.bel (below_d _))).mono ?_; rintro e w21 ⟨v21, rfl, hu21, hb21⟩; have HB21 := hideIt (Below.thr (below_d w20) hb21); have HSW := hideIt (sameWords_x (Sq.below HVU.out HB21.out : IsU 0 w21 _ wd) hu21 HWl.out); obtain ⟨a21, c21, hf21, _⟩ := hu21; subst hf21; clear hb21)
              | (go_at_call 92; refine HSW.out.mono ?_; rintro e w22 ⟨rfl, hb22⟩; have HB22 := hideIt (Below.thr HB21.out hb22); clear hb22))
          have HO23 := hideIt (HO20.out.below HB22.out)
          go_wp2_with fail
          go_roundw
          case rel => exact ⟨k + 1, by omega, rfl, by go_num, by rw [HMX.out, HLe.out]; exact HO23.out⟩
          case measure => simp [intOf]; omega
        · subst hp0 hp1
          have HPV := hideIt hpv
          have xq1 := neq_ref (p1 : Int) 0 hp2
          have hpw : IntKind.i64.wrap (p1 : Int) = (p1 : Int) := by unfold IntKind.wrap; simp [IntKind.bits, IntKind.signed]; omega
          have hpz : pz (p1 : Int) = (p1 : Int) := by unfold pz; rw [if_neg (by omega)]
          have HPZ : Hid (pz (p1 : Int) = (p1 : Int)) := hpz
          clear HPR hpv hpz
          go_upto_region 23 with fail
          go_wp2_with fail
          go_at_call 23
          refine (HPV.out w18 HO17.out.bel).mono ?_
          rintro e w17 ⟨rfl, hb17⟩
          obtain ⟨c4, f4⟩ := (HO17.out.below hb17).ent hlt 4 (.int .i64 (-1)) rfl
          have HOx := hideIt ((HO17.out.below hb17).fld2 hlt 4 (by omega) ⟨ge, ty, ba, si, (p1 : Int), []⟩ rfl (x := .int .i64 (p1 : Int)) (by show some (Value.int .i64 (pz (p1 : Int))) = _; rw [HPZ.out]) (fun j hj => by
            match j, hj with
            | 0, _ => rfl
            | 1, _ => rfl
            | 2, _ => rfl
            | 3, _ => rfl
            | 4, hj => exact absurd rfl hj
            | j + 5, _ => rfl))
          have x0 := (hb17.cell (p := ⟨R, 0, none⟩) (cell_lt z0)).trans z0
          have x1 := (hb17.cell (p := ⟨R, 1, none⟩) (cell_lt z1)).trans z1
          have x2 := (hb17.cell (p := ⟨N, 2, none⟩) (cell_lt z2)).trans z2
          have x5 := (hb17.cell (p := ⟨N, 5, none⟩) (cell_lt z5)).trans z5
          have hRb7 : (w17.setCell ⟨B, k * 6 + 4, none⟩ (.int .i64 (p1 : Int))).heap[R]? = w17.heap[R]? := Below.heap_setCell _ _ _ _ (show ¬ R = B from nRB)
          have hNb7 : (w17.setCell ⟨B, k * 6 + 4, none⟩ (.int .i64 (p1 : Int))).heap[N]? = w17.heap[N]? := Below.heap_setCell _ _ _ _ (show ¬ N = B from nNB)
          clear z0 z1 z2
          have z0 := (World.cell?_of_block (a := ⟨R, 0, none⟩) hRb7).trans x0
          have z1 := (World.cell?_of_block (a := ⟨R, 1, none⟩) hRb7).trans x1
          have z2 := (World.cell?_of_block (a := ⟨N, 2, none⟩) hNb7).trans x2
          clear hb17 HPV HO17 x0 x1 x2 hRb7 hNb7 z5 z6 HNl18 HRl18
          go_upto_region 26 with fail
          generalize w17.setCell ⟨B, k * 6 + 4, none⟩ (.int .i64 (p1 : Int)) = w18 at *
          have HO18 := HOx
          have HNl18 : Hid (N < w18.heap.size) := cell_lt z2
          have HRl18 : Hid (R < w18.heap.size) := cell_lt z0
          clear HOx
          -- the words
          go_wp2_with fail
          go_at_call 63
          refine (HLA.out w18 HO18.out.bel).mono ?_
          rintro e w19 ⟨v19, rfl, hown19, hb19⟩
          obtain ⟨g19, hwd19, hg19⟩ := OwnK.wdv hown19
          obtain ⟨a19, c19, hf19⟩ := hown19.shape
          subst hf19
          obtain ⟨az, cz, cw19, fw19⟩ := (HO18.out.below hb19).wcell hlt rfl
          have HO20 := hideIt (HO18.out.wset2 hb19 hlt hwd19 hg19)
          have hRb20 : (w19.setCell ⟨B, k * 6 + 5, none⟩ (.slice a19 wd.length c19)).heap[R]? = w18.heap[R]? := (Below.heap_setCell _ _ _ _ (show ¬ R = B from nRB)).trans (hb19.block R HRl18.out)
          have hNb20 : (w19.setCell ⟨B, k * 6 + 5, none⟩ (.slice a19 wd.length c19)).heap[N]? = w18.heap[N]? := (Below.heap_setCell _ _ _ _ (show ¬ N = B from nNB)).trans (hb19.block N HNl18.out)
          have y0 := (World.cell?_of_block (a := ⟨R, 0, none⟩) hRb20).trans z0
          have y1 := (World.cell?_of_block (a := ⟨R, 1, none⟩) hRb20).trans z1
          have y2 := (World.cell?_of_block (a := ⟨N, 2, none⟩) hNb20).trans z2
          have y3 : (w19.setCell ⟨B, k * 6 + 5, none⟩ (.slice a19 wd.length c19)).cell? ⟨B, k * 6 + 5, none⟩ = some (.slice a19 wd.length c19) := set_same cw19
          clear hown19 hwd19 hg19 hb19 HLA HO18 hRb20 hNb20 z0 z1 z2
          go_upto_region 27 with fail
          generalize w19.setCell ⟨B, k * 6 + 5, none⟩ (.slice a19 wd.length c19) = w20 at *
          obtain ⟨vv, hvc, hvu⟩ := HO20.out.words hlt
          have hvv : vv = .slice a19 wd.length c19 := by rw [y3] at hvc; exact (Option.some.inj hvc).symm
          subst hvv
          have HVU := hideIt hvu
          have K20 : Hid (∀ W, Below w20.heap.size w20 W → W.cell? ⟨R, 0, none⟩ = some (.int .u16 (k : Int)) ∧ W.cell? ⟨R, 1, none⟩ = some (.int .u32 ge) ∧ W.cell? ⟨N, 2, none⟩ = some (.int .u8 ty) ∧ W.cell? ⟨B, k * 6 + 5, none⟩ = some (.slice a19 wd.length c19)) := fun W hW => ⟨(hW.cell (p := ⟨R, 0, none⟩) (cell_lt y0)).trans y0, (hW.cell (p := ⟨R, 1, none⟩) (cell_lt y1)).trans y1, (hW.cell (p := ⟨N, 2, none⟩) (cell_lt y2)).trans y2, (hW.cell (p := ⟨B, k * 6 + 5, none⟩) (cell_lt y3)).trans y3⟩
          clear hvc hvu cw19 fw19
          go_region_held3 (fun w' => w'.cell? ⟨R, 0, none⟩ = some (.int .u16 (k : Int)) ∧ w'.cell? ⟨R, 1, none⟩ = some (.int .u32 ge) ∧ w'.cell? ⟨N, 2, none⟩ = some (.int .u8 ty) ∧ w'.cell? ⟨B, k * 6 + 5, none⟩ = some (.slice a19 wd.length c19)) (first | exact K20.out _ HB22.out | exact K20.out _ HB21.out | exact K20.out _ (below_d _))
            (first
              | (go_at_call 93; refine (HTW.out _ (Below.thr HO20.out.bel (below_d _))).mono ?_; rintro e w21 ⟨v21, rfl, hu21, hb21⟩; have HB21 := hideIt (Below.thr (below_d w20) hb21); have HSW := hideIt (sameWords_x (Sq.below HVU.out HB21.out : IsU 0 w21 _ wd) hu21 HWl.out); obtain ⟨a21, c21, hf21, _⟩ := hu21; subst hf21; clear hb21)
              | (go_at_call 92; refine HSW.out.mono ?_; rintro e w22 ⟨rfl, hb22⟩; have HB22 := hideIt (Below.thr HB21.out hb22); clear hb22))
          have HO23 := hideIt (HO20.out.below HB22.out)
          go_wp2_with fail
          go_roundw
          case rel => exact ⟨k + 1, by omega, rfl, by go_num, by rw [HMX.out, HLe.out]; exact HO23.out⟩
          case measure => simp [intOf]; omega
    · obtain rfl : k = 320 := by omega
      have HO := hideIt hO
      have HLv : Hid (Calls Tryz.prog 94 #[.pointer (some ⟨A, 0, none⟩)] wr fun e w' => ∃ v, e = .returned v ∧ ROwn wr.heap.size w' v (lvR M 320) ∧ Below wr.heap.size wr w') := by
        show Calls _ _ _ _ _
        rw [HMe.out]
        exact Live_x (HM.out.below hO.bel) HS.out.ix
      clear hO
      go_wp2_with fail
      go_at_call 94
      refine HLv.out.mono ?_
      rintro e w2 ⟨v2, rfl, hown2, hb2⟩
      have HO2 := hideIt (HO.out.below hb2)
      obtain ⟨la, lc, cl2, fl2, ownL, neLB, lL, lLs⟩ := HO2.out.cells
      obtain ⟨ga, gc, hf2⟩ := own_formD hown2
      subst hf2
      have HG1 := hideIt (hown2.isr (Nat.zero_le _))
      have HG2 := hideIt (ownL.isr (Nat.zero_le _))
      have HownL := hideIt ownL
      have HCL := hideIt cl2
      have HLL := hideIt (lvR_le M 320)
      clear hown2 hb2 ownL HLv HO
      obtain ⟨l, hl⟩ : ∃ l, l = lvR M 320 := ⟨_, rfl⟩
      rw [← hl] at HG1 HG2 HO2 HownL HCL HLL cl2
      rw [← hl]
      have HLe : Hid (l = lvR M 320) := hl
      clear hl
      go_wp2_with fail
      clear cl2 fl2
      go_loopw [2, 147] (fun v2 v147 wr => ∃ j : Nat, j ≤ l.length ∧ v2 = .pointer (some ⟨B, 0, none⟩) ∧ v147 = .int .i64 (j : Int) ∧ Below w2.heap.size w2 wr) (fun _ i _ => l.length - (intOf i).toNat)
      case atStart => exact ⟨0, Nat.zero_le _, rfl, rfl, Below.refl _ _⟩
      case round =>
        obtain ⟨j, hj, rfl, rfl, hbr⟩ := hrel
        have HBR := hideIt hbr
        have clr := (hbr.cell (p := ⟨Lb, 0, none⟩) (cell_lt HCL.out)).trans HCL.out
        by_cases hlj : j < l.length
        · have hlj' : (j : Int) < (l.length : Int) := by omega
          obtain ⟨a1, c1, e1, g1'⟩ := HG1.out
          obtain ⟨b1, o1, e1', _, g1⟩ := g1' (by omega)
          obtain ⟨a3, c3, e3, g3'⟩ := HG2.out
          obtain ⟨b3, o3, e3', _, g3⟩ := g3' (by omega)
          injection e1 with e1a e1b e1c
          injection e3 with e3a e3b e3c
          clear e1b e3b
          subst e1c e3c e1a e3a e1' e3'
          obtain ⟨q1, q2⟩ := refL_get (List.getElem?_eq_getElem hlj)
          have x0 := (hbr.cell (p := ⟨b1, o1 + j * 2, none⟩) (cell_lt (g1 _ _ q1))).trans (g1 _ _ q1)
          have x1 := (hbr.cell (p := ⟨b1, o1 + (j * 2 + 1), none⟩) (cell_lt (g1 _ _ q2))).trans (g1 _ _ q2)
          have x2 := (hbr.cell (p := ⟨b3, o3 + j * 2, none⟩) (cell_lt (g3 _ _ q1))).trans (g3 _ _ q1)
          have x3 := (hbr.cell (p := ⟨b3, o3 + (j * 2 + 1), none⟩) (cell_lt (g3 _ _ q2))).trans (g3 _ _ q2)
          have xe := eq_ref (l[j]).1 (l[j]).2 wr
          have xd := eq_ref (l[j]).1 (l[j]).2 wr.drew
          clear q1 q2 g1 g3 g1' g3' hbr
          generalize (l[j]).1 = ri at *
          generalize (l[j]).2 = rg at *
          rw [← Nat.add_assoc] at x1 x3
          have hj9 : j < 320 := by have := HLL.out; omega
          go_wp2_with fail
          go_region
          all_goals
            go_wp2_with fail
            go_roundw
            case rel => exact ⟨j + 1, by omega, rfl, by go_num, Below.thr HBR.out (below_d _)⟩
            case measure => simp [intOf]; omega
        · obtain rfl : j = l.length := by omega
          have hO3 := HO2.out.below hbr
          have hO3' := hideIt hO3.bel
          have bN := alloc_below (w := wr) (.cells #[.int .i64 0] 3)
          have hnn := heap_new wr (.cells #[.int .i64 0] 3)
          have clN := (bN.cell (p := ⟨Lb, 0, none⟩) (cell_lt clr)).trans clr
          have isL := ((HG2.out.below hbr).below bN)
          have hcnt : Cnt (wr.alloc (.cells #[.int .i64 0] 3)) wr.heap.size Lb 0 l := ⟨hnn, ⟨_, clN, isL⟩, fun v hv b o m c hvb => by
            rw [clN] at hv
            obtain rfl := Option.some.inj hv
            have := (owns_lt (HownL.out.below hbr) b (by rw [hvb]; rfl)).2
            omega, by have : Lb < wr.heap.size := cell_lt clr; omega⟩
          have hms := HM.out.below (Below.thr hO3.bel bN)
          have HEa : Hid (Calls Tryz.prog 95 #[.pointer (some ⟨A, 0, none⟩), .int .u8 0, .func (.func 96) #[] #[.pointer (some ⟨wr.heap.size, 0, none⟩), .pointer (some ⟨Lb, 0, none⟩)]] (wr.alloc (.cells #[.int .i64 0] 3)) fun e w' => e = .returned (.tuple #[]) ∧ Cnt w' wr.heap.size Lb l.length l ∧ Ext (wr.alloc (.cells #[.int .i64 0] 3)).heap.size (fun x => x = wr.heap.size) (wr.alloc (.cells #[.int .i64 0] 3)) w') := by
            have hcn := hcnt
            rw [HLe.out, HMe.out] at hcn
            have hnt : ¬ Tz A rb sb wr.heap.size := fun q => by have := (HM.out.below hO3.bel).tzlt _ q; omega
            have := each_x hms HS.out.iv hcn hnt
            rw [HLe.out, HMe.out]
            exact this
          have HFin : Hid (∀ w5, Ext (wr.alloc (.cells #[.int .i64 0] 3)).heap.size (fun x => x = wr.heap.size) (wr.alloc (.cells #[.int .i64 0] 3)) w5 → ∀ w6, Below w5.heap.size w5 w6 → ObP M w (.returned (.tuple #[.pointer (some ⟨B, 0, none⟩), .bool true])) w6) := fun w5 he w6 hb6 => by
            obtain ⟨D, v, hSp, ⟨wb, hm, hd⟩, _⟩ := hO3
            have hsz : wr.heap.size < (wr.alloc (.cells #[.int .i64 0] 3)).heap.size := by simp
            have tl' : ∀ b, Tm B wb (mx M 320) b → b < wr.heap.size := fun b q => hm.tlt q
            have hm5 := ((hm.below bN).ext he (fun b q z => by have := tl' b q; omega)).below hb6
            have hb5 : Below w.heap.size w w5 := (Below.thr hO3'.out bN).trans (he.below' (Nat.le_trans hO3'.out.size (Nat.le_of_lt hsz)) (fun b hb z => by have := hO3'.out.size; omega))
            refine ⟨B, wb, rfl, hm5.congr (fun i hi => (if_pos hi).symm), fun b q => (hSp.lo 0 b (hd b ?_)).1, hb5.trans (hb6.mono hb5.size)⟩
            rcases q with q | ⟨a, ha, hwa, e⟩
            · exact Or.inl q
            · exact Or.inr ⟨a, ha, by rw [show mx M 320 a = M a from if_pos ha]; exact hwa, e⟩
          clear hbr clr hO3 hnn clN isL hcnt hms bN
          go_wp2_with fail
          go_at_call 95
          refine HEa.out.mono ?_
          rintro e w5 ⟨rfl, hc5, he5⟩
          obtain ⟨v5, hv5, ⟨a5, c5, hf5, _⟩⟩ := hc5.lc
          subst hf5
          have cn5 : w5.cell? ⟨wr.heap.size, 0, none⟩ = some (.int .i64 (l.length : Int)) := cell_of_one hc5.nc
          have HF5 := hideIt (HFin.out w5 he5)
          clear hc5 he5 HEa HFin
          go_wp2_with fail
          go_quiet (fail)
          go_wp2_with fail
          exact bodyPost_ret (by simp [results, Tryz.results21] <;> (first | rfl | exact ⟨rfl, rfl⟩)) rfl (HF5.out _ (below_dn' _ _))
end
end Go.Proofs.Qxb6500847aGreatDoor.Os
