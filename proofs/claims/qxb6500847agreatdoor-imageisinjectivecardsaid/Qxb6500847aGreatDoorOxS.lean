/-
  release, with places and counters.
-/
import Derived.Test.Qxb6500847aGreatDoorOxF
namespace Go.Proofs.Qxb6500847aGreatDoor.Os
open Go.RowKit FloorA
set_option maxRecDepth 100000
theorem setTi_same (s : Av) (j : Nat) : s.setTi j (s.ti j) = s := by
  have e : (fun i => if i = j then s.ti j else s.ti i) = s.ti := by
    funext i
    by_cases q : i = j
    · rw [if_pos q, q]
    · rw [if_neg q]
  unfold Av.setTi
  rw [e]
section
variable {A : Nat} {rb sb : Nat → Nat} {s : Av} {tl : Nat → List Int} {ws : Nat → Nat → Nat → Int} {w : World} {D : Nat → Prop} {L : Nat → List Nat} {p c : Nat} {l1 l2 : List Nat}
theorem detach_x (h : Ms w A rb sb s tl ws) (hT : Tr s D L) (hp : IsReg s p) (hL : L p = l1 ++ c :: l2) :
    Calls Tryz.prog 247 #[.pointer (some ⟨A, 0, none⟩), .int .u16 (c : Int)] w (fun e w' => ∃ s', MsPost s' A rb sb tl ws w e w' ∧ Tr s' (fun x => D x ∧ x ≠ c) (updL L p (l1 ++ l2)) ∧ Fr s s' ∧ FrX s s' p (topF s p l1 l2)) := by
  have hk := hT.lk p hp
  have nd := hT.nd p hp
  have ef := hT.fst p hp
  have el := hT.lst p hp
  rw [hL] at hk nd ef el
  rw [Lk.append] at hk
  obtain ⟨k1, ⟨c320, ct, cp, cv, cn⟩, k2⟩ := hk
  rw [List.nodup_append, List.nodup_cons] at nd
  obtain ⟨nd1, ⟨nc2, nd2⟩, nd12⟩ := nd
  have nc1 : c ∉ l1 := fun q => nd12 c q c (List.mem_cons_self ..) rfl
  rcases snoc_cases l1 with rfl | ⟨m, a, rfl⟩
  · cases l2 with
    | nil =>
      refine (det_nn h hp.1 hp.2.1 c320 cp cv cn).mono ?_
      intro e w' q
      exact ⟨_, q, hT.cut (top := (s.hd p).bas) hp hL (Fr.ofR _ _ _) (fun _ _ _ => rfl) (fun i hi => by simp [Av.setRg, hi]) trivial (by simp [Av.setRg, hOr, lOr]), Fr.ofR _ _ _, ⟨rfl, rfl, rfl, rfl, rfl, fun i hi => by simp [Av.setRg, hi], by simp [Av.setRg, topF]⟩⟩
    | cons b r =>
      have hb := k2.1.1
      refine (det_nb h hp.1 hp.2.1 c320 cp cv cn hb).mono ?_
      intro e w' q
      refine ⟨_, q, hT.cut (top := (s.rg (p - 256)).top) hp hL (Fr.setP _ _ _ _ _) (fun x _ n2 => ?_) (fun i hi => by simp [Av.setRg, Av.setHd, hi]) ?_ ?_, Fr.setP _ _ _ _ _, ⟨rfl, rfl, rfl, rfl, rfl, fun i hi => by simp [Av.setRg, Av.setHd, hi], by simp [Av.setRg, Av.setHd, topF]⟩⟩
      · have : x ≠ b := fun e => n2 (e ▸ List.mem_cons_self ..)
        simp [Av.setRg, Av.setHd, this]
      · refine k2.reP (fun x hx => ?_) ?_
        · have : x ≠ b := fun e => (List.nodup_cons.1 nd2).1 (e ▸ hx)
          simp [Av.setRg, Av.setHd, this]
        · simp [Av.setRg, Av.setHd]
      · rw [el]
        simp [Av.setRg, hOr, lOr]
  · have hk1 := k1
    rw [Lk.append] at hk1
    have ha := hk1.2.1.1
    have hac : a ≠ c := fun e => nc1 (by simp [e])
    have hma : a ∉ m := fun q => by
      rw [List.nodup_append] at nd1
      exact nd1.2.2 a q a (by simp) rfl
    rw [lOr_snoc] at cv
    cases l2 with
    | nil =>
      refine (det_an h hp.1 hp.2.1 c320 cp cv cn ha hac).mono ?_
      intro e w' q
      refine ⟨_, q, hT.cut (top := IntKind.u64.wrap ((s.hd a).bas + (s.hd a).siz)) hp hL (Fr.setN _ _ _ _ _) (fun x n1 _ => ?_) (fun i hi => by simp [Av.setRg, Av.setHd, hi]) ?_ ?_, Fr.setN _ _ _ _ _, ⟨rfl, rfl, rfl, rfl, rfl, fun i hi => by simp [Av.setRg, Av.setHd, hi], by simp [Av.setRg, Av.setHd, topF]⟩⟩
      · have : x ≠ a := fun e => n1 (by simp [e])
        simp [Av.setRg, Av.setHd, this]
      · rw [List.append_nil]
        refine k1.reN (fun x hx => ?_) ?_
        · have : x ≠ a := fun e => hma (e ▸ hx)
          simp [Av.setRg, Av.setHd, this]
        · simp [Av.setRg, Av.setHd]
      · rw [ef, List.append_nil, lOr_snoc]
        simp [Av.setRg]
        cases m <;> rfl
    | cons b r =>
      have hb := k2.1.1
      have hbc : b ≠ c := fun e => nc2 (e ▸ List.mem_cons_self ..)
      have hab : a ≠ b := fun e => nd12 a (by simp) b (by simp) e
      refine (det_ab h hp.1 hp.2.1 c320 cp cv cn ha hac hb hbc hab).mono ?_
      intro e w' q
      refine ⟨_, q, hT.cut (top := (s.rg (p - 256)).top) hp hL (Fr.setNP _ _ _ _ _ hab) (fun x n1 n2 => ?_) (fun i hi => by simp [Av.setRg, Av.setHd, hi]) ?_ ?_, Fr.setNP _ _ _ _ _ hab, ⟨rfl, rfl, rfl, rfl, rfl, fun i hi => by simp [Av.setRg, Av.setHd, hi], by simp [Av.setRg, Av.setHd, topF]⟩⟩
      · have e1 : x ≠ a := fun e => n1 (by simp [e])
        have e2 : x ≠ b := fun e => n2 (by simp [e])
        simp [Av.setRg, Av.setHd, e1, e2]
      · rw [Lk.append, lOr_snoc]
        refine ⟨k1.reN (fun x hx => ?_) ?_, k2.reP (fun x hx => ?_) ?_⟩
        · have e1 : x ≠ a := fun e => hma (e ▸ hx)
          have e2 : x ≠ b := fun e => nd12 x (by simp [hx]) b (by simp) e
          simp [Av.setRg, Av.setHd, e1, e2]
        · simp [Av.setRg, Av.setHd, hab, hOr]
        · have e1 : x ≠ a := fun e => nd12 a (by simp) x (by simp [hx]) e.symm
          have e2 : x ≠ b := fun e => (List.nodup_cons.1 nd2).1 (e ▸ hx)
          simp [Av.setRg, Av.setHd, e1, e2]
        · have : ¬ b = a := fun e => hab e.symm
          simp [Av.setRg, Av.setHd]
      · rw [ef, el]
        simp [Av.setRg, lOr_append, lOr]
        cases m <;> rfl
end
section
variable {A : Nat} {rb sb : Nat → Nat} {s : Av} {tl : Nat → List Int} {ws : Nat → Nat → Nat → Int} {w : World} {L : Nat → List Nat} {n p c : Nat}
/-- An unlinked entry is vacated. -/
theorem vac_x {D : Nat → Prop} {s1 : Av} (h : Ms w A rb sb s1 tl ws) (hg : Ge s1) (hb : Tb s1 tl) (hT : Tr s1 D L) (hR : Ro s1 D n) (hk : ∃ r, Rk s1 r) (hc : c < 320) (ht : (s1.hd c).typ ≠ 0) (hD : ∀ x, x < 320 → (D x ↔ Lv s1 x ∧ x ≠ c)) (hn : ∀ i, i < n → s1.rts i ≠ (c : Int)) (he : IsReg s1 c → L c = []) (hG : Gm s1 L n) (hC : Ct s1 tl D) :
    Calls Tryz.prog 248 #[.pointer (some ⟨A, 0, none⟩), .int .u16 (c : Int)] w (fun e w' => e = .returned (.tuple #[]) ∧ ∃ s' tl', Ms w' A rb sb s' tl' ws ∧ Ext w.heap.size (Tz A rb sb) w w' ∧ IV s' tl' L n ∧ IX s' tl' L n ∧ (∀ x, s'.hd x = if x = c then ⟨nxG s1 c, 0, 0, 65535, 65535, 65535, 0, 0⟩ else s1.hd x)) := by
  have ncD : ¬ D c := fun q => ((hD c hc).1 q).2 rfl
  have fin : ∀ (s2 : Av) (tl2 : Nat → List Int), Ge s2 → Tb s2 tl2 → (∀ x, s2.hd x = if x = c then ⟨nxG s1 c, 0, 0, 65535, 65535, 65535, 0, 0⟩ else s1.hd x) → s2.rg = s1.rg → s2.rts = s1.rts → s2.nrt = s1.nrt → IV s2 tl2 L n := by
    intro s2 tl2 a1 a2 a3 a4 a5 a6
    have h1 : ∀ x, x ≠ c → s2.hd x = s1.hd x := fun x e => by rw [a3, if_neg e]
    have h2 : (s2.hd c).typ = 0 := by rw [a3, if_pos rfl]
    have hDL : ∀ x, x < 320 → (D x ↔ Lv s2 x) := fun x hx => by
      rw [hD x hx]
      unfold Lv
      by_cases e : x = c
      · subst e; simp [h2]
      · rw [h1 x e]; simp [e]
    refine ⟨a1, a2, (hT.vac ncD he h1 h2 a4).congrD hDL, hR.other h1 hn a5 a6 (fun x hx _ => (hDL x hx).symm) (fun q => absurd h2 q), ?_⟩
    obtain ⟨r, hr⟩ := hk
    refine ⟨r, fun x q hx hl hp hq => ?_⟩
    have e : x ≠ c := fun e => hl (by rw [e]; exact h2)
    rw [h1 x e] at hl hp
    exact hr x q hx hl hp hq
  have gg : nxG s1 c = (s1.hd c).gen + 1 ∧ (s1.hd c).gen < 4294967295 := by
    obtain ⟨g, eg, g1, g2, g3⟩ := hg.gen c hc
    have g4 := g3 (Or.inl ht)
    exact ⟨by unfold nxG; rw [eg]; omega, by omega⟩
  have fix : ∀ (k j : Nat) (x : Value) (tl2 : Nat → List Int), 1 ≤ k → k ≤ 7 → (s1.hd c).typ = (k : Int) → (k = 1 ↔ 256 ≤ c) → (∀ t, t < 6 → ((tl2 t).length : Int) = (tl t).length + one (k = t + 2)) → IX (vacS (s1.setTi j x) c k) tl2 L n := fun k j x tl2 k1 k7 ek kr ht2 => by
    have hh := vac_hd (s1.setTi j x) c k
    refine ⟨hG.vac hT ncD hn x j, (hC.vac hc k1 k7 ek gg ncD kr ht2 x j).congrD (fun y hy => ?_)⟩
    rw [hD y hy]
    unfold Lv
    rw [hh]
    by_cases e : y = c
    · rw [if_pos e]; exact ⟨fun q => absurd e q.2, fun q => absurd rfl q⟩
    · rw [if_neg e]; exact ⟨fun q => q.1, fun q => ⟨q, e⟩⟩
  obtain ⟨k, ek, k7, k1⟩ := hg.typ c hc
  have k0 : k ≠ 0 := fun e => ht (by rw [ek, e]; rfl)
  by_cases e1 : k = 1
  · subst e1
    have c1 := (k1 k0).1 rfl
    refine (vacate_one h hg.wd c1 hc ek).mono ?_
    rintro e w' ⟨rfl, hM, hE⟩
    obtain ⟨v1, v2, v3, v4⟩ := vac_same s1 c 1
    have fx := fix 1 0 (s1.ti 0) tl (by omega) (by omega) ek ⟨fun _ => c1, fun _ => rfl⟩ (fun t t6 => by rw [one_neg (by omega)]; omega)
    rw [setTi_same] at fx
    exact ⟨rfl, _, _, hM, hE, fin _ _ (hg.vac ht hc 1) (hb.vacR (vac_hd s1 c 1)) (vac_hd s1 c 1) v1 v2 v3, fx, vac_hd s1 c 1⟩
  · have k2 : 2 ≤ k := by omega
    have cl : c < 256 := by
      rcases Nat.lt_or_ge c 256 with q | q
      · exact q
      · exact absurd ((k1 k0).2 q) e1
    refine (vacate_obj h hg.wd cl k2 k7 ek (hb.room hc k2 k7 ek)).mono ?_
    rintro e w' ⟨rfl, hM, hE⟩
    have v0 := vac_hd (s1.setTi (k - 2) (.slice (some ⟨sb (k - 2), 0, none⟩) ((tl (k - 2)).length + 1) (nR (k - 2)))) c k
    obtain ⟨v1, v2, v3, v4⟩ := vac_same (s1.setTi (k - 2) (.slice (some ⟨sb (k - 2), 0, none⟩) ((tl (k - 2)).length + 1) (nR (k - 2)))) c k
    have hg' : Ge (s1.setTi (k - 2) (.slice (some ⟨sb (k - 2), 0, none⟩) ((tl (k - 2)).length + 1) (nR (k - 2)))) := ⟨hg.wd, hg.idl, hg.typ, hg.gen, hg.bas⟩
    exact ⟨rfl, _, _, hM, hE, fin _ _ (hg'.vac ht hc k) (hb.vacO hc k2 k7 ek v0) v0 v1 v2 v3, fix k _ _ _ (by omega) k7 ek ⟨fun q => absurd q e1, fun q => by omega⟩ (fun t t6 => by
      unfold updT
      by_cases q : t = k - 2
      · rw [if_pos q, one_pos (by omega), q, List.length_append]; rfl
      · rw [if_neg q, one_neg (by omega)]; omega), v0⟩
def RlX (A : Nat) (rb sb : Nat → Nat) (s : Av) (ws : Nat → Nat → Nat → Int) (L : Nat → List Nat) (c : Nat) (w : World) (e : Ending) (w' : World) : Prop :=
  e = .returned (.tuple #[]) ∧ ∃ s' tl' n', Ms w' A rb sb s' tl' ws ∧ Ext w.heap.size (Tz A rb sb) w w' ∧ IV s' tl' (fun q => (L q).erase c) n' ∧ IX s' tl' (fun q => (L q).erase c) n' ∧ Rel s s' c ∧ ((s'.hd c).bas = 0 ∧ (s'.hd c).siz = 0 ∧ (s'.hd c).par = 65535)
set_option maxHeartbeats 1000000 in
theorem release_x (h : Ms w A rb sb s tl ws) (hI : IV s tl L n) (hX : IX s tl L n) (hc : c < 320) (ht : (s.hd c).typ ≠ 0) (he : IsReg s c → L c = []) :
    Calls Tryz.prog 136 #[.pointer (some ⟨A, 0, none⟩), .int .u16 (c : Int)] w (RlX A rb sb s ws L c w) := by
  have e3 := h.am.par hc
  have hc' : (c : Int) < 320 := by omega
  obtain ⟨a1, a2⟩ := hI.tr.all c hc ht
  obtain ⟨g, eg, g1, g2, g3⟩ := hI.ge.gen c hc
  have g4 := g3 (Or.inl ht)
  have en : nxG s c = (s.hd c).gen + 1 := by unfold nxG; rw [eg]; omega
  by_cases hr : (s.hd c).par = 65535
  · obtain ⟨i, hi, ei⟩ := hI.ro.all c hc ht hr
    rw [hr] at e3
    have HM := hideIt h
    have HI := hideIt hI
    have HXx := hideIt hX
    clear h hI hX
    go_enter Tryz.func136, Tryz.ntmps136
    go_wp2_with fail
    go_at_call 246
    refine (removeRoot_walk HM.out hc HI.out.ro.rts hi ei).mono ?_
    rintro e w1 ⟨rfl, hM1, hE1⟩
    have hR1 := HI.out.ro.remove hi ei
    have hT1 : Tr (remS s i c n) (fun x => Lv s x ∧ x ≠ c) (fun q => (L q).erase c) := by
      have nm : ∀ q, IsReg s q → c ∉ L q := fun q hq hm => by
        have := (HI.out.tr.mem hq hm).2.2
        have := hq.2.1
        omega
      have h0 : Tr (remS s i c n) (fun x => Lv s x ∧ x ≠ c) L := by
        have t := HI.out.tr
        exact ⟨fun q hq => Lk.congr (s := s) (s' := remS s i c n) (fun _ _ => rfl) (t.lk q hq), t.fst, t.lst, t.kds, t.nd, fun q hq x hx => ⟨t.sub q hq x hx, fun e => nm q hq (e ▸ hx)⟩, fun x hx hd => t.all x hx hd.1⟩
      exact h0.congrL (fun q hq => List.erase_of_not_mem (nm q hq))
    have hG1 : Gm (remS s i c n) (fun q => (L q).erase c) (n - 1) := (HXx.out.gm.rem hi).congrL (fun q hq => List.erase_of_not_mem (fun hm => by
      have := (HI.out.tr.mem (show IsReg s q from hq) hm).2.2
      have := hq.2.1
      omega))
    have hC1 : Ct (remS s i c n) tl (fun x => Lv s x ∧ x ≠ c) := HXx.out.ct.rem hc hr ht
    have HV := hideIt (vac_x hM1 (s1 := remS s i c n) ⟨HI.out.ge.wd, HI.out.ge.idl, HI.out.ge.typ, HI.out.ge.gen, HI.out.ge.bas⟩ ⟨HI.out.tb.row, HI.out.tb.inj, HI.out.tb.stk, HI.out.tb.nd⟩ hT1 hR1 HI.out.rk hc ht (fun x _ => Iff.rfl) (fun j hj e => ((hR1.reg j c hj e).2.1.2 rfl)) (fun q => by rw [he q]; rfl) hG1 hC1)
    have HE1 := hideIt hE1
    clear hM1 hE1 hR1 hT1 hG1 hC1
    go_wp2_with fail
    go_at_call 248
    refine HV.out.mono ?_
    rintro e w2 ⟨rfl, s2, tl2, hM2, hE2, hI2, hX2, hh⟩
    have HF : Hid (RlX A rb sb s ws L c w (.returned (.tuple #[])) w2) := ⟨rfl, s2, tl2, _, hM2, HE1.out.trans hE2 HE1.out.size (fun _ _ q => q), hI2, hX2, ⟨fun x hx => by rw [hh, if_neg hx]; exact ⟨rfl, rfl, rfl, rfl, rfl, rfl⟩, by rw [hh, if_pos rfl], by rw [hh, if_pos rfl]; exact en⟩, by rw [hh, if_pos rfl]; exact ⟨rfl, rfl, rfl⟩⟩
    clear hM2 hE2 hI2 hX2 hh
    go_wp2_with fail
    exact bodyPost_ret (v := .tuple #[]) (by simp [results, Tryz.results136]) rfl HF.out
  · obtain ⟨p, hp, ep, hm⟩ := a2.resolve_left hr
    obtain ⟨l1, l2, hL⟩ := List.append_of_mem hm
    have kn : ((s.hd c).par == 65535) = false := by rw [beq_eq_false_iff_ne]; exact hr
    have HM := hideIt h
    have HI := hideIt hI
    have HXx := hideIt hX
    clear h hI hX
    go_enter Tryz.func136, Tryz.ntmps136
    go_wp2_with fail
    go_at_call 247
    refine (detach_x HM.out HI.out.tr hp hL).mono ?_
    rintro e w1 ⟨s1, ⟨rfl, hM1, hE1⟩, hT1, hF, hFX⟩
    have nd := HI.out.tr.nd p hp
    have hT2 : Tr s1 (fun x => Lv s x ∧ x ≠ c) (fun q => (L q).erase c) := hT1.congrL (fun q hq => by
      by_cases e : q = p
      · subst e
        rw [updL_at, hL]
        rw [hL, List.nodup_append] at nd
        have : c ∉ l1 := fun q => nd.2.2 c q c (List.mem_cons_self ..) rfl
        rw [List.erase_append_right _ this, List.erase_cons_head]
      · have hq0 : IsReg s q := ⟨hq.1, hq.2.1, by rw [← (hF.hd q).2.1]; exact hq.2.2⟩
        rw [updL_ne e]
        exact List.erase_of_not_mem (fun q2 => HI.out.tr.par_ne hp hq0 e q2 hm rfl))
    have hR1 : Ro s1 (fun x => Lv s x ∧ x ≠ c) n := HI.out.ro.fr hF (fun x _ a b => ⟨a, fun e => hr (by rw [← e]; exact b)⟩) (fun x _ a => a.1)
    have hG1 : Gm s1 (fun q => (L q).erase c) n := (HXx.out.gm.cut HI.out.tr hp hL hF hFX).congrL (fun q hq => by
      by_cases e : q = p
      · subst e
        show (L q).erase c = _
        rw [updL_at, hL]
        rw [hL, List.nodup_append] at nd
        have : c ∉ l1 := fun q => nd.2.2 c q c (List.mem_cons_self ..) rfl
        rw [List.erase_append_right _ this, List.erase_cons_head]
      · have hq0 : IsReg s q := ⟨hq.1, hq.2.1, by rw [← (hF.hd q).2.1]; exact hq.2.2⟩
        rw [updL_ne e]
        exact List.erase_of_not_mem (fun q2 => HI.out.tr.par_ne hp hq0 e q2 hm rfl))
    have hC1 : Ct s1 tl (fun x => Lv s x ∧ x ≠ c) := HXx.out.ct.cut hF hFX hr
    have HV := hideIt (vac_x hM1 (HI.out.ge.fr hF) (HI.out.tb.fr hF) hT2 hR1 (HI.out.rk.imp (fun r q => q.fr hF)) hc (by rw [(hF.hd c).2.1]; exact ht) (fun x _ => by unfold Lv; rw [(hF.hd x).2.1]) (fun j hj e => (hR1.reg j c hj e).2.1.2 rfl) (fun q => by
      have : IsReg s c := ⟨q.1, q.2.1, by rw [← (hF.hd c).2.1]; exact q.2.2⟩
      rw [he this]; rfl) hG1 hC1)
    have HE1 := hideIt hE1
    have en1 : nxG s1 c = (s.hd c).gen + 1 := by unfold nxG; rw [(hF.hd c).1]; exact en
    have HFr := hideIt hF
    clear hM1 hE1 hR1 hT1 hT2 hF hFX hG1 hC1
    go_wp2_with fail
    go_at_call 248
    refine HV.out.mono ?_
    rintro e w2 ⟨rfl, s2, tl2, hM2, hE2, hI2, hX2, hh⟩
    have HF : Hid (RlX A rb sb s ws L c w (.returned (.tuple #[])) w2) := ⟨rfl, s2, tl2, _, hM2, HE1.out.trans hE2 HE1.out.size (fun _ _ q => q), hI2, hX2, ⟨fun x hx => by rw [hh, if_neg hx]; exact HFr.out.hd x, by rw [hh, if_pos rfl], by rw [hh, if_pos rfl]; exact en1⟩, by rw [hh, if_pos rfl]; exact ⟨rfl, rfl, rfl⟩⟩
    clear hM2 hE2 hI2 hX2 hh
    go_wp2_with fail
    exact bodyPost_ret (v := .tuple #[]) (by simp [results, Tryz.results136]) rfl HF.out
end
/-- An entry that is free. -/
def enF (g : Int) : En := ⟨g, 0, 0, 0, 65535, []⟩
/-- What a release leaves to be seen. -/
theorem ob_rel {s s' : Av} {ws : Nat → Nat → Nat → Int} {c : Nat} (hc : c < 320) (h : Rel s s' c) (h0 : (s'.hd c).bas = 0 ∧ (s'.hd c).siz = 0 ∧ (s'.hd c).par = 65535) : ob s' ws = updM (ob s ws) c (enF ((s.hd c).gen + 1)) := by
  funext x
  unfold updM
  by_cases e : x = c
  · subst e
    rw [if_pos rfl, ob_at _ _ hc]
    unfold enF wdsOf
    rw [h.typ, h.gen, h0.1, h0.2.1, h0.2.2]
    rfl
  · rw [if_neg e]
    by_cases hx : x < 320
    · rw [ob_at _ _ hx, ob_at _ _ hx]
      obtain ⟨a1, a2, a3, a4, a5, a6⟩ := h.oth x e
      unfold wdsOf
      rw [a1, a2, a3, a4, a5, a6]
    · rw [ob_out _ _ hx, ob_out _ _ hx]
end Go.Proofs.Qxb6500847aGreatDoor.Os
