/-
  release.
-/
import Derived.Test.Qxb6500847aGreatDoorOsR
namespace Go.Proofs.Qxb6500847aGreatDoor.Os
open Go.RowKit FloorA
set_option maxRecDepth 100000
section
variable {s s' : Av} {D D' : Nat → Prop} {L L' : Nat → List Nat} {tl : Nat → List Int} {n p c k : Nat}
/-- The next generation. -/
def nxG (s : Av) (c : Nat) : Int := ((s.hd c).gen + 1) % 4294967296
theorem vac_hd (s : Av) (c k x : Nat) : (vacS s c k).hd x = if x = c then ⟨nxG s c, 0, 0, 65535, 65535, 65535, 0, 0⟩ else s.hd x := by
  have key : ∀ s1 : Av, s1.hd = s.hd → ∀ g, (s1.setHd c g).hd x = if x = c then g else s.hd x := fun s1 e g => by unfold Av.setHd; dsimp only; rw [e]
  unfold vacS nxG
  dsimp only
  by_cases a : ((s.hd c).gen + 1) % 4294967296 < 4294967295
  · rw [if_pos a]; exact key _ (by split <;> rfl) _
  · rw [if_neg a]
    by_cases b : 256 ≤ c
    · rw [if_pos b]; exact key _ (by split <;> rfl) _
    · rw [if_neg b]; exact key _ (by split <;> rfl) _
theorem vac_same (s : Av) (c k : Nat) : (vacS s c k).rg = s.rg ∧ (vacS s c k).rts = s.rts ∧ (vacS s c k).nrt = s.nrt ∧ (vacS s c k).ti = s.ti := by
  unfold vacS
  dsimp only
  split <;> split <;> (try split) <;> exact ⟨rfl, rfl, rfl, rfl⟩
theorem vac_idl (s : Av) (c k x : Nat) : Idl (vacS s c k) x ↔ Idl s x ∨ (x = c ∧ nxG s c < 4294967295) := by
  unfold vacS nxG
  dsimp only
  by_cases h : ((s.hd c).gen + 1) % 4294967296 < 4294967295
  · rw [if_pos h, Idl.on]
    have e : ∀ (s1 : Av) (g : Hd), Idl (s1.setHd c g) x ↔ Idl s1 x := fun _ _ => Iff.rfl
    rw [e]
    simp only [h, and_true]
    split <;> exact Iff.rfl
  · rw [if_neg h]
    simp only [h, and_false, or_false]
    split <;> split <;> exact Iff.rfl
theorem vac_wd (h : Wd s) (c k : Nat) : Wd (vacS s c k) := by
  have e : ∀ s1 : Av, s1.idl = s.idl → Wd s1 := fun s1 e j hj => by rw [e]; exact h j hj
  unfold vacS
  dsimp only
  split <;> split <;> (try split) <;> first | exact Wd.on (e _ rfl) c | exact e _ rfl
theorem Ge.vac (h : Ge s) (ht : (s.hd c).typ ≠ 0) (hc : c < 320) (k : Nat) : Ge (vacS s c k) := by
  obtain ⟨g, eg, g1, g2, g3⟩ := h.gen c hc
  have g4 := g3 (Or.inl ht)
  have en : nxG s c = ((g + 1 : Nat) : Int) := by unfold nxG; rw [eg]; omega
  refine ⟨vac_wd h.wd c k, fun i hi q => ?_, fun i hi => ?_, fun i hi => ?_, fun i hi => ?_⟩
  · rw [vac_hd]
    by_cases e : i = c
    · rw [if_pos e]
    · rw [if_neg e]
      exact h.idl i hi (((vac_idl s c k i).1 q).resolve_right (fun q => e q.1))
  · rw [vac_hd]
    by_cases e : i = c
    · rw [if_pos e]; exact ⟨0, rfl, by omega, fun q => absurd rfl q⟩
    · rw [if_neg e]; exact h.typ i hi
  · rw [vac_idl, vac_hd]
    by_cases e : i = c
    · subst e
      rw [if_pos rfl]
      refine ⟨g + 1, en, by omega, by omega, fun q => ?_⟩
      rcases q with q | q | q
      · exact absurd rfl q
      · exact absurd (h.idl i hi q) ht
      · have := q.2
        rw [en] at this
        omega
    · rw [if_neg e]
      obtain ⟨g', a1, a2, a3, a4⟩ := h.gen i hi
      exact ⟨g', a1, a2, a3, fun q => a4 (q.imp id (fun q => q.resolve_right (fun q => e q.1)))⟩
  · rw [vac_hd]
    by_cases e : i = c
    · rw [if_pos e]; simp
    · rw [if_neg e]; exact h.bas i hi
theorem Tb.vacO (h : Tb s tl) (hc : c < 320) (k2 : 2 ≤ k) (k7 : k ≤ 7) (ht : (s.hd c).typ = (k : Int)) (h1 : ∀ x, s'.hd x = if x = c then ⟨nxG s c, 0, 0, 65535, 65535, 65535, 0, 0⟩ else s.hd x) : Tb s' (updT tl (k - 2) (tl (k - 2) ++ [(s.hd c).row])) := by
  obtain ⟨r, er, r1, r2⟩ := h.row c k hc k2 k7 ht
  refine ⟨fun i j hi j2 j7 hj => ?_, fun i i' j hi hi' j2 j7 hj hj' e => ?_, fun t ht' x hx => ?_, fun t ht' => ?_⟩
  · rw [h1] at hj ⊢
    by_cases e : i = c
    · rw [if_pos e] at hj
      dsimp only at hj
      omega
    · rw [if_neg e] at hj ⊢
      obtain ⟨q, a1, a2, a3⟩ := h.row i j hi j2 j7 hj
      refine ⟨q, a1, a2, ?_⟩
      unfold updT
      split
      · next e2 =>
        have : j = k := by omega
        subst this
        simp only [List.mem_append, not_or, List.mem_singleton]
        refine ⟨a3, fun e3 => e (h.inj i c j hi hc j2 j7 hj ht (by rw [a1, e3]))⟩
      · exact a3
  · rw [h1] at hj e
    rw [h1] at hj' e
    by_cases e1 : i = c
    · rw [if_pos e1] at hj; dsimp only at hj; omega
    · by_cases e2 : i' = c
      · rw [if_pos e2] at hj'; dsimp only at hj'; omega
      · rw [if_neg e1] at hj e
        rw [if_neg e2] at hj' e
        exact h.inj i i' j hi hi' j2 j7 hj hj' e
  · unfold updT at hx
    split at hx
    · next e2 =>
      subst e2
      rcases List.mem_append.1 hx with q | q
      · exact h.stk _ ht' x q
      · exact ⟨r, by rw [← er]; simpa using q, r1⟩
    · exact h.stk t ht' x hx
  · unfold updT
    split
    · next e2 =>
      subst e2
      rw [List.nodup_append]
      refine ⟨h.nd _ ht', by simp, fun x hx y hy e => ?_⟩
      have : y = (s.hd c).row := by simpa using hy
      rw [this, er] at e
      rw [e] at hx
      exact r2 hx
    · exact h.nd t ht'
theorem Tb.vacR (h : Tb s tl) (h1 : ∀ x, s'.hd x = if x = c then ⟨nxG s c, 0, 0, 65535, 65535, 65535, 0, 0⟩ else s.hd x) : Tb s' tl := by
  refine ⟨fun i j hi j2 j7 hj => ?_, fun i i' j hi hi' j2 j7 hj hj' e => ?_, h.stk, h.nd⟩
  · rw [h1] at hj ⊢
    by_cases e : i = c
    · rw [if_pos e] at hj; dsimp only at hj; omega
    · rw [if_neg e] at hj ⊢
      exact h.row i j hi j2 j7 hj
  · rw [h1] at hj e
    rw [h1] at hj' e
    by_cases e1 : i = c
    · rw [if_pos e1] at hj; dsimp only at hj; omega
    · by_cases e2 : i' = c
      · rw [if_pos e2] at hj'; dsimp only at hj'; omega
      · rw [if_neg e1] at hj e
        rw [if_neg e2] at hj' e
        exact h.inj i i' j hi hi' j2 j7 hj hj' e
theorem pigeonI {m : Nat} {l : List Int} (hn : l.Nodup) (h : ∀ x ∈ l, ∃ r : Nat, x = (r : Int) ∧ r < m) : l.length ≤ m := by
  have := pigeon m (l.map Int.toNat) (by
    rw [List.nodup_iff_pairwise_ne, List.pairwise_map]
    refine hn.imp_of_mem (fun {a b} ha hb hab e => ?_)
    obtain ⟨r, rfl, _⟩ := h a ha
    obtain ⟨q, rfl, _⟩ := h b hb
    simp only [Int.toNat_natCast] at e
    exact hab (by rw [e])) (fun x hx => by
    obtain ⟨y, hy, rfl⟩ := List.mem_map.1 hx
    obtain ⟨r, rfl, hr⟩ := h y hy
    simpa using hr)
  simpa using this
/-- Where an object lives, its table's stack has room. -/
theorem Tb.room (h : Tb s tl) (hc : c < 320) (k2 : 2 ≤ k) (k7 : k ≤ 7) (ht : (s.hd c).typ = (k : Int)) : (tl (k - 2)).length < nR (k - 2) := by
  obtain ⟨r, er, r1, r2⟩ := h.row c k hc k2 k7 ht
  have := pigeonI (m := nR (k - 2)) (l := (r : Int) :: tl (k - 2)) (List.nodup_cons.2 ⟨r2, h.nd _ (by omega)⟩) (fun x hx => by
    rcases List.mem_cons.1 hx with q | q
    · exact ⟨r, q, r1⟩
    · exact h.stk _ (by omega) x q)
  simp only [List.length_cons] at this
  omega
end
section
variable {A : Nat} {rb sb : Nat → Nat} {s : Av} {tl : Nat → List Int} {ws : Nat → Nat → Nat → Int} {w : World} {L : Nat → List Nat} {n p c : Nat}
/-- What a release turns. -/
structure Rel (s s' : Av) (c : Nat) : Prop where
  oth : ∀ x, x ≠ c → (s'.hd x).gen = (s.hd x).gen ∧ (s'.hd x).typ = (s.hd x).typ ∧ (s'.hd x).row = (s.hd x).row ∧ (s'.hd x).par = (s.hd x).par ∧ (s'.hd x).bas = (s.hd x).bas ∧ (s'.hd x).siz = (s.hd x).siz
  typ : (s'.hd c).typ = 0
  gen : (s'.hd c).gen = (s.hd c).gen + 1
def RlPost (A : Nat) (rb sb : Nat → Nat) (s : Av) (ws : Nat → Nat → Nat → Int) (L : Nat → List Nat) (c : Nat) (w : World) (e : Ending) (w' : World) : Prop :=
  e = .returned (.tuple #[]) ∧ ∃ s' tl' n', Ms w' A rb sb s' tl' ws ∧ Ext w.heap.size (Tz A rb sb) w w' ∧ IV s' tl' (fun q => (L q).erase c) n' ∧ Rel s s' c
/-- An unlinked entry is vacated. -/
theorem vac_end {D : Nat → Prop} {s1 : Av} (h : Ms w A rb sb s1 tl ws) (hg : Ge s1) (hb : Tb s1 tl) (hT : Tr s1 D L) (hR : Ro s1 D n) (hk : ∃ r, Rk s1 r) (hc : c < 320) (ht : (s1.hd c).typ ≠ 0) (hD : ∀ x, x < 320 → (D x ↔ Lv s1 x ∧ x ≠ c)) (hn : ∀ i, i < n → s1.rts i ≠ (c : Int)) (he : IsReg s1 c → L c = []) :
    Calls Tryz.prog 248 #[.pointer (some ⟨A, 0, none⟩), .int .u16 (c : Int)] w (fun e w' => e = .returned (.tuple #[]) ∧ ∃ s' tl', Ms w' A rb sb s' tl' ws ∧ Ext w.heap.size (Tz A rb sb) w w' ∧ IV s' tl' L n ∧ (∀ x, s'.hd x = if x = c then ⟨nxG s1 c, 0, 0, 65535, 65535, 65535, 0, 0⟩ else s1.hd x)) := by
  have ncD : ¬ D c := fun q => ((hD c hc).1 q).2 rfl
  have fin : ∀ (s2 : Av) (tl2 : Nat → List Int), Ge s2 → Tb s2 tl2 → (∀ x, s2.hd x = if x = c then ⟨nxG s1 c, 0, 0, 65535, 65535, 65535, 0, 0⟩ else s1.hd x) → s2.rg = s1.rg → s2.rts = s1.rts → s2.nrt = s1.nrt → IV s2 tl2 L n := by
    intro s2 tl2 a1 a2 a3 a4 a5 a6
    have h1 : ∀ x, x ≠ c → s2.hd x = s1.hd x := fun x e => by rw [a3, if_neg e]
    have h2 : (s2.hd c).typ = 0 := by rw [a3, if_pos rfl]
    have hDL : ∀ x, x < 320 → (D x ↔ Lv s2 x) := fun x hx => by
      rw [hD x hx]
      unfold Lv
      by_cases e : x = c
      · subst e; simp [h2]
      · rw [h1 x e]; simp [e]
    refine ⟨a1, a2, (hT.vac ncD he h1 h2 a4).congrD hDL, hR.other h1 hn a5 a6 (fun x hx _ => (hDL x hx).symm) (fun q => absurd h2 q), ?_⟩
    obtain ⟨r, hr⟩ := hk
    refine ⟨r, fun x q hx hl hp hq => ?_⟩
    have e : x ≠ c := fun e => hl (by rw [e]; exact h2)
    rw [h1 x e] at hl hp
    exact hr x q hx hl hp hq
  obtain ⟨k, ek, k7, k1⟩ := hg.typ c hc
  have k0 : k ≠ 0 := fun e => ht (by rw [ek, e]; rfl)
  by_cases e1 : k = 1
  · subst e1
    have c1 := (k1 k0).1 rfl
    refine (vacate_one h hg.wd c1 hc ek).mono ?_
    rintro e w' ⟨rfl, hM, hE⟩
    obtain ⟨v1, v2, v3, v4⟩ := vac_same s1 c 1
    exact ⟨rfl, _, _, hM, hE, fin _ _ (hg.vac ht hc 1) (hb.vacR (vac_hd s1 c 1)) (vac_hd s1 c 1) v1 v2 v3, vac_hd s1 c 1⟩
  · have k2 : 2 ≤ k := by omega
    have cl : c < 256 := by
      rcases Nat.lt_or_ge c 256 with q | q
      · exact q
      · exact absurd ((k1 k0).2 q) e1
    refine (vacate_obj h hg.wd cl k2 k7 ek (hb.room hc k2 k7 ek)).mono ?_
    rintro e w' ⟨rfl, hM, hE⟩
    have v0 := vac_hd (s1.setTi (k - 2) (.slice (some ⟨sb (k - 2), 0, none⟩) ((tl (k - 2)).length + 1) (nR (k - 2)))) c k
    obtain ⟨v1, v2, v3, v4⟩ := vac_same (s1.setTi (k - 2) (.slice (some ⟨sb (k - 2), 0, none⟩) ((tl (k - 2)).length + 1) (nR (k - 2)))) c k
    have hg' : Ge (s1.setTi (k - 2) (.slice (some ⟨sb (k - 2), 0, none⟩) ((tl (k - 2)).length + 1) (nR (k - 2)))) := ⟨hg.wd, hg.idl, hg.typ, hg.gen, hg.bas⟩
    exact ⟨rfl, _, _, hM, hE, fin _ _ (hg'.vac ht hc k) (hb.vacO hc k2 k7 ek v0) v0 v1 v2 v3, v0⟩
theorem Ge.fr {s s' : Av} (h : Ge s) (hf : Fr s s') : Ge s' := by
  have ei : ∀ i, Idl s' i ↔ Idl s i := fun i => by unfold Idl; rw [hf.idl]
  refine ⟨fun j hj => by rw [hf.idl]; exact h.wd j hj, fun i hi q => ?_, fun i hi => ?_, fun i hi => ?_, fun i hi => ?_⟩
  · rw [(hf.hd i).2.1]; exact h.idl i hi ((ei i).1 q)
  · rw [(hf.hd i).2.1]; exact h.typ i hi
  · rw [(hf.hd i).2.1, (hf.hd i).1, ei]; exact h.gen i hi
  · rw [(hf.hd i).2.2.2.2.1, (hf.hd i).2.2.2.2.2]; exact h.bas i hi
theorem Tb.fr {s s' : Av} (h : Tb s tl) (hf : Fr s s') : Tb s' tl := by
  refine ⟨fun i j hi j2 j7 hj => ?_, fun i i' j hi hi' j2 j7 hj hj' e => ?_, h.stk, h.nd⟩
  · rw [(hf.hd i).2.1] at hj
    rw [(hf.hd i).2.2.1]
    exact h.row i j hi j2 j7 hj
  · rw [(hf.hd i).2.1] at hj
    rw [(hf.hd i').2.1] at hj'
    rw [(hf.hd i).2.2.1, (hf.hd i').2.2.1] at e
    exact h.inj i i' j hi hi' j2 j7 hj hj' e
theorem Rk.fr {s s' : Av} {r : Nat → Nat} (h : Rk s r) (hf : Fr s s') : Rk s' r := fun c p hc ht hp hp' => by
  rw [(hf.hd c).2.1] at ht
  rw [(hf.hd c).2.2.2.1] at hp
  exact h c p hc ht hp hp'
theorem Fr.rem (s : Av) (p c n : Nat) : ∀ x, (remS s p c n).hd x = s.hd x := fun _ => rfl
set_option maxHeartbeats 1000000 in
theorem release_walk (h : Ms w A rb sb s tl ws) (hI : IV s tl L n) (hc : c < 320) (ht : (s.hd c).typ ≠ 0) (he : IsReg s c → L c = []) :
    Calls Tryz.prog 136 #[.pointer (some ⟨A, 0, none⟩), .int .u16 (c : Int)] w (RlPost A rb sb s ws L c w) := by
  have e3 := h.am.par hc
  have hc' : (c : Int) < 320 := by omega
  obtain ⟨a1, a2⟩ := hI.tr.all c hc ht
  obtain ⟨g, eg, g1, g2, g3⟩ := hI.ge.gen c hc
  have g4 := g3 (Or.inl ht)
  have en : nxG s c = (s.hd c).gen + 1 := by unfold nxG; rw [eg]; omega
  by_cases hr : (s.hd c).par = 65535
  · obtain ⟨i, hi, ei⟩ := hI.ro.all c hc ht hr
    rw [hr] at e3
    have HM := hideIt h
    have HI := hideIt hI
    clear h hI
    go_enter Tryz.func136, Tryz.ntmps136
    go_wp2_with fail
    go_at_call 246
    refine (removeRoot_walk HM.out hc HI.out.ro.rts hi ei).mono ?_
    rintro e w1 ⟨rfl, hM1, hE1⟩
    have hR1 := HI.out.ro.remove hi ei
    have hT1 : Tr (remS s i c n) (fun x => Lv s x ∧ x ≠ c) (fun q => (L q).erase c) := by
      have nm : ∀ q, IsReg s q → c ∉ L q := fun q hq hm => by
        have := (HI.out.tr.mem hq hm).2.2
        have := hq.2.1
        omega
      have h0 : Tr (remS s i c n) (fun x => Lv s x ∧ x ≠ c) L := by
        have t := HI.out.tr
        exact ⟨fun q hq => Lk.congr (s := s) (s' := remS s i c n) (fun _ _ => rfl) (t.lk q hq), t.fst, t.lst, t.kds, t.nd, fun q hq x hx => ⟨t.sub q hq x hx, fun e => nm q hq (e ▸ hx)⟩, fun x hx hd => t.all x hx hd.1⟩
      exact h0.congrL (fun q hq => List.erase_of_not_mem (nm q hq))
    have HV := hideIt (vac_end hM1 (s1 := remS s i c n) ⟨HI.out.ge.wd, HI.out.ge.idl, HI.out.ge.typ, HI.out.ge.gen, HI.out.ge.bas⟩ ⟨HI.out.tb.row, HI.out.tb.inj, HI.out.tb.stk, HI.out.tb.nd⟩ hT1 hR1 HI.out.rk hc ht (fun x _ => Iff.rfl) (fun j hj e => ((hR1.reg j c hj e).2.1.2 rfl)) (fun q => by rw [he q]; rfl))
    have HE1 := hideIt hE1
    clear hM1 hE1 hR1 hT1
    go_wp2_with fail
    go_at_call 248
    refine HV.out.mono ?_
    rintro e w2 ⟨rfl, s2, tl2, hM2, hE2, hI2, hh⟩
    have HF : Hid (RlPost A rb sb s ws L c w (.returned (.tuple #[])) w2) := ⟨rfl, s2, tl2, _, hM2, HE1.out.trans hE2 HE1.out.size (fun _ _ q => q), hI2, ⟨fun x hx => by rw [hh, if_neg hx]; exact ⟨rfl, rfl, rfl, rfl, rfl, rfl⟩, by rw [hh, if_pos rfl], by rw [hh, if_pos rfl]; exact en⟩⟩
    clear hM2 hE2 hI2 hh
    go_wp2_with fail
    exact bodyPost_ret (v := .tuple #[]) (by simp [results, Tryz.results136]) rfl HF.out
  · obtain ⟨p, hp, ep, hm⟩ := a2.resolve_left hr
    obtain ⟨l1, l2, hL⟩ := List.append_of_mem hm
    have kn : ((s.hd c).par == 65535) = false := by rw [beq_eq_false_iff_ne]; exact hr
    have HM := hideIt h
    have HI := hideIt hI
    clear h hI
    go_enter Tryz.func136, Tryz.ntmps136
    go_wp2_with fail
    go_at_call 247
    refine (detach_walk HM.out HI.out.tr hp hL).mono ?_
    rintro e w1 ⟨s1, ⟨rfl, hM1, hE1⟩, hT1, hF⟩
    have nd := HI.out.tr.nd p hp
    have hT2 : Tr s1 (fun x => Lv s x ∧ x ≠ c) (fun q => (L q).erase c) := hT1.congrL (fun q hq => by
      by_cases e : q = p
      · subst e
        rw [updL_at, hL]
        rw [hL, List.nodup_append] at nd
        have : c ∉ l1 := fun q => nd.2.2 c q c (List.mem_cons_self ..) rfl
        rw [List.erase_append_right _ this, List.erase_cons_head]
      · have hq0 : IsReg s q := ⟨hq.1, hq.2.1, by rw [← (hF.hd q).2.1]; exact hq.2.2⟩
        rw [updL_ne e]
        exact List.erase_of_not_mem (fun q2 => HI.out.tr.par_ne hp hq0 e q2 hm rfl))
    have hR1 : Ro s1 (fun x => Lv s x ∧ x ≠ c) n := HI.out.ro.fr hF (fun x _ a b => ⟨a, fun e => hr (by rw [← e]; exact b)⟩) (fun x _ a => a.1)
    have HV := hideIt (vac_end hM1 (HI.out.ge.fr hF) (HI.out.tb.fr hF) hT2 hR1 (HI.out.rk.imp (fun r q => q.fr hF)) hc (by rw [(hF.hd c).2.1]; exact ht) (fun x _ => by unfold Lv; rw [(hF.hd x).2.1]) (fun j hj e => (hR1.reg j c hj e).2.1.2 rfl) (fun q => by
      have : IsReg s c := ⟨q.1, q.2.1, by rw [← (hF.hd c).2.1]; exact q.2.2⟩
      rw [he this]; rfl))
    have HE1 := hideIt hE1
    have en1 : nxG s1 c = (s.hd c).gen + 1 := by unfold nxG; rw [(hF.hd c).1]; exact en
    have HFr := hideIt hF
    clear hM1 hE1 hR1 hT1 hT2 hF
    go_wp2_with fail
    go_at_call 248
    refine HV.out.mono ?_
    rintro e w2 ⟨rfl, s2, tl2, hM2, hE2, hI2, hh⟩
    have HF : Hid (RlPost A rb sb s ws L c w (.returned (.tuple #[])) w2) := ⟨rfl, s2, tl2, _, hM2, HE1.out.trans hE2 HE1.out.size (fun _ _ q => q), hI2, ⟨fun x hx => by rw [hh, if_neg hx]; exact HFr.out.hd x, by rw [hh, if_pos rfl], by rw [hh, if_pos rfl]; exact en1⟩⟩
    clear hM2 hE2 hI2 hh
    go_wp2_with fail
    exact bodyPost_ret (v := .tuple #[]) (by simp [results, Tryz.results136]) rfl HF.out
end
end Go.Proofs.Qxb6500847aGreatDoor.Os
