/-
  One object more, exactly.
-/
import Derived.Test.Qxb6500847aGreatDoorOxT
import Derived.Test.Qxb6500847aGreatDoorOxRa
import Derived.Test.Qxb6500847aGreatDoorOsRb
namespace Go.Proofs.Qxb6500847aGreatDoor.Os
open Go.RowKit FloorA
set_option maxRecDepth 100000
/-- The words of a new object. -/
def zw (t : Nat) : List Int := if t < 2 then [] else wlist (nF (t - 2)) (fun _ => 0)
section
variable {A : Nat} {rb sb : Nat → Nat} {s s' : Av} {tl tl' : Nat → List Int} {ws : Nat → Nat → Nat → Int} {w : World} {L : Nat → List Nat} {D : Nat → Prop} {n p c i t : Nat} {r : Nat → Nat}
/-- What one object more turns, exactly. -/
structure Gx (s s' : Av) (ws ws' : Nat → Nat → Nat → Int) (c t p : Nat) (b z : Int) : Prop where
  obs : ob s' ws' = updM (ob s ws) c ⟨(s.hd c).gen, (t : Int), b, z, (p : Int), zw t⟩
  top : (s'.rg (p - 256)).top = b + z
  en : (s'.hd p).bas = (s.hd p).bas ∧ (s'.hd p).siz = (s.hd p).siz
def GxPost (A : Nat) (rb sb : Nat → Nat) (s : Av) (tl : Nat → List Int) (ws : Nat → Nat → Nat → Int) (n c t p : Nat) (b z : Int) (w : World) (e : Ending) (w2 : World) : Prop :=
  e = .returned (.tuple #[]) ∧ Ext w.heap.size (Tz A rb sb) w w2 ∧ Calls Tryz.prog 135 #[.pointer (some ⟨A, 0, none⟩), .int .u16 (p : Int), .int .u16 (c : Int)] w2 (fun e w3 => e = .returned (.tuple #[]) ∧ Ext w.heap.size (Tz A rb sb) w w3 ∧ Calls Tryz.prog 124 #[.pointer (some ⟨A, 0, none⟩), .int .u16 (c : Int)] w3 (fun e w4 => e = .returned (.agg #[.int .u16 (c : Int), .int .u32 (s.hd c).gen]) ∧ Ext w.heap.size (Tz A rb sb) w w4 ∧ ∃ s' tl' ws' L', Ms w4 A rb sb s' tl' ws' ∧ IV s' tl' L' n ∧ IX s' tl' L' n ∧ Wr ws' ∧ Gw s s' tl tl' c t p ∧ Gx s s' ws ws' c t p b z))
/-- Behind occupy. -/
theorem grow_end_x {w2 : World} {s1 : Av} {tl1 : Nat → List Int} {ws1 : Nat → Nat → Nat → Int} {L1 : Nat → List Nat} {b z : Int} (x2 : Ext w.heap.size (Tz A rb sb) w w2) (m2 : Ms w2 A rb sb s1 tl1 ws1) (hV : IVd s1 tl1 (Lv s) L1 n) (hr : Rk s1 r) (hW : Wr ws1) (hp : IsReg s p) (hc : c < 320) (h0 : (s.hd c).typ = 0)
    (h1 : ∀ x, x ≠ c → s1.hd x = s.hd x) (h2 : (s1.hd c).gen = (s.hd c).gen ∧ (s1.hd c).typ = (t : Int)) (t1 : 1 ≤ t) (hi : ∀ y, Idl s1 y ↔ Idl s y ∧ y ≠ c) (hm : t ≠ 1 → (tl1 (t - 2)).length + 1 = (tl (t - 2)).length) (he : IsReg s1 c → L1 c = [])
    (hG : Gm s1 L1 n) (hC : Ct s1 tl1 (Lv s)) (hbz : (s1.hd c).bas = b ∧ (s1.hd c).siz = z) (htop : (s1.rg (p - 256)).top ≤ b) (hen : b + z ≤ (s.hd p).bas + (s.hd p).siz) (hal : Ali (s1.hd c)) (hlim : 0 ≤ b + z ∧ b + z < 18446744073709551616)
    (hob : ∀ x, x < 320 → x ≠ c → wdsOf (s.hd x) ws1 = wdsOf (s.hd x) ws) (hoc : wdsOf (s1.hd c) ws1 = zw t) :
    GxPost A rb sb s tl ws n c t p b z w (.returned (.tuple #[])) w2 := by
  have nD : ¬ Lv s c := fun q => q h0
  have pc : p ≠ c := fun e => by
    have := hp.2.2
    rw [e, h0] at this
    omega
  have hp1 : IsReg s1 p := ⟨hp.1, hp.2.1, by rw [h1 p pc]; exact hp.2.2⟩
  have tc : (s1.hd c).typ ≠ 0 := by rw [h2.2]; omega
  obtain ⟨al, ac⟩ := attach_any m2 hV.tr hp1 hc nD
  refine ⟨rfl, x2, ac.mono ?_⟩
  rintro e w3 ⟨rfl, m3, x3⟩
  have x13 := x2.trans x3 x2.size (fun _ _ q => q)
  have ah := att_hd s1 p c
  have hg : ((attS s1 p c).hd c).gen = (s.hd c).gen := by rw [(ah c).1]; exact h2.1
  have rf := refOf_walk m3.am hc
  rw [hg] at rf
  refine ⟨rfl, x13, rf.mono ?_⟩
  rintro e w4 ⟨rfl, b4⟩
  have hV3 := hV.att hp1 hc tc nD al
  have hr3 := hr.att hV.tr pc (fun x hx ht hne => by
    rw [h1 x hne] at ht
    exact ht) he al
  have hD3 : ∀ x, x < 320 → (Lv s x ∨ x = c ↔ ((attS s1 p c).hd x).typ ≠ 0) := fun x _ => by
    rw [(ah x).2.1]
    by_cases e : x = c
    · subst e; simp [tc]
    · rw [h1 x e]; simp [e, Lv]
  have hG3 := hG.att hp1 hc tc al (by rw [hbz.1]; exact htop) (by rw [hbz.1, hbz.2, h1 p pc]; exact hen) hal
  have hC3 := (hC.att hp.2.1 al nD).congrD (D' := Lv (attS s1 p c)) (fun x hx => hD3 x hx)
  refine ⟨rfl, x13.andThen b4 x13.size, attS s1 p c, tl1, ws1, _, m3.below b4, hV3.toIV hr3 (fun x hx => hD3 x hx), ⟨hG3, hC3⟩, hW, ⟨fun y hy => ?_, hg, ?_, ?_, fun y => ?_, hm⟩, ⟨?_, ?_, ?_⟩⟩
  · rw [(ah y).1, (ah y).2.1, h1 y hy]; exact ⟨rfl, rfl⟩
  · rw [(ah c).2.1]; exact h2.2
  · exact ⟨hp.1, hp.2.1, by rw [(ah p).2.1]; exact hp1.2.2⟩
  · rw [← hi y]
    unfold Idl
    rw [(att_same s1 p c).1]
  · funext x
    unfold updM
    by_cases hx : x < 320
    · rw [ob_at _ _ hx]
      obtain ⟨a1, a2, a3, a4, a5, a6⟩ := ah x
      by_cases e : x = c
      · subst e
        rw [if_pos rfl]
        have e1 : wdsOf ((attS s1 p x).hd x) ws1 = zw t := by
          rw [← hoc]
          unfold wdsOf
          rw [a2, a3]
        rw [e1, a1, a2, a4, a5, att_par s1 al, h2.1, h2.2, hbz.1, hbz.2]
      · rw [if_neg e, ob_at _ _ hx]
        have e1 : wdsOf ((attS s1 p c).hd x) ws1 = wdsOf (s.hd x) ws := by
          rw [← hob x hx e]
          unfold wdsOf
          rw [a2, a3, h1 x e]
        rw [e1, a1, a2, a4, a5, a6 e, h1 x e]
    · rw [ob_out _ _ hx, if_neg (fun e => hx (by rw [e]; exact hc)), ob_out _ _ hx]
  · rw [att_rg, if_pos rfl]
    show IntKind.u64.wrap ((s1.hd c).bas + (s1.hd c).siz) = _
    rw [hbz.1, hbz.2]
    exact u64_same hlim.1 hlim.2
  · rw [(ah p).2.2.2.1, (ah p).2.2.2.2.1, h1 p pc]
    exact ⟨rfl, rfl⟩
/-- A free row's words are nobody's. -/
theorem wds_free (hI : IV s tl L n) {k rr : Nat} (k2 : 2 ≤ k) (k7 : k ≤ 7) (hr : (rr : Int) ∈ tl (k - 2)) (W : Nat → Int) {x : Nat} (hx : x < 320) : wdsOf (s.hd x) (updW ws (k - 2) rr W) = wdsOf (s.hd x) ws := by
  unfold wdsOf
  by_cases q : (s.hd x).typ < 2
  · rw [if_pos q, if_pos q]
  · rw [if_neg q, if_neg q]
    obtain ⟨j, ej, j7, _⟩ := hI.ge.typ x hx
    obtain ⟨r', er, _, nr⟩ := hI.tb.row x j hx (by omega) j7 ej
    have e3 : updW ws (k - 2) rr W ((s.hd x).typ.toNat - 2) (s.hd x).row.toNat = ws ((s.hd x).typ.toNat - 2) (s.hd x).row.toNat := by
      unfold updW
      rw [if_neg]
      rintro ⟨a, b⟩
      rw [ej, Int.toNat_natCast] at a
      rw [er, Int.toNat_natCast] at b
      have : j = k := by omega
      subst this
      exact nr (by rw [b]; exact hr)
    rw [e3]
/-- What the new place must fulfil. -/
structure Plc (s : Av) (p t : Nat) (b z : Int) : Prop where
  pos : 0 ≤ b ∧ 0 < z
  top : (s.rg (p - 256)).top ≤ b
  en : b + z ≤ (s.hd p).bas + (s.hd p).siz
  ali : ∃ k u : Nat, z = ((2 ^ k : Nat) : Int) ∧ b = ((u * 2 ^ k : Nat) : Int) ∧ k ≤ 47 ∧ (t = 1 → 4 ≤ k) ∧ (t ≠ 1 → k = kBits t)
theorem Plc.Ali {b z row : Int} {g : Int} (h : Plc s p t b z) : Ali ⟨g, (t : Int), row, 65535, 65535, 65535, b, z⟩ := by
  obtain ⟨k, u, h1, h2, h3, h4, h5⟩ := h.ali
  refine ⟨k, u, h1, h2, h3, fun q => h4 ?_, fun q => ?_⟩
  · have : (t : Int) = 1 := q
    omega
  · have q' : (t : Int) ≠ 1 := q
    rw [h5 (by omega)]
    rfl
theorem grow_calls_x (h : Ms w A rb sb s tl ws) (hI : IV s tl L n) (hX : IX s tl L n) (hW : Wr ws) (hp : IsReg s p) (hc : c < 320) (hi : Idl s c) (t1 : 1 ≤ t) (t7 : t ≤ 7) (tr : t = 1 ↔ 256 ≤ c) (hroom : t ≠ 1 → 0 < (tl (t - 2)).length) {b z : Int} (hb : Plc s p t b z) :
    Calls Tryz.prog 128 #[.pointer (some ⟨A, 0, none⟩), .int .u16 (c : Int), .int .u8 (t : Int), .int .u64 b, .int .u64 z] w (GxPost A rb sb s tl ws n c t p b z w) := by
  have h0 := hI.ge.idl c hc hi
  have nD : ¬ Lv s c := fun q => q h0
  have pc : p ≠ c := fun e => by
    have := hp.2.2
    rw [e, h0] at this
    omega
  obtain ⟨r, hr⟩ := hI.rk
  have nr : ∀ i, i < n → s.rts i ≠ (c : Int) := fun i hi q => nD (hI.ro.reg i c hi q).2.1
  have lp := hX.gm.lim p hp.2.1 (by rw [hp.2.2]; decide)
  have hen := hb.en
  have hps := hb.pos
  have hl3 : 0 ≤ b ∧ 0 < z ∧ b + z ≤ 281474976710656 := by omega
  have hb' : 0 ≤ b ∧ b < 18446744073709551616 ∧ 0 ≤ z ∧ z < 18446744073709551616 := by omega
  have hs0 := (hX.gm.fre c hc h0).2.1
  have hg0 : (s.hd c).gen ≠ 4294967295 := by have := ((idl_iff hX hI hc).1 hi).2; omega
  have hLr : ∀ L' : Nat → List Nat, L' = updL L c [] → ∀ q, IsReg s q → L' q = L q := fun L' e q hq => by
    rw [e]
    exact updL_ne (fun e => by have := hq.2.2; rw [e, h0] at this; exact absurd this (by decide))
  by_cases e1 : t = 1
  · subst e1
    have c1 := tr.1 rfl
    refine (occupy_one h hI.ge.wd c1 hc b z).mono ?_
    rintro e w2 ⟨rfl, m2, x2⟩
    have hh := occ_hd s c 1 b z 65535
    have hcc := hh c
    rw [if_pos rfl] at hcc
    have g1 := Gm.occ_core (k := 1) (row := 65535) (b := b) (z := z) (L' := updL L c []) hX.gm hI.tr (by decide) h0 hl3 nr (hLr _ rfl) (fun _ => ⟨updL_at _ _ _, c1⟩) (s.ti 0) 0
    rw [setTi_same] at g1
    have k1 := Ct.occ (k := 1) (row := 65535) (b := b) (z := z) (tl' := tl) hX.ct hc h0 hs0 hg0 nD (by omega) (by omega) ⟨fun _ => c1, fun _ => rfl⟩ (fun t _ => by rw [one_neg (by omega)]; omega) (s.ti 0) 0
    rw [setTi_same] at k1
    have hrg : ((occS s c 1 b z 65535).rg (p - 256)).top ≤ b := by
      rw [occ_rg, if_neg (fun q => pc (by have := q.2; have := hp.1; omega))]
      exact hb.top
    exact grow_end_x x2 m2 (hI.toD.occR hc c1 hi nD hb') (hr.occ (c := c) (fun x e => by rw [hh, if_neg e]) (by rw [hcc])) hW hp hc h0 (fun x e => by rw [hh, if_neg e]) (by rw [hcc]; exact ⟨rfl, rfl⟩) t1 (occ_idl s c 1 b z 65535) (fun q => absurd rfl q) (fun _ => updL_at L c []) g1 k1 (by rw [hcc]; exact ⟨rfl, rfl⟩) hrg hb.en (by rw [hcc]; exact hb.Ali) (by omega) (fun _ _ _ => rfl) (by rw [hcc]; rfl)
  · have c1 : c < 256 := by
      rcases Nat.lt_or_ge c 256 with q | q
      · exact q
      · exact absurd (tr.2 q) e1
    rcases List.eq_nil_or_concat (tl (t - 2)) with q | ⟨l, x, q⟩
    · have := hroom e1
      rw [q] at this
      simp at this
    · rw [List.concat_eq_append] at q
      obtain ⟨rr, er, rl⟩ := hI.tb.stk (t - 2) (by omega) x (by rw [q]; simp)
      subst er
      refine (occupy_obj h hI.ge.wd hc (k := t) (by omega) t7 q rl b z).mono ?_
      rintro e w2 ⟨rfl, m2, x2⟩
      have hh := occ_hd (s.setTi (t - 2) (.slice (some ⟨sb (t - 2), 0, none⟩) l.length (nR (t - 2)))) c t b z rr
      have hcc := hh c
      rw [if_pos rfl] at hcc
      have hne : ∀ x, x ≠ c → (occS (s.setTi (t - 2) (.slice (some ⟨sb (t - 2), 0, none⟩) l.length (nR (t - 2)))) c t b z rr).hd x = s.hd x := fun x e => by rw [hh, if_neg e]; rfl
      have g1 := Gm.occ_core (k := t) (row := rr) (b := b) (z := z) (L' := L) hX.gm hI.tr (by omega) h0 hl3 nr (fun _ _ => rfl) (fun q => absurd q e1) (.slice (some ⟨sb (t - 2), 0, none⟩) l.length (nR (t - 2))) (t - 2)
      have k1 := Ct.occ (k := t) (row := rr) (b := b) (z := z) (tl' := updT tl (t - 2) l) hX.ct hc h0 hs0 hg0 nD (by omega) (by omega) tr (fun u u6 => by
        unfold updT
        by_cases e : u = t - 2
        · rw [if_pos e, one_pos (by omega), e, q]
          simp
        · rw [if_neg e, one_neg (by omega)]
          omega) (.slice (some ⟨sb (t - 2), 0, none⟩) l.length (nR (t - 2))) (t - 2)
      have hrg : ((occS (s.setTi (t - 2) (.slice (some ⟨sb (t - 2), 0, none⟩) l.length (nR (t - 2)))) c t b z rr).rg (p - 256)).top ≤ b := by
        rw [occ_rg, if_neg (fun q => e1 q.1)]
        exact hb.top
      have hmem : (rr : Int) ∈ tl (t - 2) := by rw [q]; simp
      exact grow_end_x x2 m2 (hI.toD.occO c1 hi nD (by omega) t7 q hb' _) (hr.occ (c := c) hne (by rw [hcc])) (hW.upd (Wq.zero _)) hp hc h0 hne (by rw [hcc]; exact ⟨rfl, rfl⟩) t1 (occ_idl (s.setTi (t - 2) _) c t b z rr) (fun _ => by rw [updT, if_pos rfl, q]; simp) (fun k => absurd k.1 (by omega)) g1 k1 (by rw [hcc]; exact ⟨rfl, rfl⟩) hrg hb.en (by rw [hcc]; exact hb.Ali) (by omega) (fun x hx _ => wds_free hI (by omega) t7 hmem _ hx) (by
        rw [hcc]
        unfold wdsOf zw
        rw [if_neg (by show ¬ (t : Int) < 2; omega), if_neg (by omega)]
        show wlist (nF ((t : Int).toNat - 2)) (updW ws (t - 2) rr (fun _ => 0) ((t : Int).toNat - 2) (rr : Int).toNat) = _
        rw [Int.toNat_natCast, Int.toNat_natCast]
        unfold updW
        rw [if_pos ⟨rfl, rfl⟩])
end
end Go.Proofs.Qxb6500847aGreatDoor.Os
