/-
  Decode: rooted.
-/
import Derived.Test.Qxb6500847aGreatDoorOsDe
import Derived.Test.Qxb6500847aGreatDoorOsQc
import Derived.Test.Qxb6500847aGreatDoorOsUa
namespace Go.Proofs.Qxb6500847aGreatDoor.Os
open Go.RowKit FloorA
set_option maxRecDepth 100000
theorem nodup_map' {f : Nat → Nat} : ∀ {l : List Nat}, (∀ x, x ∈ l → ∀ y, y ∈ l → f x = f y → x = y) → l.Nodup → (l.map f).Nodup
  | [], _, _ => List.nodup_nil
  | a :: l, h, hn => by
    rw [List.map_cons, List.nodup_cons]
    rw [List.nodup_cons] at hn
    refine ⟨fun q => ?_, nodup_map' (fun x hx y hy => h x (List.mem_cons_of_mem _ hx) y (List.mem_cons_of_mem _ hy)) hn.2⟩
    obtain ⟨y, hy, e⟩ := List.mem_map.1 q
    have := h a (by simp) y (List.mem_cons_of_mem _ hy) e.symm
    rw [this] at hn
    exact hn.1 hy
section
variable {D A g cap : Nat} {N rest : List Nat} {rb sb : Nat → Nat} {s s1 : Av} {tl1 : Nat → List Int} {ws1 : Nat → Nat → Nat → Int} {w : World}
/-- The parents of live entries are live regions or none, and lie lower. -/
structure Pt (s1 : Av) (r : Nat → Nat) : Prop where
  par : ∀ x, x < 320 → (s1.hd x).typ ≠ 0 → (s1.hd x).par = 65535 ∨ ∃ p, IsReg s1 p ∧ (s1.hd x).par = (p : Int)
  rk : Rk s1 r
set_option maxHeartbeats 8000000 in
theorem rooted_walk {r : Nat → Nat} (hR : Rn D A g cap N rest w) (hM : Ms w A rb sb s1 tl1 ws1) (hP : Pt s1 r) :
    Calls Tryz.prog 107 #[.pointer (some ⟨D, 0, none⟩)] w (fun e w' => e = .returned (.tuple #[]) ∧ w' = w) := by
  have har := hR.ar
  have HM := hideIt hM
  have HP := hideIt hP
  clear hR hM hP
  go_enter Tryz.func107, Tryz.ntmps107
  go_wp2_with fail
  go_loopw [5] (fun v5 wr => ∃ k : Nat, k ≤ 320 ∧ v5 = .int .i64 (k : Int) ∧ wr = w) (fun v5 _ => 320 - (intOf v5).toNat)
  case atStart => exact ⟨0, by omega, rfl, rfl⟩
  case round =>
    obtain ⟨k, hk, rfl, rfl⟩ := hrel
    by_cases hlt : k < 320
    · have hlt' : (k : Int) < 320 := by omega
      have et := HM.out.am.typ hlt
      have ep := HM.out.am.par hlt
      by_cases ht : (s1.hd k).typ = 0
      · have kt : ((s1.hd k).typ == 0) = true := by rw [ht]; rfl
        clear ht
        go_wp2_with fail
        exact ⟨⟨k + 1, by omega, by go_num, trivial⟩, by simp [intOf]; omega⟩
      · have kt : ((s1.hd k).typ == 0) = false := by rw [beq_eq_false_iff_ne]; exact ht
        have HP0 := hideIt (HP.out.par k hlt ht)
        clear ht
        go_wp2_with fail
        clear et ep kt
        go_loopw [3, 4] (fun v3 v4 wz => wz = wr ∧ ∃ (vis : List Nat), v3 = .int .i64 (vis.length : Int) ∧ vis.Nodup ∧ (∀ x ∈ vis, IsReg s1 x ∧ upM r v4 < r x + 1) ∧ (v4 = .int .u16 65535 ∨ ∃ p, IsReg s1 p ∧ v4 = .int .u16 (p : Int))) (fun _ v4 _ => upM r v4)
        case atStart =>
          refine ⟨rfl, [], rfl, List.nodup_nil, fun x hx => absurd hx (by simp), ?_⟩
          rcases HP0.out with e | ⟨p, hp, e⟩
          · exact Or.inl (by rw [e])
          · exact Or.inr ⟨p, hp, by rw [e]⟩
        case round =>
          obtain ⟨rfl, vis, rfl, hnd, hvis, hv4⟩ := hrel
          rcases hv4 with rfl | ⟨p, hp, rfl⟩
          · clear hnd hvis
            generalize vis.length = vn at *
            go_wp2_with fail
            exact ⟨⟨k + 1, by omega, by go_num, trivial⟩, by simp [intOf]; omega⟩
          · have pc : (p : Int) < 320 := by have := hp.2.1; omega
            have kn : ((p : Int) != 65535) = true := by rw [bne_iff_ne]; omega
            have etp := HM.out.am.typ hp.2.1
            rw [hp.2.2] at etp
            have epp := HM.out.am.par hp.2.1
            have e0 : upM r (.int .u16 (p : Int)) = r p + 1 := by
              unfold upM
              rw [if_neg (by show (p : Int) ≠ 65535; omega)]
              rfl
            have key := HP.out.par p hp.2.1 (by rw [hp.2.2]; decide)
            have hle : upM r (.int .u16 (s1.hd p).par) ≤ r p := by
              rcases key with e | ⟨q, hq, e⟩
              · rw [e]; exact Nat.zero_le _
              · have := HP.out.rk p q hp.2.1 (by rw [hp.2.2]; decide) e hq.2.1
                rw [e]
                unfold upM
                split
                · exact Nat.zero_le _
                · exact this
            have nin : p ∉ vis := fun q => by
              have := (hvis p q).2
              rw [e0] at this
              omega
            have hlen : (p :: vis).length ≤ 64 := by
              have := pigeon 64 ((p :: vis).map (fun x => x - 256)) ?_ (fun x hx => ?_)
              · rw [List.length_map] at this
                exact this
              · refine nodup_map' (fun x hx y hy e => ?_) (List.nodup_cons.2 ⟨nin, hnd⟩)
                have h1 : IsReg s1 x := by
                  rcases List.mem_cons.1 hx with q | q
                  · rw [q]; exact hp
                  · exact (hvis x q).1
                have h2 : IsReg s1 y := by
                  rcases List.mem_cons.1 hy with q | q
                  · rw [q]; exact hp
                  · exact (hvis y q).1
                have := h1.1
                have := h2.1
                omega
              · obtain ⟨y, hy, e⟩ := List.mem_map.1 hx
                have h2 : IsReg s1 y := by
                  rcases List.mem_cons.1 hy with q | q
                  · rw [q]; exact hp
                  · exact (hvis y q).1
                have := h2.1
                have := h2.2.1
                omega
            rw [List.length_cons] at hlen
            have HV := hideIt (And.intro hnd (And.intro hvis (And.intro nin (And.intro e0 (And.intro hle key)))))
            have HPR := hideIt hp
            have w1 : wrap64 ((vis.length : Int) + 1) = (vis.length : Int) + 1 := by unfold wrap64; omega
            have dg : decide ((64 : Int) < (vis.length : Int) + 1) = false := decide_eq_false (by omega)
            clear hnd hvis hp nin hle key e0
            generalize hvn : vis.length = vn at *
            have HVN := hideIt hvn
            clear hvn
            go_wp2_with fail
            obtain ⟨hnd, hvis, nin, e0, hle, key⟩ := HV.out
            refine ⟨⟨trivial, p :: vis, by rw [List.length_cons, HVN.out]; go_num, List.nodup_cons.2 ⟨nin, hnd⟩, fun x hx => ?_, ?_⟩, by rw [e0]; omega⟩
            · rcases List.mem_cons.1 hx with e | e
              · subst e; exact ⟨HPR.out, by omega⟩
              · have := hvis x e
                exact ⟨this.1, by omega⟩
            · rcases key with e | ⟨q, hq, e⟩
              · exact Or.inl (by rw [e])
              · exact Or.inr ⟨q, hq, by rw [e]⟩
    · obtain rfl : k = 320 := by omega
      go_wp2_with fail
      go_end0
      exact ⟨rfl, rfl⟩
end
end Go.Proofs.Qxb6500847aGreatDoor.Os
