/-
  Owners, Within.
-/
import Derived.Test.Qxb6500847aGreatDoorOsR2
import Derived.Test.Qxb6500847aGreatDoorFloorG
import Derived.BigQuiet
import Derived.Deep.LoopGhost
namespace Go.Proofs.Qxb6500847aGreatDoor.Os
open Go.RowKit FloorA
set_option maxRecDepth 100000
theorem inf32 : (Tryz.prog.info? 32).map (fun i => (i.zero, i.size, i.bytes)) = some (some (.agg #[.int .u16 0, .int .u32 0]), 2, 8) := by kernel_rfl
/-- v owns n references, in a block from base on. -/
def OwnR (base : Nat) (w : World) (v : Value) (n : Nat) : Prop := ∃ xs, w.ownsRow base 32 2 v n xs
theorem OwnR.shape {base : Nat} {w : World} {v : Value} {n : Nat} (h : OwnR base w v n) : ∃ ad cap, v = .slice ad n cap := by
  obtain ⟨xs, h⟩ := h
  rcases h.2 with ⟨rfl, hn⟩ | ⟨g, cap, cur, rfl, _⟩
  · exact ⟨none, 0, by rw [hn]⟩
  · exact ⟨_, cap, rfl⟩
/-- Behind an append. -/
theorem OwnR.grow {base B : Nat} {w2 w3 : World} {v : Value} {n : Nat} {xs : List Value} {o : Obj} (h : w2.ownsRow base 32 2 v n xs) (hg : (w2.alloc o).grownBy w3 v.ownBlock) (hB : B ≤ base) (hl : B ≤ w2.heap.size) : Below B w2 w3 := by
  have h1 : Below B w2 (w2.alloc o) := (Below.refl _ _).alloc hl o
  have hb : ∀ k, v.ownBlock = some k → B ≤ k := fun k hk => by
    rcases h.2 with ⟨rfl, _⟩ | ⟨g, cap, cur, rfl, hbg, _⟩
    · cases hk
    · have : g = k := by
        have : some g = some k := hk
        injection this
      omega
  have h2 : Below B (w2.alloc o) w3 := ⟨hg.os, hg.tape, hg.output, hg.size, fun k hk => hg.block k (by simp; omega) (fun e => by
    have := hb k e.symm
    omega)⟩
  exact h1.trans h2
theorem new_two (w : World) (n : Nat) (h : w.heap.size = n) (u v : Value) (t : TypeId) : ∀ j x, [u, v][j]? = some x → (w.alloc (.cells #[u, v] t)).cell? ((⟨n, 0, none⟩ : Addr).add j) = some x := by
  subst h
  intro j x hj
  match j, hj with
  | 0, hj => simp at hj; subst hj; simp [Addr.add]
  | 1, hj => simp at hj; subst hj; simp [Addr.add]
theorem ones2 (a b : Int) : ∀ u ∈ [Value.int .u16 a, Value.int .u32 b], u.oneCell' = true := by
  intro u hu
  rcases List.mem_cons.1 hu with rfl | hu
  · rfl
  · simp at hu; subst hu; rfl
section
variable {A : Nat} {rb sb : Nat → Nat} {s : Av} {tl : Nat → List Int} {ws : Nat → Nat → Nat → Int} {w : World} {L : Nat → List Nat} {n : Nat}
/-- The way up: where it stands. -/
def upM (r : Nat → Nat) (v : Value) : Nat := if intOf v = 65535 then 0 else r (intOf v).toNat + 1
/-- The parent of a live entry is none or a live region. -/
theorem IV.par (hI : IV s tl L n) {i : Nat} (hi : i < 320) (ht : (s.hd i).typ ≠ 0) : (s.hd i).par = 65535 ∨ ∃ p, IsReg s p ∧ (s.hd i).par = (p : Int) := by
  obtain ⟨_, b⟩ := hI.tr.all i hi ht
  exact b.imp id (fun ⟨p, hp, e, _⟩ => ⟨p, hp, e⟩)
def OwPost (s : Av) (i : Nat) (g : Int) (w : World) (e : Ending) (w' : World) : Prop :=
  (∃ v code, e = .returned (.tuple #[.slice none 0 0, v]) ∧ Refu w v w' code ∧ (¬ Live s i g → code = stale i g)) ∨ (Live s i g ∧ ∃ ad k c, e = .returned (.tuple #[.slice ad k c, .nilIface]) ∧ Below w.heap.size w w')
set_option maxHeartbeats 4000000 in
theorem Owners_walk (h : Ms w A rb sb s tl ws) (hI : IV s tl L n) (i : Nat) (g : Int) :
    Calls Tryz.prog 67 #[.pointer (some ⟨A, 0, none⟩), .agg #[.int .u16 (i : Int), .int .u32 g]] w (OwPost s i g w) := by
  obtain ⟨i0, hi0, hz0, hz1, hz2⟩ := info_parts inf32
  have bB := alloc_below (w := w) (.cells #[.int .u16 (i : Int), .int .u32 g] 32)
  have HM := hideIt (h.below bB)
  have HB := hideIt bB
  have HI := hideIt hI
  clear h hI bB
  go_enter Tryz.func67, Tryz.ntmps67
  go_wp2_with fail
  go_at_call 98
  refine (resolve_walk HM.out.am i g _).mono ?_
  rintro e w1 ⟨hb1, hh⟩
  have HB1 := hideIt (Below.thr HB.out hb1)
  have HM1 := hideIt (HM.out.below hb1)
  clear hb1
  rcases hh with ⟨hl, rfl⟩ | ⟨hl, v0, rfl, hv0⟩
  · have ep := HM1.out.am.par hl.1
    obtain ⟨r, hr⟩ := HI.out.rk
    have HR : Hid (Rk s r) := hr
    have HL := hideIt hl
    have HP0 := hideIt (HI.out.par hl.1 hl.2.2.1)
    clear hl hr
    go_wp2_with fail
    go_loopw [8, 9] (fun v8 v9 wr => ∃ (vis : List Nat), vis.Nodup ∧ (∀ x ∈ vis, x < 320 ∧ upM r v9 < r x + 1) ∧ OwnR w1.heap.size wr v8 vis.length ∧ Below w1.heap.size w1 wr ∧ (v9 = .int .u16 65535 ∨ ∃ p, IsReg s p ∧ v9 = .int .u16 (p : Int))) (fun _ v9 _ => upM r v9)
    case atStart =>
      refine ⟨[], List.nodup_nil, fun x hx => absurd hx (by simp), ⟨[], rfl, Or.inl ⟨rfl, rfl⟩⟩, Below.refl _ _, ?_⟩
      rcases HP0.out with e | ⟨p, hp, e⟩
      · exact Or.inl (by rw [e])
      · exact Or.inr ⟨p, hp, by rw [e]⟩
    case round =>
      clear ep HP0
      obtain ⟨vis, hnd, hvis, hown, hbw, hv9⟩ := hrel
      have hlen := pigeon 320 vis hnd (fun x hx => (hvis x hx).1)
      have HO := hideIt hown
      have HN := hideIt hnd
      obtain ⟨ad, cap, rfl⟩ := hown.shape
      have HMr := hideIt (HM1.out.below hbw)
      have HBr := hideIt hbw
      rcases hv9 with rfl | ⟨p, hp, rfl⟩
      · have HF : Hid (OwPost s i g w (.returned (.tuple #[.slice ad vis.length cap, .nilIface])) wr) := Or.inr ⟨HL.out, _, _, _, rfl, Below.thr HB1.out hbw⟩
        clear hown hnd hvis hbw
        generalize vis.length = vn at *
        go_wp2_with fail
        exact bodyPost_ret (by simp [results, Tryz.results67]) rfl HF.out
      · have HV : Hid (∀ x ∈ vis, x < 320 ∧ upM r (.int .u16 (p : Int)) < r x + 1) := hvis
        have pc : (p : Int) < 320 := by have := hp.2.1; omega
        have kn : ((p : Int) != 65535) = true := by rw [bne_iff_ne]; omega
        have HRf := hideIt (refOf_walk HMr.out.am hp.2.1)
        have HPp := hideIt (HI.out.par hp.2.1 (by rw [hp.2.2]; decide))
        have epp := fun w' (k : Below wr.heap.size wr w') => (HMr.out.below k).am.par hp.2.1
        have HEP := hideIt epp
        have HRR : Hid (∀ q : Nat, q < 320 → (s.hd p).par = (q : Int) → r q < r p) := fun q hq e => HR.out p q hp.2.1 (by rw [hp.2.2]; decide) e hq
        have HPR := hideIt hp
        have hsz : w1.heap.size ≤ wr.heap.size := hbw.size
        have HVL : Hid (vis.length = vis.length) := rfl
        generalize hvn : vis.length = vn at *
        have HVN := hideIt hvn
        clear hown hnd hvis hbw hp epp hvn
        go_wp2_with fail
        go_at_call 124
        refine HRf.out.mono ?_
        rintro e w2 ⟨rfl, hb2⟩
        obtain ⟨xs, hxs⟩ := HO.out
        have hxs2 : w2.ownsRow w1.heap.size 32 2 (.slice ad vn cap) vn xs := by
          refine ⟨hxs.1, hxs.2.imp id ?_⟩
          rintro ⟨g', cap', cur, e1, e2, e3, e4⟩
          exact ⟨g', cap', cur, e1, e2, (hb2.block g' (heap_lt e3)).trans e3, e4⟩
        have HX := hideIt hxs2
        have HB2 := hideIt hb2
        have hsz2 : w1.heap.size ≤ w2.heap.size := Nat.le_trans hsz hb2.size
        clear hxs hxs2 hb2
        go_wp2_with ((at_builtin; refine wpList_append_own_at _ rfl (.tmp 32) (.tmp 36) 55 rfl w1.heap.size 32 i0 (.agg #[.int .u16 0, .int .u32 0]) 2 8 Tryz.underlying55 hi0 hz0 hz1 hz2 rfl (by decide) _ _ _ rfl (HX.out.alloc _) ⟨w2.heap.size, 0, none⟩ 1 1 [.int .u16 (p : Int), .int .u32 (s.hd p).gen] rfl rfl (new_two w2 _ rfl _ _ _) (ones2 _ _) (by unfold maxLen; omega) (by omega) (by simp; omega) ?_; intro b1 w3 hown1 hgrow1 _ _; go_loud (have hb3 := (HBr.out.trans (HB2.out.mono hsz)).trans (OwnR.grow HX.out hgrow1 (Nat.le_refl _) hsz2); have ep3 := (HM1.out.below hb3).am.par HPR.out.2.1; have HB3 := hideIt hb3; have HO3 : Hid (OwnR w1.heap.size w3 b1 (vn + 1)) := ⟨_, hown1⟩; clear hown1 hgrow1 hb3)))
        obtain ⟨ad3, cap3, rfl⟩ := HO3.out.shape
        have e0 : upM r (.int .u16 (p : Int)) = r p + 1 := by
          unfold upM
          rw [if_neg (by show (p : Int) ≠ 65535; omega)]
          rfl
        have key : (s.hd p).par = 65535 ∨ ∃ q, IsReg s q ∧ (s.hd p).par = (q : Int) := HPp.out
        have hle : upM r (.int .u16 (s.hd p).par) ≤ r p := by
          rcases key with e | ⟨q, hq, e⟩
          · rw [e]; exact Nat.zero_le _
          · have := HRR.out q hq.2.1 e
            rw [e]
            unfold upM
            split
            · exact Nat.zero_le _
            · exact this
        have nin : p ∉ vis := fun q => by
          have := (HV.out p q).2
          rw [e0] at this
          omega
        refine ⟨⟨p :: vis, List.nodup_cons.2 ⟨nin, HN.out⟩, fun x hx => ?_, by rw [List.length_cons, HVN.out]; exact HO3.out, HB3.out, ?_⟩, by rw [e0]; omega⟩
        · rcases List.mem_cons.1 hx with e | e
          · subst e; exact ⟨HPR.out.2.1, by omega⟩
          · have := HV.out x e
            exact ⟨this.1, by omega⟩
        · rcases key with e | ⟨q, hq, e⟩
          · exact Or.inl (by rw [e])
          · exact Or.inr ⟨q, hq, by rw [e]⟩
  · obtain ⟨b, rfl, hbc⟩ := hv0
    have HF : Hid (OwPost s i g w (.returned (.tuple #[.slice none 0 0, .iface 212 (.pointer (some ⟨b, 0, none⟩))])) w1) := Or.inl ⟨_, _, rfl, ⟨⟨b, rfl, hbc⟩, stale_ne i g, HB1.out⟩, fun _ => rfl⟩
    clear hbc hl
    go_wp2_with fail
    exact bodyPost_ret (by simp [results, Tryz.results67]) rfl HF.out
end
end Go.Proofs.Qxb6500847aGreatDoor.Os
