/-
  A step of the script, as a plain function.
-/
import Derived.Test.Qxb6500847aGreatDoorOxQf
import Derived.Test.Qxb6500847aGreatDoorOxX
import Derived.Test.Qxb6500847aGreatDoorOxW
import Derived.Test.Qxb6500847aGreatDoorOxRp
import Derived.Test.Qxb6500847aGreatDoorOxQk
import Derived.Test.Qxb6500847aGreatDoorOxSt
import Derived.Test.Qxb6500847aGreatDoorOsOp
namespace Go.Proofs.Qxb6500847aGreatDoor.Os
open Go.RowKit FloorA
set_option maxRecDepth 100000
def cX (x : Int × (Nat → En)) : Rs × (Nat → En) := (⟨x.1, [], []⟩, x.2)
noncomputable def stepX (M : Nat → En) (v : OpV) : Rs × (Nat → En) :=
  match v.k with
  | 0 => addX M (v.a : Int) (v.b : Int)
  | 1 => retX M v.i (v.g : Int) v.t v.bt v.ct
  | 2 => (fitX M v.i (v.g : Int) v.t v.bt, M)
  | 3 => cX (freX M v.i (v.g : Int))
  | 4 => recX M v.i (v.g : Int)
  | 5 => cX (epoX M (v.g : Int))
  | 6 => (lkX M v.i (v.g : Int), M)
  | 7 => (regX M v.i (v.g : Int), M)
  | 8 => (chiX M v.i (v.g : Int), M)
  | 9 => (locX M (v.a : Int), M)
  | 10 => (stsX M, M)
  | 11 => (genX M v.i, M)
  | 12 => (loaX M v.i (v.g : Int) v.fd, M)
  | 13 => cX (stoX M v.i (v.g : Int) v.fd (v.a : Int))
  | 14 => (lalX M v.i (v.g : Int), M)
  | 15 => cX (staX M v.i (v.g : Int) (xl v.X v.m))
  | 16 => cX (clrX M v.i (v.g : Int))
  | 17 => cX (cpyX M v.i (v.g : Int) v.j (v.gg : Int))
  | 18 => (⟨0, [], []⟩, M)
  | 19 => (ownX M v.i (v.g : Int), M)
  | 20 => (witX M v.i (v.g : Int) v.j (v.gg : Int), M)
  | _ => (bad 18, M)
/-- The states that a script passes through. -/
noncomputable def trM (f : Nat → OpV) (M : Nat → En) : Nat → (Nat → En)
  | 0 => M
  | k + 1 => (stepX (trM f M k) (f k)).2
def Shrt (X : Rs) : Prop := X.refs.length ≤ 4096 ∧ X.vals.length ≤ 4096
theorem Shrt.bad (c : Int) : Shrt (bad c) := ⟨by simp [Os.bad], by simp [Os.bad]⟩
theorem Shrt.c (x : Int × (Nat → En)) : Shrt (cX x).1 := ⟨by simp [cX], by simp [cX]⟩
theorem Up.tail {M : Nat → En} : ∀ {l1 l2 : List Nat} {x : Int} {p : Nat}, Up M x (l1 ++ p :: l2) → Up M (p : Int) (p :: l2)
  | [], _, _, _, h => ⟨rfl, h.2.1, h.2.2⟩
  | _ :: r, _, _, _, h => Up.tail (l1 := r) h.2.2
theorem Up.nd {M : Nat → En} : ∀ {l : List Nat} {x : Int}, Up M x l → l.Nodup ∧ ∀ p ∈ l, p < 320
  | [], _, _ => ⟨List.nodup_nil, fun _ h => absurd h (by simp)⟩
  | p :: r, _, h => by
    obtain ⟨a, b⟩ := Up.nd h.2.2
    refine ⟨List.nodup_cons.2 ⟨fun q => ?_, a⟩, fun q hq => ?_⟩
    · obtain ⟨l1, l2, e⟩ := List.append_of_mem q
      have h2 : Up M (M p).par (l1 ++ p :: l2) := e ▸ h.2.2
      have h3 := Up.tail h2
      have h4 : Up M (p : Int) (p :: r) := ⟨rfl, h.2.1, h.2.2⟩
      have h5 := Up.uniq h3 h4
      rw [e] at h5
      have := congrArg List.length h5
      simp at this
      omega
    · rcases List.mem_cons.1 hq with rfl | hq
      · exact h.2.1
      · exact b q hq
theorem anc_len (M : Nat → En) (i : Nat) : (ancM M i).length ≤ 320 := by
  unfold ancM
  split
  · rename_i h
    obtain ⟨a, b⟩ := Up.nd (Classical.choose_spec h)
    exact pigeon 320 _ a b
  · simp
theorem kds_len (M : Nat → En) (p : Nat) : (kdsM M p).length ≤ 320 := by
  unfold kdsM
  split
  · rename_i h
    obtain ⟨a, b⟩ := Classical.choose_spec h
    refine pigeon 320 _ (b.imp (fun q e => ?_)) (fun x hx => ((a x).1 hx).1)
    subst e
    omega
  · simp
theorem wds_lim (s : Av) (ws : Nat → Nat → Nat → Int) (i : Nat) : (ob s ws i).wds.length ≤ 112 := by
  have hF : ∀ t, nF t ≤ 112 := fun t => by
    match t with
    | 0 => decide
    | 1 => decide
    | 2 => decide
    | 3 => decide
    | 4 => decide
    | _ + 5 => show 4 ≤ 112; decide
  unfold ob
  split
  · show (wdsOf (s.hd i) ws).length ≤ 112
    unfold wdsOf
    split
    · simp
    · unfold wlist
      rw [List.length_map, List.length_range]
      exact hF _
  · simp [en0]
set_option maxHeartbeats 1000000 in
theorem stp_len (s : Av) (ws : Nat → Nat → Nat → Int) (v : OpV) : Shrt (stepX (ob s ws) v).1 := by
  unfold stepX
  split
  · unfold addX
    split
    · exact Shrt.bad _
    · split
      · exact Shrt.bad _
      · split
        · exact Shrt.bad _
        · exact ⟨by simp, by simp⟩
  · unfold retX
    repeat' (split; · exact Shrt.bad _)
    rename_i h _ _ _
    refine ⟨?_, by simp⟩
    show (List.map _ _).length ≤ 4096
    rw [List.length_map, List.length_take]
    omega
  · unfold fitX
    split
    · exact Shrt.bad _
    · exact ⟨by simp, by simp⟩
  · exact Shrt.c _
  · unfold recX
    split
    · exact Shrt.bad _
    · exact ⟨by simp, by simp⟩
  · exact Shrt.c _
  · unfold lkX
    split
    · exact Shrt.bad _
    · exact ⟨by simp, by simp⟩
  · unfold regX
    split
    · exact Shrt.bad _
    · exact ⟨by simp, by simp⟩
  · unfold chiX
    split
    · exact Shrt.bad _
    · refine ⟨?_, by simp⟩
      show (List.map _ _).length ≤ 4096
      rw [List.length_map]
      exact Nat.le_trans (kds_len _ _) (by decide)
  · unfold locX
    split
    · exact Shrt.bad _
    · split
      · exact ⟨by simp, by simp⟩
      · exact Shrt.bad _
  · unfold stsX svL
    exact ⟨by simp, by simp⟩
  · unfold genX
    split
    · exact ⟨by simp, by simp⟩
    · exact Shrt.bad _
  · unfold loaX
    split
    · exact Shrt.bad _
    · split
      · exact Shrt.bad _
      · exact ⟨by simp, by simp⟩
  · exact Shrt.c _
  · unfold lalX
    split
    · exact Shrt.bad _
    · refine ⟨by simp, ?_⟩
      exact Nat.le_trans (wds_lim s ws v.i) (by decide)
  · exact Shrt.c _
  · exact Shrt.c _
  · exact Shrt.c _
  · exact ⟨by simp, by simp⟩
  · unfold ownX
    split
    · exact Shrt.bad _
    · refine ⟨?_, by simp⟩
      show (List.map _ _).length ≤ 4096
      rw [List.length_map]
      exact Nat.le_trans (anc_len _ _) (by decide)
  · unfold witX
    split
    · exact Shrt.bad _
    · split
      · exact Shrt.bad _
      · exact ⟨by simp, by simp⟩
  · exact Shrt.bad _
end Go.Proofs.Qxb6500847aGreatDoor.Os
